import Derived.Test.YtdnedgkanglgjaaZFnExactGatherPiles5
import Derived.Test.YtdnedgkanglgjaaZFnExactGatherPiles6
import Derived.Test.YtdnedgkanglgjaaZFnExactGatherPiles8
import Derived.Test.YtdnedgkanglgjaaZFnExactGatherPiles9
import Derived.Test.YtdnedgkanglgjaaZFnExactGatherPiles3
import Derived.Deep.Slices
import Derived.Deep.Strs
import Derived.ChangeArms
import Derived.SizedLaws
section
/- Laid by a program of this claim's own. What the Go function does, as a Lean function, and the proof that the Go code does just that; Lean checks it. -/
namespace Go.Proofs.Ytdnedgkanglgjaa.F
open Go.RowKit Go.Proofs.YtdnedgkanglgjaaW.PrintWords Go.Proofs.YtdnedgkanglgjaaW.PrintLast Go.Proofs.YtdnedgkanglgjaaW.PrintMore
attribute [local go_sem] max2_int min2_int max_two min_two max_three min_three max_four min_four   -- for this text's walks alone
set_option linter.unusedVariables false
set_option linter.unusedSimpArgs false
/-! ### laws_markIntSS: function 45 -/
def laws_markIntSS.l0 : Nat → List (List Int) → Int → Int → Option (Int × List (List Int))
  | 0, _, _, _ => none
  | k + 1, x0, x1, x5 => if x5 < (x0.length : Int) then (if 0 ≤ x5 then ((laws_markIntS.f k (x0.getD x5.toNat []) x1).bind fun b => (laws_markIntSS.l0 k (x0.set x5.toNat b.2) b.1 (wrap64 (x5 + 1)))) else (none)) else (some (x1, x0))
def laws_markIntSS.f (k : Nat) (l0 : List (List Int)) (a1 : Int) : Option (Int × List (List Int)) := laws_markIntSS.l0 k l0 a1 0
set_option maxHeartbeats 8000000 in
set_option maxRecDepth 100000 in
theorem laws_markIntSS.calls (k : Nat) (P0_ : Nat → Prop) (u9000_ : Value) (l0 : List (List Int)) (a1 : Int) (r1 : Int) (r2 : List (List Int)) (w0 w : World) (hB : Below w0.heap.size w0 w) (ho0 : Kd.S (Kd.slice 3 (Kd.int .i64)) 22 w w0.heap.size P0_ u9000_ l0) (h : laws_markIntSS.f k l0 a1 = some (r1, r2)) :
    Calls Try.prog 45 #[u9000_, .int .i64 a1] w fun e w' => e = .returned (.int .i64 r1) ∧ Kd.S (Kd.slice 3 (Kd.int .i64)) 22 w' w0.heap.size (fun k_ => (P0_ k_ ∨ w.heap.size ≤ k_)) u9000_ r2 ∧ Below w0.heap.size w0 w' ∧ Kept w w' (fun k_ => P0_ k_) := by
  obtain ⟨A0, c0, rfl⟩ := Kd.S_slice ho0
  have HO := Aside0.mk (Kd.S_mono ho0 (ok' := fun k_ => (P0_ k_ ∨ w.heap.size ≤ k_)) (fun _ hk => .inl hk))
  have HB := Aside0.mk hB
  have H' := Aside0.mk h
  clear ho0 hB h
  go_enter Try.func45, Try.ntmps45
  go_wp2
  go_loopg [1, 5] k (fun kq v1 v5 w' => ∃ (x1 x5 : Int) (xs : List (List Int)), v1 = .int .i64 x1 ∧ v5 = .int .i64 x5 ∧ Aside0 (laws_markIntSS.l0 kq xs x1 x5 = some (r1, r2)) ∧ Aside0 (kq ≤ k) ∧ Aside0 (xs.length = l0.length) ∧ Aside0 (Kd.S (Kd.slice 3 (Kd.int .i64)) 22 w' w0.heap.size (fun k_ => (P0_ k_ ∨ w.heap.size ≤ k_)) (.slice A0 l0.length c0) xs) ∧ Aside0 (Below w0.heap.size w0 w') ∧ Aside0 (Kept w w' (fun k_ => P0_ k_)))
  case atStart => exact ⟨a1, 0, l0, rfl, rfl, H', ⟨Nat.le_refl _⟩, ⟨rfl⟩, HO, HB, ⟨Kept.refl w _⟩⟩
  case round =>
    clear H' HO HB
    obtain ⟨x1, x5, xs, rfl, rfl, HA, HK1, HL, HO, HB, HK⟩ := hrel
    cases gk with
    | zero => exact absurd HA.out (by simp [laws_markIntSS.l0])
    | succ k1 =>
      have H := HA.out
      clear HA
      simp only [laws_markIntSS.l0] at H
      by_cases c4 : x5 < (xs.length : Int)
      · rw [if_pos c4] at H
        by_cases c5 : 0 ≤ x5
        · rw [if_pos c5] at H
          replace H := Option.bind_eq_some_iff.mp H
          obtain ⟨⟨b1, b2⟩, A7, H⟩ := H
          have A8 := Aside0.mk A7
          have H' := Aside0.mk H
          clear A7 H
          have c4' : x5 < (l0.length : Int) := by have := HL.out; omega
          obtain ⟨ad, ead, _⟩ := (Kd.S_reads' HO.out).2.2.2.2 (by have := HL.out; omega)
          cases ead
          obtain ⟨g, rfl⟩ := Kd.R_head (Kd.S_R HO.out)
          obtain ⟨oki, c, hcl, hM, hcc, hoki, hH⟩ := Kd.S_lend HO.out [] x5 c5 (by omega)
          obtain ⟨u, rfl, hR⟩ := hM
          have hcell := hcc 0 u rfl
          have hcell2 : wr.cell? ⟨g, x5.toNat, none⟩ = some u := by simpa [Kd.slice] using hcell
          have HH := Aside0.mk hH
          have HRR := Aside0.mk hR
          have HOKI := Aside0.mk hoki
          clear hcl hcc hoki hH hR hcell
          have c4b0 : decide (x5 < (l0.length : Int)) = true := decide_eq_true c4'
          have c5b0 : decide (0 ≤ x5) = true := decide_eq_true c5
          replace c4' := eq_true c4'
          have HX := Aside0.mk c4
          have HY := Aside0.mk c5
          clear c4
          replace c5 := eq_true c5
          go_wp2_with (go_at_call 20; (with_reducible refine (laws_markIntS.calls k1 oki u (xs.getD x5.toNat []) x1 b1 b2 w0 _ ?side1 ?side2 A8.out).mono ?_); (case side1 => exact HB.out); (case side2 => exact HRR.out); rintro e w7 ⟨rfl, hr7, hb7, hk7⟩; have HR7 := Aside0.mk hr7; have HB7 := Aside0.mk hb7; have HK7 := Aside0.mk hk7; clear hr7 hb7 hk7)
          go_roundg k1
          case measure => have := HK1.out; omega
          case rel =>
            have hsz : w.heap.size ≤ wr.heap.size := HK.out.1
            have hwide := Kd.H_widen HH.out
            have hstep := Kd.H_step hwide (w1 := w7) (fun k_ ho hn hlt => HK7.out.2 k_ hlt (fun hk => hn (.inl hk)))
            have hback := Kd.H_back hstep (x' := b2) (okp := fun k_ => (oki k_ ∨ wr.heap.size ≤ k_)) (Kd.M_row HR7.out) (fun k_ hk => hk.elim .inl (fun h2 => .inr ⟨.inr (Nat.le_trans hsz h2), h2⟩))
            have hkept : Kept w w7 (fun k_ => P0_ k_) := HK.out.then_ HK7.out (fun k_ hk => (HOKI.out k_ hk).1)
            exact ⟨b1, wrap64 (x5 + 1), xs.set x5.toNat b2, rfl, rfl, H', ⟨by have := HK1.out; omega⟩, ⟨by rw [List.length_set]; exact HL.out⟩, ⟨hback⟩, ⟨HB7.out⟩, ⟨hkept⟩⟩
        · rw [if_neg c5] at H
          exact absurd H (by simp)
      · rw [if_neg c4] at H
        simp only [Option.some.injEq, Prod.mk.injEq] at H
        obtain ⟨rfl, rfl⟩ := H
        have c4' : ¬ x5 < (l0.length : Int) := by have := HL.out; omega
        have c4b0 : decide (x5 < (l0.length : Int)) = false := decide_eq_false c4'
        clear c4 c4'
        go_wp2
        go_ret
        exact ⟨rfl, HO.out, HB.out, HK.out⟩
end Go.Proofs.Ytdnedgkanglgjaa.F
end
section
/- Laid by a program of this claim's own. What the Go function does, as a Lean function, and the proof that the Go code does just that; Lean checks it. -/
namespace Go.Proofs.Ytdnedgkanglgjaa.F
open Go.RowKit Go.Proofs.YtdnedgkanglgjaaW.PrintWords Go.Proofs.YtdnedgkanglgjaaW.PrintLast Go.Proofs.YtdnedgkanglgjaaW.PrintMore
attribute [local go_sem] max2_int min2_int max_two min_two max_three min_three max_four min_four   -- for this text's walks alone
set_option linter.unusedVariables false
set_option linter.unusedSimpArgs false
/-! ### laws_FnExactGatherPiles: function 10 -/
/-- What is to be shown of numbers and lists: both functions make the same; marks that are laid are held. -/
def laws_FnExactGatherPiles.f (k : Nat) (l0 : List (List Int)) (a1 a2 : Int) : Option Bool :=
  (laws_szIntSS.f k l0 1048576).bind fun s => if s < 0 then some true else
  (spec_GatherPiles.f k l0 a1 a2).bind fun R => (laws_markIntSS.f k l0 1).bind fun M => (laws_markIntS.f k R.1 1).bind fun m =>
    if laws_toIntSS.f k l0 = some l0 ∧ impl_GatherPiles.f k l0 a1 a2 = some R ∧ laws_eqIntS.f k R.1 R.1 = some true ∧ laws_eqIntSS.f k l0 l0 = some true ∧ 0 ≤ M.1 ∧ 0 ≤ m.1 ∧ laws_heldIntS.f k m.2 1 = some m.1 then some true else none
set_option maxHeartbeats 16000000 in
set_option maxRecDepth 100000 in
theorem laws_FnExactGatherPiles.calls_big (k : Nat) (A0 : Option Addr) (c0 : Nat) (l0 : List (List Int)) (a1 a2 s : Int) (w : World) (hr0 : Kd.C (Kd.slice 3 (Kd.int .i64)) w A0 l0.length l0) (hc0 : l0.length ≤ c0) (hs : laws_szIntSS.f k l0 1048576 = some s) (hneg : s < 0) :
    Calls Try.prog 10 #[.slice A0 l0.length c0, .int .i64 a1, .int .i64 a2] w fun e w' => e = .returned (.bool true) ∧ Below w.heap.size w w' := by
  have HR0 := Aside0.mk hr0
  have HC0 := Aside0.mk hc0
  have HS := Aside0.mk hs
  have g1 : decide (s < 0) = true := decide_eq_true hneg
  clear hr0 hc0 hs hneg
  go_enter Try.func10, Try.ntmps10
  go_wp2_with (go_at_call 32; (with_reducible refine (laws_szIntSS.calls k A0 c0 l0 1048576 s _ HR0.out HC0.out HS.out).mono ?_); rintro e w1 ⟨rfl, hd⟩; have B1 := Aside0.mk hd.below; clear hd)
  go_ret
  exact ⟨rfl, B1.out⟩
set_option maxHeartbeats 16000000 in
set_option maxRecDepth 100000 in
theorem laws_FnExactGatherPiles.calls_in (k : Nat) (A0 : Option Addr) (c0 : Nat) (l0 : List (List Int)) (a1 a2 s : Int) (w : World) (hr0 : Kd.C (Kd.slice 3 (Kd.int .i64)) w A0 l0.length l0) (hc0 : l0.length ≤ c0) (hsz : laws_szIntSS.f k l0 1048576 = some s) (hneg : ¬ s < 0)
    (r : List Int) (b : Bool) (M1 : Int) (M2 : List (List Int)) (m1 : Int) (m2 : List Int) (hs : spec_GatherPiles.f k l0 a1 a2 = some (r, b)) (hM : laws_markIntSS.f k l0 1 = some (M1, M2)) (hm : laws_markIntS.f k r 1 = some (m1, m2)) (ht : laws_toIntSS.f k l0 = some l0)
    (hi : impl_GatherPiles.f k l0 a1 a2 = some (r, b)) (he : laws_eqIntS.f k r r = some true) (hq : laws_eqIntSS.f k l0 l0 = some true) (hn1 : 0 ≤ M1) (hn2 : 0 ≤ m1) (hh : laws_heldIntS.f k m2 1 = some m1) :
    Calls Try.prog 10 #[.slice A0 l0.length c0, .int .i64 a1, .int .i64 a2] w fun e w' => e = .returned (.bool true) ∧ Below w.heap.size w w' := by
  have HR0 := Aside0.mk hr0
  have HC0 := Aside0.mk hc0
  have HSZ := Aside0.mk hsz
  have HS := Aside0.mk hs
  have HI := Aside0.mk hi
  have HT := Aside0.mk ht
  have HE := Aside0.mk he
  have HQ := Aside0.mk hq
  have HM := Aside0.mk hM
  have HM1 := Aside0.mk hm
  have HH := Aside0.mk hh
  have g1 : decide (s < 0) = false := decide_eq_false hneg
  have g2 : decide (M1 < 0) = false := decide_eq_false (by omega)
  have g3 : decide (m1 < 0) = false := decide_eq_false (by omega)
  have g4 : (b == b) = true := beq_self_eq_true b
  have g5 : (b != b) = false := bne_self_eq_false b
  clear hr0 hc0 hsz hneg hs hM hm ht hi he hq hn1 hn2 hh
  go_enter Try.func10, Try.ntmps10
  go_wp2_with (go_at_call 32; (with_reducible refine (laws_szIntSS.calls k A0 c0 l0 1048576 s _ HR0.out HC0.out HSZ.out).mono ?_); rintro e w1 ⟨rfl, hd⟩; have B1 := Aside0.mk hd.below; clear hd)
  go_wp2_with (go_at_call 34; (with_reducible refine (laws_toIntSS.calls k A0 c0 l0 l0 _ (Kd.C_below HR0.out B1.out) HC0.out HT.out).mono ?_); rintro e w2 ⟨v, rfl, ho, hb⟩; obtain ⟨A2, c2, rfl⟩ := Kd.S_slice ho; have B2 := Aside0.mk (below_step B1.out hb); have C2 := Aside0.mk (Kd.S_reads' ho).2.2; have L2 := Aside0.mk (Kd.S_reads' ho).2.1; clear ho hb B1)
  go_wp2_with (go_at_call 43; (with_reducible refine (spec_GatherPiles.calls k A2 c2 l0 a1 a2 r b _ C2.out L2.out HS.out).mono ?_); rintro e w3 ⟨v, rfl, ho, hb⟩; obtain ⟨A3, c3, rfl⟩ := Kd.R_slice ho; have B3 := Aside0.mk (below_step B2.out hb); have C3 := Aside0.mk (Kd.R_reads' ho).2.2; have L3 := Aside0.mk (Kd.R_reads' ho).2.1; clear ho hb B2 C2 L2)
  go_wp2_with (go_at_call 34; (with_reducible refine (laws_toIntSS.calls k A0 c0 l0 l0 _ (Kd.C_below HR0.out B3.out) HC0.out HT.out).mono ?_); rintro e w4 ⟨v, rfl, ho, hb⟩; obtain ⟨A4, c4, rfl⟩ := Kd.S_slice ho; have D4 := Aside0.mk hb; have S4 := Aside0.mk ho; have SZ34 := Aside0.mk hb.size; clear ho hb)
  go_wp2_with (go_at_call 44; (with_reducible refine (impl_GatherPiles.calls k A4 c4 l0 a1 a2 r b _ (Kd.S_reads' S4.out).2.2 (Kd.S_reads' S4.out).2.1 HI.out).mono ?_); rintro e w5 ⟨v, rfl, ho, hb⟩; obtain ⟨A5, c5, rfl⟩ := Kd.R_slice ho; have D5 := Aside0.mk (below_step D4.out hb); have R5 := Aside0.mk ho; have S5 := Aside0.mk (Kd.S_old S4.out hb); clear ho hb D4 S4)
  go_wp2_with (go_at_call 19; (with_reducible refine (laws_eqIntS.calls k A5 c5 r A3 c3 r true _ (Kd.R_reads' R5.out).2.2 (Kd.R_reads' R5.out).2.1 (Kd.C_below C3.out D5.out) L3.out HE.out).mono ?_); rintro e w6 ⟨rfl, hd⟩; have D6 := Aside0.mk (below_step D5.out hd.below); have R6 := Aside0.mk (Kd.R_below R5.out hd.below); have S6 := Aside0.mk (Kd.S_below S5.out hd.below); clear hd D5 R5 S5)
  go_wp2_with (go_at_call 34; (with_reducible refine (laws_toIntSS.calls k A0 c0 l0 l0 _ (Kd.C_below HR0.out (below_step B3.out D6.out)) HC0.out HT.out).mono ?_); rintro e w7 ⟨v, rfl, ho, hb⟩; obtain ⟨A7, c7, rfl⟩ := Kd.S_slice ho; have D7 := Aside0.mk (below_step D6.out hb); have R7 := Aside0.mk (Kd.R_below R6.out hb); have S7 := Aside0.mk (Kd.S_below S6.out hb); have C7 := Aside0.mk (Kd.S_reads' ho).2.2; have L7 := Aside0.mk (Kd.S_reads' ho).2.1; clear ho hb D6 R6 S6)
  go_wp2_with (go_at_call 36; (with_reducible refine (laws_eqIntSS.calls k A4 c4 l0 A7 c7 l0 true _ (Kd.S_reads' S7.out).2.2 (Kd.S_reads' S7.out).2.1 C7.out L7.out HQ.out).mono ?_); rintro e w8 ⟨rfl, hd⟩; have D8 := Aside0.mk (below_step D7.out hd.below); have R8 := Aside0.mk (Kd.R_below R7.out hd.below); have S8 := Aside0.mk (Kd.S_below S7.out hd.below); clear hd D7 R7 S7 C7 L7)
  go_wp2_with (go_at_call 45; (with_reducible refine (laws_markIntSS.calls k (fun k_ => True ∧ k_ < w4.heap.size) _ l0 1 M1 M2 w3 _ D8.out S8.out HM.out).mono ?_); rintro e w9 ⟨rfl, ho, hb, hk⟩; have D9 := Aside0.mk hb; have R9 := Aside0.mk (Kd.R_lower (R_past R8.out hk (fun k_ h_ e_ => Nat.lt_irrefl _ (Nat.lt_of_lt_of_le e_.2 h_))) SZ34.out); clear ho hb hk D8 R8 S8)
  go_wp2_with (go_at_call 19; (with_reducible refine (laws_eqIntS.calls k A5 c5 r A3 c3 r true _ (Kd.R_reads' R9.out).2.2 (Kd.R_reads' R9.out).2.1 (Kd.C_below C3.out D9.out) L3.out HE.out).mono ?_); rintro e w10 ⟨rfl, hd⟩; have D10 := Aside0.mk (below_step D9.out hd.below); have R10 := Aside0.mk (Kd.R_below R9.out hd.below); clear hd D9 R9)
  go_wp2_with (go_at_call 20; (with_reducible refine (laws_markIntS.calls k (fun _ => True) _ r 1 m1 m2 w3 _ D10.out R10.out HM1.out).mono ?_); rintro e w11 ⟨rfl, ho, hb, hk⟩; have D11 := Aside0.mk hb; have R11 := Aside0.mk ho; have E11 := Aside0.mk (Kd.R_reads' ho).1; clear ho hb hk D10 R10)
  go_wp2_with (go_at_call 25; refine calls_of_args (args' := #[.slice A5 m2.length c5, .int .i64 1]) (by rw [← E11.out]) ?_; (with_reducible refine (laws_heldIntS.calls k A5 c5 m2 1 m1 _ (Kd.R_reads' R11.out).2.2 (by rw [← E11.out]; exact (Kd.R_reads' R11.out).2.1) HH.out).mono ?_); rintro e w12 ⟨rfl, hd⟩; have D12 := Aside0.mk (below_step D11.out hd.below); have R12 := Aside0.mk (Kd.R_below R11.out hd.below); clear hd D11 R11)
  go_wp2_with (go_at_call 34; (with_reducible refine (laws_toIntSS.calls k A0 c0 l0 l0 _ (Kd.C_below HR0.out (below_step B3.out D12.out)) HC0.out HT.out).mono ?_); rintro e w13 ⟨v, rfl, ho, hb⟩; obtain ⟨A13, c13, rfl⟩ := Kd.S_slice ho; have D13 := Aside0.mk (below_step D12.out hb); have R13 := Aside0.mk (Kd.R_below R12.out hb); have C13 := Aside0.mk (Kd.S_reads' ho).2.2; have L13 := Aside0.mk (Kd.S_reads' ho).2.1; clear ho hb D12 R12)
  go_wp2_with (go_at_call 44; (with_reducible refine (impl_GatherPiles.calls k A13 c13 l0 a1 a2 r b _ C13.out L13.out HI.out).mono ?_); rintro e w14 ⟨v, rfl, ho, hb⟩; obtain ⟨A14, c14, rfl⟩ := Kd.R_slice ho; have D14 := Aside0.mk (below_step D13.out hb); have R14 := Aside0.mk (Kd.R_below R13.out hb); have C14 := Aside0.mk (Kd.R_reads' ho).2.2; have L14 := Aside0.mk (Kd.R_reads' ho).2.1; clear ho hb D13 R13 C13 L13)
  go_wp2_with (go_at_call 19; (with_reducible refine (laws_eqIntS.calls k A14 c14 r A3 c3 r true _ C14.out L14.out (Kd.C_below C3.out D14.out) L3.out HE.out).mono ?_); rintro e w15 ⟨rfl, hd⟩; have D15 := Aside0.mk (below_step D14.out hd.below); have R15 := Aside0.mk (Kd.R_below R14.out hd.below); clear hd D14 R14 C14 L14)
  go_wp2_with (go_at_call 25; refine calls_of_args (args' := #[.slice A5 m2.length c5, .int .i64 1]) (by rw [← E11.out]) ?_; (with_reducible refine (laws_heldIntS.calls k A5 c5 m2 1 m1 _ (Kd.R_reads' R15.out).2.2 (by rw [← E11.out]; exact (Kd.R_reads' R15.out).2.1) HH.out).mono ?_); rintro e w16 ⟨rfl, hd⟩; have D16 := Aside0.mk (below_step D15.out hd.below); clear hd D15 R15)
  go_ret
  exact ⟨rfl, below_step B3.out D16.out⟩
theorem laws_FnExactGatherPiles.calls (k : Nat) (A0 : Option Addr) (c0 : Nat) (l0 : List (List Int)) (a1 a2 : Int) (r : Bool) (w : World) (hr0 : Kd.C (Kd.slice 3 (Kd.int .i64)) w A0 l0.length l0) (hc0 : l0.length ≤ c0) (h : laws_FnExactGatherPiles.f k l0 a1 a2 = some r) :
    Calls Try.prog 10 #[.slice A0 l0.length c0, .int .i64 a1, .int .i64 a2] w fun e w' => e = .returned (.bool r) ∧ Below w.heap.size w w' := by
  unfold laws_FnExactGatherPiles.f at h
  obtain ⟨s, h1, h⟩ := Option.bind_eq_some_iff.mp h
  by_cases hs : s < 0
  · rw [if_pos hs] at h
    obtain rfl := Option.some.inj h
    exact laws_FnExactGatherPiles.calls_big k A0 c0 l0 a1 a2 s w hr0 hc0 h1 hs
  · rw [if_neg hs] at h
    obtain ⟨⟨R1, R2⟩, h2, h⟩ := Option.bind_eq_some_iff.mp h
    obtain ⟨⟨M1, M2⟩, h3, h⟩ := Option.bind_eq_some_iff.mp h
    obtain ⟨⟨m1, m2⟩, h4, h⟩ := Option.bind_eq_some_iff.mp h
    split at h
    · rename_i hc
      obtain ⟨q1, q2, q3, q4, q5, q6, q7⟩ := hc
      obtain rfl := Option.some.inj h
      exact laws_FnExactGatherPiles.calls_in k A0 c0 l0 a1 a2 s w hr0 hc0 h1 hs R1 R2 M1 M2 m1 m2 h2 h3 h4 q1 q2 q3 q4 q5 q6 q7
    · cases h
end Go.Proofs.Ytdnedgkanglgjaa.F
end
section
/- What an argument reads as, kind by kind: plain facts of my own on the model's reading; no function of the program is named here. -/
namespace Go.Proofs.Ytdnedgkanglgjaa.F
open Go.ChangeShapes Go.WideShapes Go.RowKit Go.Proofs.YtdnedgkanglgjaaW.PrintWords
/-- All that reads by type t is of kind d, and has Q. -/
def Opn {α : Type} (P : Program) (t : TypeId) (d : Kd α) (Q : α → Prop) : Prop :=
  ∀ (H : Type) (enc : TypeId × Value → H) (w : World) (base : Nat) (held : Bool) (fuel : Nat) (cs : List Value) (x : DataW H × List MemPlace), DataW.trod enc P w base (fun _ => true) held fuel t cs = some x → (∀ n ∈ x.1.weights P t, n ≤ reachBytes) → ∃ a, d.K w a cs ∧ Q a
theorem reach_eq : reachBytes = 140737488351232 := by decide
section
variable {P : Program} {t e : TypeId}
theorem Opn_int {k : IntKind} (ht : P.underlying t = some (.int k)) : Opn P t (Kd.int k) (fun n => (Lit.int k n).wf = true) := by
  intro H enc w base held fuel cs x h _
  obtain ⟨n, rfl, _, hw⟩ := DataW.trod_int ht h
  exact ⟨n, rfl, hw⟩
theorem weightsAll_mem {H : Type} {P : Program} {e : TypeId} : ∀ {ds : List (DataW H)} {d : DataW H}, d ∈ ds → ∀ n ∈ d.weights P e, n ∈ DataW.weightsAll P e ds
  | d0 :: ds, d, hd, n, hn => by
    simp only [DataW.weightsAll, List.mem_append]
    rcases List.mem_cons.mp hd with rfl | hd
    · exact Or.inl hn
    · exact Or.inr (weightsAll_mem hd n hn)
  | [], _, hd, _, _ => by simp at hd
theorem Opn_slice {α : Type} {d : Kd α} {Q : α → Prop} (e' B : Nat) (hB : P.bytesOf e = B) (ht : P.underlying t = some (.slice e)) (hc : P.cellsOf e = d.sz) (h : Opn P e d Q) :
    Opn P t (Kd.slice e' d) (fun xs => xs.length * B ≤ 140737488351232 ∧ xs.length ≤ maxLen ∧ ∀ x ∈ xs, Q x) := by
  intro H enc w base held fuel cs x hx hz
  rcases Go.Deep.open_slice ht hx with ⟨rfl, _⟩ | ⟨a, len, cap, m, n, D, Pl, rfl, _, hl, hm, hmm, rfl, hel⟩
  · exact ⟨[], ⟨none, 0, rfl, Nat.le_refl _, rfl, by simp, fun h => absurd h (by simp)⟩, by simp, by simp, by simp⟩
  · have hmm' : m = cap := by simpa using hmm
    subst hmm'
    have hz' := hz
    simp only [DataW.weights, ht] at hz'
    have each : ∀ i, i < len → ∃ y : α, (∃ c, c.length = d.sz ∧ d.K w y c ∧ ∀ j u, c[j]? = some u → w.cell? (a.add (i * d.sz + j)) = some u) ∧ Q y := by
      intro i hi
      obtain ⟨cs', h1, h2⟩ := hel i (by omega)
      obtain ⟨y, hK, hQ⟩ := h H enc w base held n cs' _ h2 (fun q hq => hz' q (List.mem_cons_of_mem _ (List.mem_append.mpr (Or.inl (weightsAll_mem (List.mem_map.mpr ⟨i, List.mem_range.mpr hi, rfl⟩) q hq)))))
      obtain ⟨_, h4, h5⟩ := World.cells?_some h1
      rw [hc] at h4 h5
      refine ⟨y, ⟨cs', h4, hK, fun j u hu => ?_⟩, hQ⟩
      have hj : j < d.sz := by
        rw [← h4]
        exact (List.getElem?_eq_some_iff.mp hu).1
      have := h5 j hj
      rw [hu] at this
      rw [← this]
      congr 1
      unfold Addr.add
      by_cases q1 : i * d.sz = 0
      · simp [q1]
      · by_cases q2 : j = 0
        · simp [q1, q2]
        · simp [q1, q2, Nat.add_assoc]
    rcases Nat.eq_zero_or_pos len with hl0 | hl0
    · subst hl0
      exact ⟨[], ⟨some a, m, rfl, by simp, rfl, by simp, fun h => absurd h (by simp)⟩, by simp, by simp, by simp⟩
    haveI : Inhabited α := ⟨Classical.choose (each 0 hl0)⟩
    obtain ⟨Y, hY⟩ := Go.Deep.choose_lt each
    refine ⟨(List.range len).map Y, ⟨some a, m, by simp, by simpa using hl, by simp, ?_, fun _ => ⟨a, rfl, ?_⟩⟩, ?_, by simp; omega, ?_⟩
    · have : maxLen ≤ 9223372036854775807 := by decide
      simp
      omega
    · intro j p hp
      simp only [List.getElem?_map, Option.map_eq_some_iff] at hp
      obtain ⟨i, hi, rfl⟩ := hp
      obtain ⟨hi1, hi2⟩ := List.getElem?_eq_some_iff.mp hi
      simp only [List.length_range] at hi1
      simp only [List.getElem_range] at hi2
      subst hi2
      exact (hY _ hi1).1
    · have := hz' _ List.mem_cons_self
      rw [hB, reach_eq] at this
      simp only [List.length_map, List.length_range] at this ⊢
      exact Nat.le_trans (Nat.mul_le_mul_right _ (Nat.le_add_right _ _)) this
    · intro x hx
      obtain ⟨i, hi, rfl⟩ := List.mem_map.mp hx
      exact (hY i (List.mem_range.mp hi)).2
end
end Go.Proofs.Ytdnedgkanglgjaa.F
end
section
namespace Go.Proofs.Ytdnedgkanglgjaa.F
open Go.RowKit Go.Proofs.YtdnedgkanglgjaaW.PrintWords
/-- What is to be shown of numbers and lists. -/
def laws_FnExactGatherPiles.Pure : Prop := ∀ (l0 : List (List (Int))) (a1 : Int) (a2 : Int), ((l0.length * 24 ≤ 140737488351232 ∧ l0.length ≤ maxLen ∧ ∀ yl0 ∈ l0, (yl0.length * 8 ≤ 140737488351232 ∧ yl0.length ≤ maxLen ∧ ∀ yyl0 ∈ yl0, ((Lit.int .i64 yyl0).wf = true)))) → (((Lit.int .i64 a1).wf = true)) → (((Lit.int .i64 a2).wf = true)) → ∃ k, laws_FnExactGatherPiles.f k l0 a1 a2 = some true
end Go.Proofs.Ytdnedgkanglgjaa.F
end
section
/- What the laws' own helpers tell: equality, a copy, marks and whether they are held. -/
namespace Go.Proofs.Ytdnedgkanglgjaa.F
open Go.RowKit Go.Proofs.YtdnedgkanglgjaaW.PrintWords Go.Proofs.YtdnedgkanglgjaaW.PrintLast Go.Proofs.YtdnedgkanglgjaaW.PrintMore
set_option linter.unusedVariables false
set_option linter.unusedSimpArgs false
theorem eqIntS_at (rest : List Int) : ∀ (pre : List Int) (ys : List Int), (pre ++ ys).length ≤ 4611686018427387904 → rest.length = ys.length →
    Ev (fun k => laws_eqIntS.l0 k (pre ++ rest) (pre ++ ys) (pre.length : Int)) (decide (rest = ys)) := by
  induction rest with
  | nil =>
    intro pre ys hb hl
    obtain rfl : ys = [] := List.eq_nil_of_length_eq_zero hl.symm
    exact Ev.step (f := fun _ => some true) (fun k => by rw [laws_eqIntS.l0, if_neg (mid_nlt _)]) (Ev.now _)
  | cons x rest ih =>
    intro pre ys hb hl
    cases ys with
    | nil => simp at hl
    | cons y ys =>
      by_cases e : x = y
      · subst e
        have h := ih (pre ++ [x]) ys (by simpa using hb) (by simpa using hl)
        rw [← mid_cons, ← mid_cons] at h
        rw [show decide (x :: rest = x :: ys) = decide (rest = ys) by simp]
        exact Ev.step (fun k => by rw [laws_eqIntS.l0, if_pos (mid_lt _ _ _), if_pos (nn _), if_pos (mid_lt _ _ _), mid_rd, mid_rd, if_pos rfl, mid_succ pre x (by simp at hb; omega)]) h
      · rw [show decide (x :: rest = y :: ys) = false by simp [e]]
        exact Ev.step (f := fun _ => some false) (fun k => by rw [laws_eqIntS.l0, if_pos (mid_lt _ _ _), if_pos (nn _), if_pos (mid_lt _ _ _), mid_rd, mid_rd, if_neg e]) (Ev.now _)
theorem eqIntS_ev (l m : List Int) (hl : l.length ≤ 4611686018427387904) : Ev (fun k => laws_eqIntS.f k l m) (decide (l = m)) := by
  unfold laws_eqIntS.f
  by_cases e : (l.length : Int) = (m.length : Int)
  · have h := eqIntS_at l [] m (by simp; omega) (by omega)
    simpa [e] using h
  · have e2 : ¬ l = m := fun h => e (by rw [h])
    simp only [if_neg e, e2, decide_false]
    exact Ev.now _
theorem eqIntS_same (l : List Int) (hl : l.length ≤ 4611686018427387904) : Ev (fun k => laws_eqIntS.f k l l) true := by
  have := eqIntS_ev l l hl
  simpa using this
theorem toIntS_at (rest : List Int) : ∀ (pre zs : List Int), (pre ++ rest).length ≤ 4611686018427387904 → zs.length = rest.length →
    Ev (fun k => laws_toIntS.l0 k (pre ++ rest) (pre ++ zs) (pre.length : Int)) (pre ++ rest) := by
  induction rest with
  | nil =>
    intro pre zs hb hl
    obtain rfl : zs = [] := List.eq_nil_of_length_eq_zero hl
    exact Ev.step (f := fun _ => some (pre ++ [])) (fun k => by rw [laws_toIntS.l0, if_neg (mid_nlt _)]) (Ev.now _)
  | cons x rest ih =>
    intro pre zs hb hl
    cases zs with
    | nil => simp at hl
    | cons z zs =>
      have h := ih (pre ++ [x]) zs (by simpa using hb) (by simpa using hl)
      rw [← mid_cons] at h
      exact Ev.step (fun k => by rw [laws_toIntS.l0, if_pos (mid_lt _ _ _), if_pos (nn _), if_pos (mid_lt _ _ _), mid_rd, mid_set, mid_succ pre x (by simp at hb; omega)]) h
theorem toIntS_ev (l : List Int) (hl : l.length ≤ 35184372088832) : Ev (fun k => laws_toIntS.f k l) l := by
  unfold laws_toIntS.f
  have h := toIntS_at l [] (List.replicate l.length 0) (by simp; omega) (by simp)
  have e2 : (0 : Int) ≤ (l.length : Int) := nn _
  simpa [hl] using h
theorem markIntS_at (rest : List Int) : ∀ (pre : List Int) (a : Int), (pre ++ rest).length ≤ 4611686018427387904 → 0 ≤ a → a + rest.length ≤ 4611686018427387904 →
    Ev (fun k => laws_markIntS.l0 k (pre ++ rest) a (pre.length : Int)) (a + rest.length, pre ++ seqFrom a rest.length) := by
  induction rest with
  | nil =>
    intro pre a hb h0 h1
    refine Ev.step (f := fun _ => some (a + 0, pre ++ [])) (fun k => ?_) ?_
    · rw [laws_markIntS.l0, if_neg (mid_nlt _)]
      simp
    · simpa [seqFrom] using Ev.now _
  | cons x rest ih =>
    intro pre a hb h0 h1
    have h := ih (pre ++ [a]) (a + 1) (by simpa using hb) (by omega) (by simp at h1; omega)
    have e : (a + ((x :: rest).length : Int), pre ++ seqFrom a (x :: rest).length) = (a + 1 + (rest.length : Int), pre ++ [a] ++ seqFrom (a + 1) rest.length) := by
      simp [seqFrom]
      omega
    rw [e]
    exact Ev.step (fun k => by rw [laws_markIntS.l0, if_pos (mid_lt _ _ _), if_pos (nn _), mid_set, w64_id (by omega) (by simp at h1; omega), mid_succ pre a (by simp at hb; omega)]) h
theorem markIntS_ev (l : List Int) (a : Int) (hl : l.length ≤ 1152921504606846976) (h0 : 0 ≤ a) (h1 : a ≤ 1152921504606846976) : Ev (fun k => laws_markIntS.f k l a) (a + l.length, seqFrom a l.length) := by
  unfold laws_markIntS.f
  have h := markIntS_at l [] a (by simp; omega) h0 (by omega)
  simpa using h
theorem heldIntS_at (n : Nat) : ∀ (pre : List Int) (a : Int), (pre ++ seqFrom a n).length ≤ 4611686018427387904 → 0 ≤ a → a + n ≤ 4611686018427387904 →
    Ev (fun k => laws_heldIntS.l0 k (pre ++ seqFrom a n) a (pre.length : Int)) (a + n) := by
  induction n with
  | zero =>
    intro pre a hb h0 h1
    refine Ev.step (f := fun _ => some (a + 0)) (fun k => ?_) ?_
    · show laws_heldIntS.l0 (k + 1) (pre ++ []) a _ = _
      rw [laws_heldIntS.l0, if_neg (mid_nlt _)]
      simp
    · simpa using Ev.now _
  | succ n ih =>
    intro pre a hb h0 h1
    have h := ih (pre ++ [a]) (a + 1) (by simpa [seqFrom] using hb) (by omega) (by omega)
    rw [← mid_cons] at h
    have e : a + ((n + 1 : Nat) : Int) = a + 1 + (n : Int) := by omega
    rw [e]
    refine Ev.step (fun k => ?_) h
    show laws_heldIntS.l0 (k + 1) (pre ++ a :: seqFrom (a + 1) n) a _ = _
    rw [laws_heldIntS.l0, if_pos (mid_lt _ _ _), if_pos (nn _), mid_rd, if_pos rfl, w64_id (by omega) (by omega), mid_succ pre a (by simp at hb; omega)]
theorem heldIntS_ev (n : Nat) (a : Int) (hl : n ≤ 1152921504606846976) (h0 : 0 ≤ a) (h1 : a ≤ 1152921504606846976) : Ev (fun k => laws_heldIntS.f k (seqFrom a n) a) (a + n) := by
  unfold laws_heldIntS.f
  have h := heldIntS_at n [] a (by simp [seqFrom_length]; omega) h0 (by omega)
  simpa using h
end Go.Proofs.Ytdnedgkanglgjaa.F
end
section
/- The laws' helpers on lists of lists. -/
namespace Go.Proofs.Ytdnedgkanglgjaa.F
open Go.RowKit Go.Proofs.YtdnedgkanglgjaaW.PrintWords Go.Proofs.YtdnedgkanglgjaaW.PrintLast Go.Proofs.YtdnedgkanglgjaaW.PrintMore
set_option linter.unusedVariables false
set_option linter.unusedSimpArgs false
def total (l : List (List Int)) : Nat := (l.map List.length).sum
theorem total_cons (x : List Int) (l : List (List Int)) : total (x :: l) = x.length + total l := by simp [total]
theorem mid_rdL (pre : List (List Int)) (x : List Int) (rest : List (List Int)) : (pre ++ x :: rest).getD ((pre.length : Int)).toNat [] = x := by simp
theorem mid_rdL1 (pre : List (List Int)) (x : List Int) (rest : List (List Int)) : rd_L2 (pre ++ x :: rest) (pre.length : Int) = x := by
  unfold rd_L2
  first | exact mid_rdL pre x rest | simp [rdOf]
theorem eqIntSS_at (rest : List (List Int)) : ∀ (pre : List (List Int)), (pre ++ rest).length ≤ 4611686018427387904 → (∀ x ∈ rest, x.length ≤ 4611686018427387904) →
    Ev (fun k => laws_eqIntSS.l0 k (pre ++ rest) (pre ++ rest) (pre.length : Int)) true := by
  induction rest with
  | nil =>
    intro pre hb hx
    exact Ev.step (f := fun _ => some true) (fun k => by rw [laws_eqIntSS.l0, if_neg (mid_nlt _)]) (Ev.now _)
  | cons x rest ih =>
    intro pre hb hx
    have h := ih (pre ++ [x]) (by simpa using hb) (fun y hy => hx y (by simp [hy]))
    rw [← mid_cons, ← mid_succ pre x (by simp at hb; omega)] at h
    refine Ev.stepb (eqIntS_same x (hx x (by simp))) (fun k => by rw [laws_eqIntSS.l0, if_pos (mid_lt _ _ _), if_pos (nn _), if_pos (mid_lt _ _ _), mid_rdL1]) ?_
    simp only [if_true]
    exact h
theorem eqIntSS_same (l : List (List Int)) (hb : l.length ≤ 4611686018427387904) (hx : ∀ x ∈ l, x.length ≤ 4611686018427387904) : Ev (fun k => laws_eqIntSS.f k l l) true := by
  unfold laws_eqIntSS.f
  simp only [if_true]
  exact eqIntSS_at l [] hb hx
end Go.Proofs.Ytdnedgkanglgjaa.F
end
section
/- The laws' marks on lists of lists. -/
namespace Go.Proofs.Ytdnedgkanglgjaa.F
open Go.RowKit Go.Proofs.YtdnedgkanglgjaaW.PrintWords Go.Proofs.YtdnedgkanglgjaaW.PrintLast Go.Proofs.YtdnedgkanglgjaaW.PrintMore
set_option linter.unusedVariables false
set_option linter.unusedSimpArgs false
def markSS : Int → List (List Int) → List (List Int)
  | _, [] => []
  | a, x :: xs => seqFrom a x.length :: markSS (a + x.length) xs
theorem markIntSS_at (rest : List (List Int)) : ∀ (pre : List (List Int)) (a : Int), (pre ++ rest).length ≤ 1152921504606846976 → 0 ≤ a → a + total rest ≤ 1152921504606846976 →
    Ev (fun k => laws_markIntSS.l0 k (pre ++ rest) a (pre.length : Int)) (a + total rest, pre ++ markSS a rest) := by
  induction rest with
  | nil =>
    intro pre a hb h0 h1
    refine Ev.step (f := fun _ => some (a, pre ++ [])) (fun k => by rw [laws_markIntSS.l0, if_neg (mid_nlt _)]) ?_
    simpa [total, markSS] using Ev.now _
  | cons x rest ih =>
    intro pre a hb h0 h1
    rw [total_cons] at h1
    have h := ih (pre ++ [seqFrom a x.length]) (a + x.length) (by simpa using hb) (by omega) (by omega)
    rw [← mid_succ pre (seqFrom a x.length) (by simp at hb; omega)] at h
    have hm := markIntS_ev x a (by omega) h0 (by omega)
    refine Ev.stepb hm (fun k => by rw [laws_markIntSS.l0, if_pos (mid_lt _ _ _), if_pos (nn _), mid_rdL]) ?_
    have e : (a + (total (x :: rest) : Int), pre ++ markSS a (x :: rest)) = (a + (x.length : Int) + (total rest : Int), pre ++ [seqFrom a x.length] ++ markSS (a + x.length) rest) := by
      rw [total_cons]
      simp [markSS]
      omega
    rw [e]
    simpa [mid_set] using h
theorem markIntSS_ev (l : List (List Int)) (a : Int) (hb : l.length ≤ 1152921504606846976) (h0 : 0 ≤ a) (h1 : a + total l ≤ 1152921504606846976) : Ev (fun k => laws_markIntSS.f k l a) (a + total l, markSS a l) := by
  unfold laws_markIntSS.f
  exact markIntSS_at l [] a hb h0 h1
end Go.Proofs.Ytdnedgkanglgjaa.F
end
section
/- The laws' size check of a list. -/
namespace Go.Proofs.Ytdnedgkanglgjaa.F
open Go.RowKit Go.Proofs.YtdnedgkanglgjaaW.PrintWords Go.Proofs.YtdnedgkanglgjaaW.PrintLast Go.Proofs.YtdnedgkanglgjaaW.PrintMore
set_option linter.unusedVariables false
set_option linter.unusedSimpArgs false
theorem szIntS_eq (x : List Int) (a : Int) (h0 : 0 ≤ a) (h1 : a ≤ 1152921504606846976) (hx : x.length ≤ 1152921504606846976) : laws_szIntS.f x a = some (if a - x.length < 0 then -1 else a - x.length) := by
  unfold laws_szIntS.f
  rw [w64_id (by omega) (by omega)]
  split <;> rfl
end Go.Proofs.Ytdnedgkanglgjaa.F
end
section
/- The laws' size check and copy of lists of lists. -/
namespace Go.Proofs.Ytdnedgkanglgjaa.F
open Go.RowKit Go.Proofs.YtdnedgkanglgjaaW.PrintWords Go.Proofs.YtdnedgkanglgjaaW.PrintLast Go.Proofs.YtdnedgkanglgjaaW.PrintMore
set_option linter.unusedVariables false
set_option linter.unusedSimpArgs false
theorem szIntSS_at (rest : List (List Int)) : ∀ (pre : List (List Int)) (a : Int), (pre ++ rest).length ≤ 1152921504606846976 → 0 ≤ a → a ≤ 1152921504606846976 → (∀ x ∈ rest, x.length ≤ 1152921504606846976) →
    ∃ r : Int, Ev (fun k => laws_szIntSS.l0 k (pre ++ rest) a (pre.length : Int)) r ∧ (r < 0 ∨ (0 ≤ r ∧ (total rest : Int) ≤ a)) := by
  induction rest with
  | nil =>
    intro pre a hb h0 h1 hx
    refine ⟨a, Ev.step (f := fun _ => some a) (fun k => ?_) (Ev.now _), Or.inr ⟨h0, by simpa [total] using h0⟩⟩
    show laws_szIntSS.l0 (k + 1) _ a _ = _
    rw [laws_szIntSS.l0, if_neg (mid_nlt _)]
  | cons x rest ih =>
    intro pre a hb h0 h1 hx
    have hxl := hx x (by simp)
    have hz := szIntS_eq x a h0 h1 hxl
    by_cases c : a - (x.length : Int) < 0
    · rw [if_pos c] at hz
      refine ⟨-1, Ev.step (f := fun _ => some (-1)) (fun k => ?_) (Ev.now _), Or.inl (by omega)⟩
      show laws_szIntSS.l0 (k + 1) _ a _ = _
      rw [laws_szIntSS.l0, if_pos (mid_lt _ _ _), if_pos (nn _), mid_rdL1, hz, Option.bind_some, if_pos (by omega)]
    · rw [if_neg c] at hz
      obtain ⟨r, h, hr⟩ := ih (pre ++ [x]) (a - x.length) (by simpa using hb) (by omega) (by omega) (fun y hy => hx y (by simp [hy]))
      rw [← mid_cons, ← mid_succ pre x (by simp at hb; omega)] at h
      refine ⟨r, Ev.step (fun k => ?_) h, ?_⟩
      · show laws_szIntSS.l0 (k + 1) _ a _ = _
        rw [laws_szIntSS.l0, if_pos (mid_lt _ _ _), if_pos (nn _), mid_rdL1, hz, Option.bind_some, if_neg c]
      · rcases hr with hr | ⟨h2, h3⟩
        · exact Or.inl hr
        · refine Or.inr ⟨h2, ?_⟩
          rw [total_cons]
          omega
theorem szIntSS_ev (l : List (List Int)) (a : Int) (h0 : 0 ≤ a) (h1 : a ≤ 1152921504606846976) (hb : l.length ≤ 1152921504606846976) (hx : ∀ x ∈ l, x.length ≤ 1152921504606846976) :
    ∃ r : Int, Ev (fun k => laws_szIntSS.f k l a) r ∧ (r < 0 ∨ (0 ≤ r ∧ (l.length : Int) + (total l : Int) ≤ a)) := by
  unfold laws_szIntSS.f
  rw [w64_id (show -9223372036854775808 ≤ a - (l.length : Int) by omega) (by omega)]
  by_cases c : a - (l.length : Int) < 0
  · exact ⟨-1, by simp only [if_pos c]; exact Ev.now _, Or.inl (by omega)⟩
  · obtain ⟨r, h, hr⟩ := szIntSS_at l [] (a - l.length) hb (by omega) (by omega) hx
    refine ⟨r, by simp only [if_neg c]; exact h, ?_⟩
    rcases hr with hr | ⟨h2, h3⟩
    · exact Or.inl hr
    · exact Or.inr ⟨h2, by omega⟩
theorem toIntSS_at (rest : List (List Int)) : ∀ (pre zs : List (List Int)), (pre ++ rest).length ≤ 4611686018427387904 → zs.length = rest.length → (∀ x ∈ rest, x.length ≤ 35184372088832) →
    Ev (fun k => laws_toIntSS.l0 k (pre ++ rest) (pre ++ zs) (pre.length : Int)) (pre ++ rest) := by
  induction rest with
  | nil =>
    intro pre zs hb hz hx
    obtain rfl : zs = [] := List.eq_nil_of_length_eq_zero hz
    refine Ev.step (f := fun _ => some (pre ++ [])) (fun k => ?_) (Ev.now _)
    show laws_toIntSS.l0 (k + 1) _ _ _ = _
    rw [laws_toIntSS.l0, if_neg (mid_nlt _)]
  | cons x rest ih =>
    intro pre zs hb hz hx
    cases zs with
    | nil => simp at hz
    | cons z zs =>
      have h := ih (pre ++ [x]) zs (by simpa using hb) (by simpa using hz) (fun y hy => hx y (by simp [hy]))
      rw [← mid_cons, ← mid_succ pre x (by simp at hb; omega)] at h
      refine Ev.stepb (toIntS_ev x (hx x (by simp))) (fun k => by rw [laws_toIntSS.l0, if_pos (mid_lt _ _ _), if_pos (nn _), mid_rdL1]) ?_
      simp only [mid_lt, if_true, mid_set]
      exact h
theorem toIntSS_ev (l : List (List Int)) (hb : l.length ≤ 11728124029610) (hx : ∀ x ∈ l, x.length ≤ 35184372088832) : Ev (fun k => laws_toIntSS.f k l) l := by
  unfold laws_toIntSS.f
  simp only [if_pos (nn l.length), Int.toNat_natCast, if_pos hb]
  exact toIntSS_at l [] (List.replicate l.length []) (by simp; omega) (by simp) hx
theorem total_mem (l : List (List Int)) : ∀ x ∈ l, x.length ≤ total l := by
  induction l with
  | nil => intro x hx; simp at hx
  | cons y l ih =>
    intro x hx
    rw [total_cons]
    rcases List.mem_cons.mp hx with rfl | hx
    · omega
    · have := ih x hx
      omega
end Go.Proofs.Ytdnedgkanglgjaa.F
end
