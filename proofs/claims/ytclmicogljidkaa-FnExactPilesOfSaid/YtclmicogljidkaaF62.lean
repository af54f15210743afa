/- Laid by a program of this claim's own. What the Go function does, as a Lean function, and the proof that the Go code does just that; Lean checks it. -/
import Derived.Test.YtclmicogljidkaaF0
import Derived.Test.YtclmicogljidkaaF9
import Derived.Test.YtclmicogljidkaaF11
import Derived.Test.YtclmicogljidkaaF24
import Derived.Test.YtclmicogljidkaaF25
import Derived.Test.YtclmicogljidkaaF26
import Derived.Test.YtclmicogljidkaaF43
import Derived.Test.YtclmicogljidkaaF57
import Derived.Test.YtclmicogljidkaaF61
namespace Go.Proofs.Ytclmicogljidkaa.F
open Go.RowKit Go.Proofs.YtclmicogljidkaaW.PrintWords Go.Proofs.YtclmicogljidkaaW.PrintLast Go.Proofs.YtclmicogljidkaaW.PrintMore
attribute [local go_sem] max2_int min2_int max_two min_two max_three min_three max_four min_four   -- for this text's walks alone
set_option linter.unusedVariables false
set_option linter.unusedSimpArgs false

/-! ### laws_FnExactPilesOf: function 7 -/
/-- What is to be shown of numbers and lists: both functions deal the same piles; marks that are laid on them are held. -/
def laws_FnExactPilesOf.Pure : Prop := ∀ (l0 : List Int) (a1 : Int), l0.length ≤ maxLen → l0.length * 8 ≤ 140737488351232 → (∀ x ∈ l0, (Lit.int .i64 x).wf = true) → (Lit.int .i64 a1).wf = true → (l0.length : Int) > 1048576 ∨ ∃ (k : Nat) (r : List (List Int)) (m1 : Int) (m2 : List (List Int)) (n1 : Int) (n2 : List Int),
  laws_toIntS.f k l0 = some l0 ∧ spec_PilesOf.f k l0 a1 = some r ∧ impl_PilesOf.f k l0 a1 = some r ∧ laws_eqIntSS.f k r r = some true ∧ laws_eqIntS.f k l0 l0 = some true ∧ laws_markIntS.f k l0 1 = some (n1, n2) ∧ 0 ≤ n1 ∧ laws_markIntSS.f k r 1 = some (m1, m2) ∧ laws_heldIntSS.f k m2 1 = some m1 ∧ 0 ≤ m1
set_option maxHeartbeats 16000000 in
set_option maxRecDepth 100000 in
theorem laws_FnExactPilesOf.calls_big (A0 : Option Addr) (c0 : Nat) (l0 : List Int) (a1 : Int) (w : World) (hbig : (l0.length : Int) > 1048576) :
    Calls Try.prog 7 #[.slice A0 l0.length c0, .int .i64 a1] w fun e w' => e = .returned (.bool true) ∧ Below w.heap.size w w' := by
  have h1 : decide (1048576 < l0.length) = true := decide_eq_true (by omega)
  have h2 : decide (1048576 < (l0.length : Int)) = true := decide_eq_true (by omega)
  have HB := Aside0.mk (Below.refl w.heap.size w)
  clear hbig
  go_enter Try.func7, Try.ntmps7
  go_wp2
  go_ret
  exact ⟨rfl, HB.out⟩
set_option maxHeartbeats 16000000 in
set_option maxRecDepth 100000 in
theorem laws_FnExactPilesOf.calls (k : Nat) (A0 : Option Addr) (c0 : Nat) (l0 : List Int) (a1 : Int) (w : World) (hr0 : Kd.C (Kd.int .i64) w A0 l0.length l0) (hc0 : l0.length ≤ c0) (hle : ¬ (l0.length : Int) > 1048576)
    (r : List (List Int)) (m1 : Int) (m2 : List (List Int)) (n1 : Int) (n2 : List Int) (ht : laws_toIntS.f k l0 = some l0) (hs : spec_PilesOf.f k l0 a1 = some r) (hi : impl_PilesOf.f k l0 a1 = some r) (he : laws_eqIntSS.f k r r = some true) (hq : laws_eqIntS.f k l0 l0 = some true) (hm1 : laws_markIntS.f k l0 1 = some (n1, n2)) (hn1 : 0 ≤ n1) (hm : laws_markIntSS.f k r 1 = some (m1, m2)) (hh : laws_heldIntSS.f k m2 1 = some m1) (hn : 0 ≤ m1) :
    Calls Try.prog 7 #[.slice A0 l0.length c0, .int .i64 a1] w fun e w' => e = .returned (.bool true) ∧ Below w.heap.size w w' := by
  have HR0 := Aside0.mk hr0
  have HC0 := Aside0.mk hc0
  have HT := Aside0.mk ht
  have HS := Aside0.mk hs
  have HI := Aside0.mk hi
  have HE := Aside0.mk he
  have HQ := Aside0.mk hq
  have HM1 := Aside0.mk hm1
  have HM := Aside0.mk hm
  have HH := Aside0.mk hh
  have g1 : decide (1048576 < l0.length) = false := decide_eq_false (by omega)
  have g2 : decide (1048576 < (l0.length : Int)) = false := decide_eq_false (by omega)
  have g3 : decide (n1 < 0) = false := decide_eq_false (by omega)
  have g4 : decide (m1 < 0) = false := decide_eq_false (by omega)
  clear hr0 hc0 hle ht hs hi he hq hm1 hn1 hm hh hn
  go_enter Try.func7, Try.ntmps7
  go_wp2_with (go_at_call 36; (with_reducible refine (laws_toIntS.calls k A0 c0 l0 l0 _ HR0.out HC0.out HT.out).mono ?_); rintro e w1 ⟨v, rfl, ho, hb⟩; obtain ⟨A1, c1, rfl⟩ := Kd.R_slice ho; have B1 := Aside0.mk hb; have C1 := Aside0.mk (Kd.R_reads' ho).2.2; have L1 := Aside0.mk (Kd.R_reads' ho).2.1; clear ho hb)
  go_wp2_with (go_at_call 35; (with_reducible refine (spec_PilesOf.calls k A1 c1 l0 a1 r _ C1.out L1.out HS.out).mono ?_); rintro e w2 ⟨v, rfl, ho, hb⟩; obtain ⟨A2, c2, rfl⟩ := Kd.S_slice ho; have B2 := Aside0.mk (B1.out.trans (hb.mono B1.out.size)); have C2 := Aside0.mk (Kd.S_reads' ho).2.2; have L2 := Aside0.mk (Kd.S_reads' ho).2.1; clear ho hb C1 L1 B1)
  go_wp2_with (go_at_call 36; (with_reducible refine (laws_toIntS.calls k A0 c0 l0 l0 _ (Kd.C_below HR0.out B2.out) HC0.out HT.out).mono ?_); rintro e w3 ⟨v, rfl, ho, hb⟩; obtain ⟨A3, c3, rfl⟩ := Kd.R_slice ho; have B3 := Aside0.mk hb; have R3 := Aside0.mk ho; have L3 := Aside0.mk (Kd.R_reads' ho).2.1; have T3 := Aside0.mk (Kd.R_lt ho); have SZ23 := Aside0.mk hb.size; clear ho hb)
  go_wp2_with (go_at_call 37; (with_reducible refine (impl_PilesOf.calls k A3 c3 l0 a1 r _ (Kd.R_reads' R3.out).2.2 L3.out HI.out).mono ?_); rintro e w4 ⟨v, rfl, ho, hb⟩; obtain ⟨A4, c4, rfl⟩ := Kd.S_slice ho; have B4 := Aside0.mk (B3.out.trans (hb.mono B3.out.size)); have R4 := Aside0.mk (Kd.R_below R3.out hb); have S4 := Aside0.mk ho; clear ho hb R3 B3)
  go_wp2_with (go_at_call 22; (with_reducible refine (laws_eqIntSS.calls k A4 c4 r A2 c2 r true _ (Kd.S_reads' S4.out).2.2 (Kd.S_reads' S4.out).2.1 (Kd.C_below C2.out B4.out) L2.out HE.out).mono ?_); rintro e w5 ⟨rfl, hd⟩; have B5 := Aside0.mk (B4.out.trans (hd.below.mono B4.out.size)); have R5 := Aside0.mk (Kd.R_below R4.out hd.below); have S5 := Aside0.mk (Kd.S_below S4.out hd.below); clear hd S4 R4 B4)
  go_wp2_with (go_at_call 36; (with_reducible refine (laws_toIntS.calls k A0 c0 l0 l0 _ (Kd.C_below HR0.out (B2.out.trans (B5.out.mono B2.out.size))) HC0.out HT.out).mono ?_); rintro e w6 ⟨v, rfl, ho, hb⟩; obtain ⟨A6, c6, rfl⟩ := Kd.R_slice ho; have B6 := Aside0.mk (B5.out.trans (hb.mono B5.out.size)); have R6 := Aside0.mk (Kd.R_below R5.out hb); have S6 := Aside0.mk (Kd.S_below S5.out hb); have C6 := Aside0.mk (Kd.R_reads' ho).2.2; have L6 := Aside0.mk (Kd.R_reads' ho).2.1; clear ho hb R5 S5 B5)
  go_wp2_with (go_at_call 27; (with_reducible refine (laws_eqIntS.calls k A3 c3 l0 A6 c6 l0 true _ (Kd.R_reads' R6.out).2.2 L3.out C6.out L6.out HQ.out).mono ?_); rintro e w7 ⟨rfl, hd⟩; have B7 := Aside0.mk (B6.out.trans (hd.below.mono B6.out.size)); have R7 := Aside0.mk (Kd.R_tight rfl (Kd.R_below R6.out hd.below)); have S7 := Aside0.mk (Kd.S_below S6.out hd.below); clear hd R6 S6 B6 C6 L6)
  go_wp2_with (go_at_call 28; (with_reducible refine (laws_markIntS.calls k (fun k_ => some k_ = (Value.slice A3 l0.length c3).ownBlock) _ l0 1 n1 n2 w2 _ B7.out R7.out HM1.out).mono ?_); rintro e w8 ⟨rfl, ho, hb, hk⟩; have B8 := Aside0.mk hb; have S8 := Aside0.mk (S_past S7.out hk (fun k_ h_ e_ => Nat.lt_irrefl _ (Nat.lt_of_lt_of_le (T3.out k_ e_.symm) h_))); clear ho hb hk S7 R7 B7 L3)
  go_wp2_with (go_at_call 22; (with_reducible refine (laws_eqIntSS.calls k A4 c4 r A2 c2 r true _ (Kd.S_reads' S8.out).2.2 (Kd.S_reads' S8.out).2.1 (Kd.C_below C2.out B8.out) L2.out HE.out).mono ?_); rintro e w9 ⟨rfl, hd⟩; have B9 := Aside0.mk (B8.out.trans (hd.below.mono B8.out.size)); have S9 := Aside0.mk (Kd.S_lower (Kd.S_below S8.out hd.below) (base' := w2.heap.size) SZ23.out); clear hd S8 B8)
  go_wp2_with (go_at_call 23; (with_reducible refine (laws_markIntSS.calls k (fun _ => True) _ r 1 m1 m2 w2 _ B9.out S9.out HM.out).mono ?_); rintro e w10 ⟨rfl, ho, hb, hk⟩; have B10 := Aside0.mk hb; have S10 := Aside0.mk ho; have E4 := Aside0.mk (Kd.S_reads' ho).1; clear ho hb hk S9 B9)
  go_wp2_with (go_at_call 24; refine calls_of_args (args' := #[.slice A4 m2.length c4, .int .i64 1]) (by rw [← E4.out]) ?_; (with_reducible refine (laws_heldIntSS.calls k A4 c4 m2 1 m1 _ (Kd.S_reads' S10.out).2.2 (by rw [← E4.out]; exact (Kd.S_reads' S10.out).2.1) HH.out).mono ?_); rintro e w11 ⟨rfl, hd⟩; have B11 := Aside0.mk (B10.out.trans (hd.below.mono B10.out.size)); have S11 := Aside0.mk (Kd.S_below S10.out hd.below); clear hd S10 B10)
  go_wp2_with (go_at_call 36; (with_reducible refine (laws_toIntS.calls k A0 c0 l0 l0 _ (Kd.C_below HR0.out (B2.out.trans (B11.out.mono B2.out.size))) HC0.out HT.out).mono ?_); rintro e w12 ⟨v, rfl, ho, hb⟩; obtain ⟨A12, c12, rfl⟩ := Kd.R_slice ho; have B12 := Aside0.mk (B11.out.trans (hb.mono B11.out.size)); have S12 := Aside0.mk (Kd.S_below S11.out hb); have C12 := Aside0.mk (Kd.R_reads' ho).2.2; have L12 := Aside0.mk (Kd.R_reads' ho).2.1; clear ho hb S11 B11)
  go_wp2_with (go_at_call 37; (with_reducible refine (impl_PilesOf.calls k A12 c12 l0 a1 r _ C12.out L12.out HI.out).mono ?_); rintro e w13 ⟨v, rfl, ho, hb⟩; obtain ⟨A13, c13, rfl⟩ := Kd.S_slice ho; have B13 := Aside0.mk (B12.out.trans (hb.mono B12.out.size)); have S13 := Aside0.mk (Kd.S_below S12.out hb); have C13 := Aside0.mk (Kd.S_reads' ho).2.2; have L13 := Aside0.mk (Kd.S_reads' ho).2.1; clear ho hb S12 B12 C12 L12)
  go_wp2_with (go_at_call 22; (with_reducible refine (laws_eqIntSS.calls k A13 c13 r A2 c2 r true _ C13.out L13.out (Kd.C_below C2.out B13.out) L2.out HE.out).mono ?_); rintro e w14 ⟨rfl, hd⟩; have B14 := Aside0.mk (B13.out.trans (hd.below.mono B13.out.size)); have S14 := Aside0.mk (Kd.S_below S13.out hd.below); clear hd S13 B13 C13 L13)
  go_wp2_with (go_at_call 24; refine calls_of_args (args' := #[.slice A4 m2.length c4, .int .i64 1]) (by rw [← E4.out]) ?_; (with_reducible refine (laws_heldIntSS.calls k A4 c4 m2 1 m1 _ (Kd.S_reads' S14.out).2.2 (by rw [← E4.out]; exact (Kd.S_reads' S14.out).2.1) HH.out).mono ?_); rintro e w15 ⟨rfl, hd⟩; have B15 := Aside0.mk (B14.out.trans (hd.below.mono B14.out.size)); clear hd S14 B14)
  go_ret
  exact ⟨rfl, B2.out.trans (B15.out.mono B2.out.size)⟩
theorem laws_FnExactPilesOf.walk (P : laws_FnExactPilesOf.Pure) (a0 : Option Addr) (len0 cap0 : Nat) (z0 : List Int) (a1 : Int) (w : World) (w0 : (a0 = none ∧ len0 = 0 ∧ cap0 = 0 ∧ z0 = []) ∨ ∃ x, a0 = some x ∧ len0 ≤ cap0 ∧ cap0 ≤ maxLen ∧ z0.length = cap0 ∧ (∀ i, i < z0.length → w.cell? (x.add i) = some (.int .i64 (z0.getD i 0))) ∧ ∀ n ∈ z0, (Lit.int .i64 n).wf = true) (y0 : len0 * 8 ≤ 140737488351232) (w1 : (Lit.int .i64 a1).wf = true) :
    Calls Try.prog 7 #[.slice a0 len0 cap0, .int .i64 a1] w fun e w' => e = .returned (.bool true) ∧ Below w.heap.size w w' := by
  obtain ⟨l0, rfl, hr0, hm0, hw0, hc0⟩ := ReadsInt.ofRowC w0
  have hC := Kd.C_of_reads (d := (0 : Int)) (h1 := fun _ => rfl) hr0
  by_cases hbig : (l0.length : Int) > 1048576
  · exact laws_FnExactPilesOf.calls_big a0 cap0 l0 a1 w hbig
  · rcases P l0 a1 hm0 y0 hw0 w1 with h | ⟨k, r, m1, m2, n1, n2, h1, h2, h3, h4, h5, h6, h7, h8, h9, h10⟩
    · exact absurd h hbig
    · exact laws_FnExactPilesOf.calls k a0 cap0 l0 a1 w hC hc0 hbig r m1 m2 n1 n2 h1 h2 h3 h4 h5 h6 h7 h8 h9 h10

end Go.Proofs.Ytclmicogljidkaa.F
