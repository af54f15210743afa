/- Laid by a program of this claim's own. What the Go function does, as a Lean function, and the proof that the Go code does just that; Lean checks it. -/
import Derived.Test.YtclmicogljidkaaF0
import Derived.Test.YtclmicogljidkaaF11
namespace Go.Proofs.Ytclmicogljidkaa.F
open Go.RowKit Go.Proofs.YtclmicogljidkaaW.PrintWords Go.Proofs.YtclmicogljidkaaW.PrintLast Go.Proofs.YtclmicogljidkaaW.PrintMore
attribute [local go_sem] max2_int min2_int max_two min_two max_three min_three max_four min_four   -- for this text's walks alone
set_option linter.unusedVariables false
set_option linter.unusedSimpArgs false

/-! ### laws_markIntSS: function 23 -/
def laws_markIntSS.l0 : Nat → List (List Int) → Int → Int → Option (Int × List (List Int))
  | 0, _, _, _ => none
  | k + 1, x0, x1, x5 => if x5 < (x0.length : Int) then (if 0 ≤ x5 then ((laws_markIntS.f k (x0.getD x5.toNat []) x1).bind fun b => (laws_markIntSS.l0 k (x0.set x5.toNat b.2) b.1 (wrap64 (x5 + 1)))) else (none)) else (some (x1, x0))
def laws_markIntSS.f (k : Nat) (l0 : List (List Int)) (a1 : Int) : Option (Int × List (List Int)) := laws_markIntSS.l0 k l0 a1 0
theorem laws_markIntSS.mono_l : ∀ k y0 y1 y2, LeO (laws_markIntSS.l0 k y0 y1 y2) (laws_markIntSS.l0 (k + 1) y0 y1 y2)
  | 0, _, _, _ => fun r h => by simp [laws_markIntSS.l0] at h
  | k + 1, y0, y1, y2 => by
    have ih0 := laws_markIntSS.mono_l k
    unfold laws_markIntSS.l0
    repeat' first
      | (with_reducible exact ih0 _ _ _)
      | (with_reducible exact LeO.refl _)
      | (with_reducible exact laws_markIntS.mono _ _ _)
      | (with_reducible refine LeO.ite ?_ ?_)
      | (with_reducible refine LeO.bind ?_ (fun _ => ?_))
      | exact ih0 _ _ _
      | exact laws_markIntS.mono _ _ _
      | refine LeO.ite ?_ ?_
theorem laws_markIntSS.mono : ∀ a0 a1 k, LeO (laws_markIntSS.f k a0 a1) (laws_markIntSS.f (k + 1) a0 a1) := fun a0 a1 k => laws_markIntSS.mono_l k _ _ _
set_option maxHeartbeats 8000000 in
set_option maxRecDepth 100000 in
theorem laws_markIntSS.calls (k : Nat) (P0_ : Nat → Prop) (u9000_ : Value) (l0 : List (List Int)) (a1 : Int) (r1 : Int) (r2 : List (List Int)) (w0 w : World) (hB : Below w0.heap.size w0 w) (ho0 : Kd.S (Kd.slice 3 (Kd.int .i64)) 22 w w0.heap.size P0_ u9000_ l0) (h : laws_markIntSS.f k l0 a1 = some (r1, r2)) :
    Calls Try.prog 23 #[u9000_, .int .i64 a1] w fun e w' => e = .returned (.int .i64 r1) ∧ Kd.S (Kd.slice 3 (Kd.int .i64)) 22 w' w0.heap.size (fun k_ => (P0_ k_ ∨ w.heap.size ≤ k_)) u9000_ r2 ∧ Below w0.heap.size w0 w' ∧ Kept w w' (fun k_ => P0_ k_) := by
  obtain ⟨A0, c0, rfl⟩ := Kd.S_slice ho0
  have HO := Aside0.mk (Kd.S_mono ho0 (ok' := fun k_ => (P0_ k_ ∨ w.heap.size ≤ k_)) (fun _ hk => .inl hk))
  have HB := Aside0.mk hB
  have H' := Aside0.mk h
  clear ho0 hB h
  go_enter Try.func23, Try.ntmps23
  go_wp2
  go_loopg [1, 5] k (fun kq v1 v5 w' => ∃ (x1 x5 : Int) (xs : List (List Int)), v1 = .int .i64 x1 ∧ v5 = .int .i64 x5 ∧ Aside0 (laws_markIntSS.l0 kq xs x1 x5 = some (r1, r2)) ∧ Aside0 (kq ≤ k) ∧ Aside0 (xs.length = l0.length) ∧ Aside0 (Kd.S (Kd.slice 3 (Kd.int .i64)) 22 w' w0.heap.size (fun k_ => (P0_ k_ ∨ w.heap.size ≤ k_)) (.slice A0 l0.length c0) xs) ∧ Aside0 (Below w0.heap.size w0 w') ∧ Aside0 (Kept w w' (fun k_ => P0_ k_)))
  case atStart => exact ⟨a1, 0, l0, rfl, rfl, H', ⟨Nat.le_refl _⟩, ⟨rfl⟩, HO, HB, ⟨Kept.refl w _⟩⟩
  case round =>
    clear H' HO HB
    obtain ⟨x1, x5, xs, rfl, rfl, HA, HK1, HL, HO, HB, HK⟩ := hrel
    cases gk with
    | zero => exact absurd HA.out (by simp [laws_markIntSS.l0])
    | succ k1 =>
      have H := HA.out
      clear HA
      simp only [laws_markIntSS.l0] at H
      by_cases c4 : x5 < (xs.length : Int)
      · rw [if_pos c4] at H
        by_cases c5 : 0 ≤ x5
        · rw [if_pos c5] at H
          replace H := Option.bind_eq_some_iff.mp H
          obtain ⟨⟨b1, b2⟩, A7, H⟩ := H
          have A8 := Aside0.mk A7
          have H' := Aside0.mk H
          clear A7 H
          have c4' : x5 < (l0.length : Int) := by have := HL.out; omega
          obtain ⟨ad, ead, _⟩ := (Kd.S_reads' HO.out).2.2.2.2 (by have := HL.out; omega)
          cases ead
          obtain ⟨g, rfl⟩ := Kd.R_head (Kd.S_R HO.out)
          obtain ⟨oki, c, hcl, hM, hcc, hoki, hH⟩ := Kd.S_lend HO.out [] x5 c5 (by omega)
          obtain ⟨u, rfl, hR⟩ := hM
          have hcell := hcc 0 u rfl
          have hcell2 : wr.cell? ⟨g, x5.toNat, none⟩ = some u := by simpa [Kd.slice] using hcell
          have HH := Aside0.mk hH
          have HRR := Aside0.mk hR
          have HOKI := Aside0.mk hoki
          clear hcl hcc hoki hH hR hcell
          have c4b0 : decide (x5 < (l0.length : Int)) = true := decide_eq_true c4'
          have c5b0 : decide (0 ≤ x5) = true := decide_eq_true c5
          replace c4' := eq_true c4'
          have HX := Aside0.mk c4
          have HY := Aside0.mk c5
          clear c4
          replace c5 := eq_true c5
          go_wp2_with (go_at_call 28; (with_reducible refine (laws_markIntS.calls k1 oki u (xs.getD x5.toNat []) x1 b1 b2 w0 _ ?side1 ?side2 A8.out).mono ?_); (case side1 => exact HB.out); (case side2 => exact HRR.out); rintro e w7 ⟨rfl, hr7, hb7, hk7⟩; have HR7 := Aside0.mk hr7; have HB7 := Aside0.mk hb7; have HK7 := Aside0.mk hk7; clear hr7 hb7 hk7)
          go_roundg k1
          case measure => have := HK1.out; omega
          case rel =>
            have hsz : w.heap.size ≤ wr.heap.size := HK.out.1
            have hwide := Kd.H_widen HH.out
            have hstep := Kd.H_step hwide (w1 := w7) (fun k_ ho hn hlt => HK7.out.2 k_ hlt (fun hk => hn (.inl hk)))
            have hback := Kd.H_back hstep (x' := b2) (okp := fun k_ => (oki k_ ∨ wr.heap.size ≤ k_)) (Kd.M_row HR7.out) (fun k_ hk => hk.elim .inl (fun h2 => .inr ⟨.inr (Nat.le_trans hsz h2), h2⟩))
            have hkept : Kept w w7 (fun k_ => P0_ k_) := HK.out.then_ HK7.out (fun k_ hk => (HOKI.out k_ hk).1)
            exact ⟨b1, wrap64 (x5 + 1), xs.set x5.toNat b2, rfl, rfl, H', ⟨by have := HK1.out; omega⟩, ⟨by rw [List.length_set]; exact HL.out⟩, ⟨hback⟩, ⟨HB7.out⟩, ⟨hkept⟩⟩
        · rw [if_neg c5] at H
          exact absurd H (by simp)
      · rw [if_neg c4] at H
        simp only [Option.some.injEq, Prod.mk.injEq] at H
        obtain ⟨rfl, rfl⟩ := H
        have c4' : ¬ x5 < (l0.length : Int) := by have := HL.out; omega
        have c4b0 : decide (x5 < (l0.length : Int)) = false := decide_eq_false c4'
        clear c4 c4'
        go_wp2
        go_ret
        exact ⟨rfl, HO.out, HB.out, HK.out⟩

end Go.Proofs.Ytclmicogljidkaa.F
