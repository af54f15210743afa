import Derived.Test.YtfnllojppkjgcaaZFnStacks4
section
/- Laid by a program of this claim's own. What the Go function does, as a Lean function, and the proof that the Go code does just that; Lean checks it. -/
namespace Go.Proofs.Ytfnllojppkjgcaa.F
open Go.RowKit Go.Proofs.YtfnllojppkjgcaaW.PrintWords Go.Proofs.YtfnllojppkjgcaaW.PrintLast Go.Proofs.YtfnllojppkjgcaaW.PrintMore
attribute [local go_sem] max2_int min2_int max_two min_two max_three min_three max_four min_four   -- for this text's walks alone
set_option linter.unusedVariables false
set_option linter.unusedSimpArgs false
/-! ### cmp_isNaN_int: function 122 -/
def cmp_isNaN_int.f (a0 : Int) : Option (Bool) := some (a0 != a0)
set_option maxHeartbeats 8000000 in
set_option maxRecDepth 100000 in
theorem cmp_isNaN_int.calls (a0 : Int) (r : Bool) (w : World) (h : cmp_isNaN_int.f a0 = some r) :
    Calls Try.prog 122 #[.int .i64 a0] w fun e w' => e = .returned (.bool r) ∧ Drawn0 w w' := by
  have H : (some (a0 != a0)) = some r := h
  clear h
  obtain rfl := Option.some.inj H
  go_enter Try.func122, Try.ntmps122
  go_wp2
  go_ret
  exact ⟨by first | rfl | (simp; done) | (simp [*]; done), by repeat (first | exact Drawn0.refl _ | apply Drawn0.step)⟩
end Go.Proofs.Ytfnllojppkjgcaa.F
end
section
/- Laid by a program of this claim's own. What the Go function does, as a Lean function, and the proof that the Go code does just that; Lean checks it. -/
namespace Go.Proofs.Ytfnllojppkjgcaa.F
open Go.RowKit Go.Proofs.YtfnllojppkjgcaaW.PrintWords Go.Proofs.YtfnllojppkjgcaaW.PrintLast Go.Proofs.YtfnllojppkjgcaaW.PrintMore
attribute [local go_sem] max2_int min2_int max_two min_two max_three min_three max_four min_four   -- for this text's walks alone
set_option linter.unusedVariables false
set_option linter.unusedSimpArgs false
/-! ### cmp_Compare_int: function 106 -/
def cmp_Compare_int.f (a0 : Int) (a1 : Int) : Option (Int) := (cmp_isNaN_int.f a0).bind fun t212 => ((cmp_isNaN_int.f a1).bind fun t213 => (if t212 = true then (if t213 = true then (some 0) else (some (-1))) else (if t213 = true then (some 1) else (if a0 < a1 then (some (-1)) else (if a0 > a1 then (some 1) else (some 0))))))
set_option maxHeartbeats 8000000 in
set_option maxRecDepth 100000 in
theorem cmp_Compare_int.calls (a0 : Int) (a1 : Int) (r : Int) (w : World) (h : cmp_Compare_int.f a0 a1 = some r) :
    Calls Try.prog 106 #[.int .i64 a0, .int .i64 a1] w fun e w' => e = .returned (.int .i64 r) ∧ Drawn0 w w' := by
  have H : ((cmp_isNaN_int.f a0).bind fun t212 => ((cmp_isNaN_int.f a1).bind fun t213 => (if t212 = true then (if t213 = true then (some 0) else (some (-1))) else (if t213 = true then (some 1) else (if a0 < a1 then (some (-1)) else (if a0 > a1 then (some 1) else (some 0))))))) = some r := h
  clear h
  replace H := Option.bind_eq_some_iff.mp H
  obtain ⟨t212, A30, H⟩ := H
  replace H : ((cmp_isNaN_int.f a1).bind fun t213 => (if t212 = true then (if t213 = true then (some 0) else (some (-1))) else (if t213 = true then (some 1) else (if a0 < a1 then (some (-1)) else (if a0 > a1 then (some 1) else (some 0)))))) = some r := H
  have A3 := Aside0.mk A30
  clear A30
  replace H := Option.bind_eq_some_iff.mp H
  obtain ⟨t213, A40, H⟩ := H
  replace H : (if t212 = true then (if t213 = true then (some 0) else (some (-1))) else (if t213 = true then (some 1) else (if a0 < a1 then (some (-1)) else (if a0 > a1 then (some 1) else (some 0))))) = some r := H
  have A4 := Aside0.mk A40
  clear A40
  by_cases c5 : t212 = true
  · subst c5
    have H1 : (if t213 = true then (some 0) else (some (-1))) = some r := by rw [if_pos rfl] at H; exact H
    clear H
    have H := H1
    clear H1
    by_cases c6 : t213 = true
    · subst c6
      have H1 : (some 0) = some r := by rw [if_pos rfl] at H; exact H
      clear H
      have H := H1
      clear H1
      obtain rfl := Option.some.inj H
      go_enter Try.func106, Try.ntmps106
      go_wp2_with (first | ((with_reducible refine gate_callee (f := 122) rfl ?_); refine goesL_ (some 8) rfl rfl Try.func122 (by kernel_rfl) rfl #[.int .i64 a0] rfl (by (try simp only [List.map_toArray, List.map_cons, List.map_nil]); first | done | rfl | (simp only [List.length_drop, List.length_take]; rfl)) ?_; (with_reducible refine (cmp_isNaN_int.calls a0 true _ A3.out).mono ?_); rintro e w' ⟨rfl, ⟨nd, rfl⟩⟩; refine ⟨_, rfl, ?_⟩) | ((with_reducible refine gate_callee (f := 122) rfl ?_); refine goesL_ (some 10) rfl rfl Try.func122 (by kernel_rfl) rfl #[.int .i64 a1] rfl (by (try simp only [List.map_toArray, List.map_cons, List.map_nil]); first | done | rfl | (simp only [List.length_drop, List.length_take]; rfl)) ?_; (with_reducible refine (cmp_isNaN_int.calls a1 true _ A4.out).mono ?_); rintro e w' ⟨rfl, ⟨nd, rfl⟩⟩; refine ⟨_, rfl, ?_⟩))
      go_ret
      exact ⟨by first | rfl | (simp; done) | (simp [*]; done), by repeat (first | exact Drawn0.refl _ | apply Drawn0.step)⟩
    · replace c6 := Bool.eq_false_iff.mpr c6
      subst c6
      have H1 : (some (-1)) = some r := by rw [if_neg (show ¬ (false = true) by decide)] at H; exact H
      clear H
      have H := H1
      clear H1
      obtain rfl := Option.some.inj H
      go_enter Try.func106, Try.ntmps106
      go_wp2_with (first | ((with_reducible refine gate_callee (f := 122) rfl ?_); refine goesL_ (some 8) rfl rfl Try.func122 (by kernel_rfl) rfl #[.int .i64 a0] rfl (by (try simp only [List.map_toArray, List.map_cons, List.map_nil]); first | done | rfl | (simp only [List.length_drop, List.length_take]; rfl)) ?_; (with_reducible refine (cmp_isNaN_int.calls a0 true _ A3.out).mono ?_); rintro e w' ⟨rfl, ⟨nd, rfl⟩⟩; refine ⟨_, rfl, ?_⟩) | ((with_reducible refine gate_callee (f := 122) rfl ?_); refine goesL_ (some 10) rfl rfl Try.func122 (by kernel_rfl) rfl #[.int .i64 a1] rfl (by (try simp only [List.map_toArray, List.map_cons, List.map_nil]); first | done | rfl | (simp only [List.length_drop, List.length_take]; rfl)) ?_; (with_reducible refine (cmp_isNaN_int.calls a1 false _ A4.out).mono ?_); rintro e w' ⟨rfl, ⟨nd, rfl⟩⟩; refine ⟨_, rfl, ?_⟩))
      go_ret
      exact ⟨by first | rfl | (simp; done) | (simp [*]; done), by repeat (first | exact Drawn0.refl _ | apply Drawn0.step)⟩
  · replace c5 := Bool.eq_false_iff.mpr c5
    subst c5
    have H1 : (if t213 = true then (some 1) else (if a0 < a1 then (some (-1)) else (if a0 > a1 then (some 1) else (some 0)))) = some r := by rw [if_neg (show ¬ (false = true) by decide)] at H; exact H
    clear H
    have H := H1
    clear H1
    by_cases c7 : t213 = true
    · subst c7
      have H1 : (some 1) = some r := by rw [if_pos rfl] at H; exact H
      clear H
      have H := H1
      clear H1
      obtain rfl := Option.some.inj H
      go_enter Try.func106, Try.ntmps106
      go_wp2_with (first | ((with_reducible refine gate_callee (f := 122) rfl ?_); refine goesL_ (some 8) rfl rfl Try.func122 (by kernel_rfl) rfl #[.int .i64 a0] rfl (by (try simp only [List.map_toArray, List.map_cons, List.map_nil]); first | done | rfl | (simp only [List.length_drop, List.length_take]; rfl)) ?_; (with_reducible refine (cmp_isNaN_int.calls a0 false _ A3.out).mono ?_); rintro e w' ⟨rfl, ⟨nd, rfl⟩⟩; refine ⟨_, rfl, ?_⟩) | ((with_reducible refine gate_callee (f := 122) rfl ?_); refine goesL_ (some 10) rfl rfl Try.func122 (by kernel_rfl) rfl #[.int .i64 a1] rfl (by (try simp only [List.map_toArray, List.map_cons, List.map_nil]); first | done | rfl | (simp only [List.length_drop, List.length_take]; rfl)) ?_; (with_reducible refine (cmp_isNaN_int.calls a1 true _ A4.out).mono ?_); rintro e w' ⟨rfl, ⟨nd, rfl⟩⟩; refine ⟨_, rfl, ?_⟩))
      go_ret
      exact ⟨by first | rfl | (simp; done) | (simp [*]; done), by repeat (first | exact Drawn0.refl _ | apply Drawn0.step)⟩
    · replace c7 := Bool.eq_false_iff.mpr c7
      subst c7
      have H1 : (if a0 < a1 then (some (-1)) else (if a0 > a1 then (some 1) else (some 0))) = some r := by rw [if_neg (show ¬ (false = true) by decide)] at H; exact H
      clear H
      have H := H1
      clear H1
      by_cases c8 : a0 < a1
      · rw [if_pos c8] at H
        have c8b0 : decide (a0 < a1) = true := decide_eq_true c8
        clear c8
        obtain rfl := Option.some.inj H
        go_enter Try.func106, Try.ntmps106
        go_wp2_with (first | ((with_reducible refine gate_callee (f := 122) rfl ?_); refine goesL_ (some 8) rfl rfl Try.func122 (by kernel_rfl) rfl #[.int .i64 a0] rfl (by (try simp only [List.map_toArray, List.map_cons, List.map_nil]); first | done | rfl | (simp only [List.length_drop, List.length_take]; rfl)) ?_; (with_reducible refine (cmp_isNaN_int.calls a0 false _ A3.out).mono ?_); rintro e w' ⟨rfl, ⟨nd, rfl⟩⟩; refine ⟨_, rfl, ?_⟩) | ((with_reducible refine gate_callee (f := 122) rfl ?_); refine goesL_ (some 10) rfl rfl Try.func122 (by kernel_rfl) rfl #[.int .i64 a1] rfl (by (try simp only [List.map_toArray, List.map_cons, List.map_nil]); first | done | rfl | (simp only [List.length_drop, List.length_take]; rfl)) ?_; (with_reducible refine (cmp_isNaN_int.calls a1 false _ A4.out).mono ?_); rintro e w' ⟨rfl, ⟨nd, rfl⟩⟩; refine ⟨_, rfl, ?_⟩))
        go_ret
        exact ⟨by first | rfl | (simp; done) | (simp [*]; done), by repeat (first | exact Drawn0.refl _ | apply Drawn0.step)⟩
      · rw [if_neg c8] at H
        have c8b0 : decide (a0 < a1) = false := decide_eq_false c8
        clear c8
        by_cases c9 : a0 > a1
        · rw [if_pos c9] at H
          have c9b0 : decide (a1 < a0) = true := decide_eq_true c9
          clear c9
          obtain rfl := Option.some.inj H
          go_enter Try.func106, Try.ntmps106
          go_wp2_with (first | ((with_reducible refine gate_callee (f := 122) rfl ?_); refine goesL_ (some 8) rfl rfl Try.func122 (by kernel_rfl) rfl #[.int .i64 a0] rfl (by (try simp only [List.map_toArray, List.map_cons, List.map_nil]); first | done | rfl | (simp only [List.length_drop, List.length_take]; rfl)) ?_; (with_reducible refine (cmp_isNaN_int.calls a0 false _ A3.out).mono ?_); rintro e w' ⟨rfl, ⟨nd, rfl⟩⟩; refine ⟨_, rfl, ?_⟩) | ((with_reducible refine gate_callee (f := 122) rfl ?_); refine goesL_ (some 10) rfl rfl Try.func122 (by kernel_rfl) rfl #[.int .i64 a1] rfl (by (try simp only [List.map_toArray, List.map_cons, List.map_nil]); first | done | rfl | (simp only [List.length_drop, List.length_take]; rfl)) ?_; (with_reducible refine (cmp_isNaN_int.calls a1 false _ A4.out).mono ?_); rintro e w' ⟨rfl, ⟨nd, rfl⟩⟩; refine ⟨_, rfl, ?_⟩))
          go_ret
          exact ⟨by first | rfl | (simp; done) | (simp [*]; done), by repeat (first | exact Drawn0.refl _ | apply Drawn0.step)⟩
        · rw [if_neg c9] at H
          have c9b0 : decide (a1 < a0) = false := decide_eq_false c9
          clear c9
          obtain rfl := Option.some.inj H
          go_enter Try.func106, Try.ntmps106
          go_wp2_with (first | ((with_reducible refine gate_callee (f := 122) rfl ?_); refine goesL_ (some 8) rfl rfl Try.func122 (by kernel_rfl) rfl #[.int .i64 a0] rfl (by (try simp only [List.map_toArray, List.map_cons, List.map_nil]); first | done | rfl | (simp only [List.length_drop, List.length_take]; rfl)) ?_; (with_reducible refine (cmp_isNaN_int.calls a0 false _ A3.out).mono ?_); rintro e w' ⟨rfl, ⟨nd, rfl⟩⟩; refine ⟨_, rfl, ?_⟩) | ((with_reducible refine gate_callee (f := 122) rfl ?_); refine goesL_ (some 10) rfl rfl Try.func122 (by kernel_rfl) rfl #[.int .i64 a1] rfl (by (try simp only [List.map_toArray, List.map_cons, List.map_nil]); first | done | rfl | (simp only [List.length_drop, List.length_take]; rfl)) ?_; (with_reducible refine (cmp_isNaN_int.calls a1 false _ A4.out).mono ?_); rintro e w' ⟨rfl, ⟨nd, rfl⟩⟩; refine ⟨_, rfl, ?_⟩))
          go_ret
          exact ⟨by first | rfl | (simp; done) | (simp [*]; done), by repeat (first | exact Drawn0.refl _ | apply Drawn0.step)⟩
end Go.Proofs.Ytfnllojppkjgcaa.F
end
section
/- Laid by a program of this claim's own. What the Go function does, as a Lean function, and the proof that the Go code does just that; Lean checks it. -/
namespace Go.Proofs.Ytfnllojppkjgcaa.F
open Go.RowKit Go.Proofs.YtfnllojppkjgcaaW.PrintWords Go.Proofs.YtfnllojppkjgcaaW.PrintLast Go.Proofs.YtfnllojppkjgcaaW.PrintMore
attribute [local go_sem] max2_int min2_int max_two min_two max_three min_three max_four min_four   -- for this text's walks alone
set_option linter.unusedVariables false
set_option linter.unusedSimpArgs false
/-! ### slices_Equal_Lint_int: function 57 -/
def slices_Equal_Lint_int.l0 : Nat → List Int → List Int → Int → Int → Option (Bool)
  | 0, _, _, _, _ => none
  | k + 1, x0, x1, x12, x13 => if x13 < x12 then (if 0 ≤ x13 then (if x13 < (x0.length : Int) then (if x13 < (x1.length : Int) then (if (rd x0 x13) = (rd x1 x13) then (slices_Equal_Lint_int.l0 k x0 x1 x12 (wrap64 (x13 + 1))) else (some false)) else (none)) else (none)) else (none)) else (some true)
def slices_Equal_Lint_int.f (k : Nat) (l0 : List Int) (l1 : List Int) : Option (Bool) := if (l0.length : Int) = (l1.length : Int) then (slices_Equal_Lint_int.l0 k l0 l1 (l0.length : Int) 0) else (some false)
set_option maxHeartbeats 8000000 in
set_option maxRecDepth 100000 in
theorem slices_Equal_Lint_int.calls (k : Nat) (A0 : Option Addr) (c0 : Nat) (l0 : List Int) (A1 : Option Addr) (c1 : Nat) (l1 : List Int) (r : Bool) (w : World) (hr0 : Kd.C (Kd.int .i64) w A0 l0.length l0) (hc0 : l0.length ≤ c0) (hr1 : Kd.C (Kd.int .i64) w A1 l1.length l1) (hc1 : l1.length ≤ c1) (h : slices_Equal_Lint_int.f k l0 l1 = some r) :
    Calls Try.prog 57 #[.slice A0 l0.length c0, .slice A1 l1.length c1] w fun e w' => e = .returned (.bool r) ∧ Drawn0 w w' := by
  have HR0 := Aside0.mk hr0
  have HC0 := Aside0.mk hc0
  clear hr0 hc0
  have HR1 := Aside0.mk hr1
  have HC1 := Aside0.mk hc1
  clear hr1 hc1
  have H : (if (l0.length : Int) = (l1.length : Int) then (slices_Equal_Lint_int.l0 k l0 l1 (l0.length : Int) 0) else (some false)) = some r := h
  clear h
  by_cases c3 : (l0.length : Int) = (l1.length : Int)
  · rw [if_pos c3] at H
    have c3b0 : ((l0.length : Int) == (l1.length : Int)) = true := beq_iff_eq.mpr c3
    have c3b1 : ((l0.length : Int) != (l1.length : Int)) = false := bne_eq_false_iff_eq.mpr c3
    have c3b2 : (l0.length == l1.length) = true := by first | simpa using c3 | (simp at c3 ⊢; omega)
    clear c3
    have H' := Aside0.mk H
    clear H
    go_enter Try.func57, Try.ntmps57
    go_wp2
    repeat (go_quiet (fail); try go_wp2)
    go_loopg [13] k (fun kq v13 w' => ∃ (x13_1 : Int), v13 = .int .i64 x13_1 ∧ Aside0 (slices_Equal_Lint_int.l0 kq l0 l1 (l0.length : Int) x13_1 = some r) ∧ Aside0 (kq ≤ k) ∧ Drawn0 w w')
    case atStart => exact ⟨(0), (by first | rfl | (simp; done) | (simp [*]; done)), H', ⟨Nat.le_refl _⟩, by repeat (first | exact Drawn0.refl _ | apply Drawn0.step)⟩
    case round =>
      clear H'
      try clear c1
      try clear p2
      try clear c3
      try clear c3b0
      try clear c3b1
      try clear c3b2
      obtain ⟨x13_1, rfl, HA, HK1, ⟨m1, rfl⟩⟩ := hrel
      cases gk with
      | zero => exact absurd HA.out (by simp [slices_Equal_Lint_int.l0])
      | succ k1 =>
        have H := HA.out
        clear HA
        simp only [slices_Equal_Lint_int.l0] at H
        by_cases c4 : x13_1 < (l0.length : Int)
        · rw [if_pos c4] at H
          have c4b0 : decide (x13_1 < (l0.length : Int)) = true := decide_eq_true c4
          clear c4
          by_cases c5 : 0 ≤ x13_1
          · rw [if_pos c5] at H
            have c5b0 : decide (0 ≤ x13_1) = true := decide_eq_true c5
            clear c5
            by_cases c6 : x13_1 < (l0.length : Int)
            · rw [if_pos c6] at H
              have c6b0 : decide (x13_1 < (l0.length : Int)) = true := decide_eq_true c6
              clear c6
              by_cases c7 : x13_1 < (l1.length : Int)
              · rw [if_pos c7] at H
                have c7b0 : decide (x13_1 < (l1.length : Int)) = true := decide_eq_true c7
                clear c7
                by_cases c8 : (rd l0 x13_1) = (rd l1 x13_1)
                · rw [if_pos c8] at H
                  have c8b0 : ((rd l0 x13_1) == (rd l1 x13_1)) = true := beq_iff_eq.mpr c8
                  have c8b1 : ((rd l0 x13_1) != (rd l1 x13_1)) = false := bne_eq_false_iff_eq.mpr c8
                  clear c8
                  have H' := Aside0.mk H
                  clear H
                  have p202 : 0 ≤ (x13_1 : Int) := of_decide_eq_true (by first | (with_reducible assumption) | assumption)
                  have q202 : x13_1 < (l0.length : Int) := of_decide_eq_true (by first | (with_reducible assumption) | assumption)
                  obtain ⟨ad202, e202, hx202_0⟩ := Kd.at_int HR0.out x13_1 p202 q202
                  cases e202
                  replace p202 := eq_true p202
                  replace q202 := eq_true q202
                  have p203 : 0 ≤ (x13_1 : Int) := of_decide_eq_true (by first | (with_reducible assumption) | assumption)
                  have q203 : x13_1 < (l1.length : Int) := of_decide_eq_true (by first | (with_reducible assumption) | assumption)
                  obtain ⟨ad203, e203, hx203_0⟩ := Kd.at_int HR1.out x13_1 p203 q203
                  cases e203
                  replace p203 := eq_true p203
                  replace q203 := eq_true q203
                  go_wp2
                  repeat (go_quiet (fail); try go_wp2)
                  go_roundg k1
                  case measure => have := HK1.out; omega
                  case rel => exact ⟨(wrap64 (x13_1 + 1)), (by first | rfl | (simp; done) | (simp [*]; done)), H', ⟨by have := HK1.out; omega⟩, by repeat (first | exact Drawn0.refl _ | apply Drawn0.step)⟩
                · rw [if_neg c8] at H
                  have c8b0 : ((rd l0 x13_1) == (rd l1 x13_1)) = false := beq_eq_false_iff_ne.mpr c8
                  have c8b1 : ((rd l0 x13_1) != (rd l1 x13_1)) = true := bne_iff_ne.mpr c8
                  obtain rfl := Option.some.inj H
                  have p202 : 0 ≤ (x13_1 : Int) := of_decide_eq_true (by first | (with_reducible assumption) | assumption)
                  have q202 : x13_1 < (l0.length : Int) := of_decide_eq_true (by first | (with_reducible assumption) | assumption)
                  obtain ⟨ad202, e202, hx202_0⟩ := Kd.at_int HR0.out x13_1 p202 q202
                  cases e202
                  replace p202 := eq_true p202
                  replace q202 := eq_true q202
                  have p203 : 0 ≤ (x13_1 : Int) := of_decide_eq_true (by first | (with_reducible assumption) | assumption)
                  have q203 : x13_1 < (l1.length : Int) := of_decide_eq_true (by first | (with_reducible assumption) | assumption)
                  obtain ⟨ad203, e203, hx203_0⟩ := Kd.at_int HR1.out x13_1 p203 q203
                  cases e203
                  replace p203 := eq_true p203
                  replace q203 := eq_true q203
                  go_wp2
                  repeat (go_quiet (fail); try go_wp2)
                  go_ret
                  exact ⟨by first | rfl | (simp; done) | (simp [*]; done), by repeat (first | exact Drawn0.refl _ | apply Drawn0.step)⟩
              · rw [if_neg c7] at H
                exact absurd H (by simp)
            · rw [if_neg c6] at H
              exact absurd H (by simp)
          · rw [if_neg c5] at H
            exact absurd H (by simp)
        · rw [if_neg c4] at H
          have c4b0 : decide (x13_1 < (l0.length : Int)) = false := decide_eq_false c4
          clear c4
          obtain rfl := Option.some.inj H
          go_wp2
          repeat (go_quiet (fail); try go_wp2)
          go_ret
          exact ⟨by first | rfl | (simp; done) | (simp [*]; done), by repeat (first | exact Drawn0.refl _ | apply Drawn0.step)⟩
  · rw [if_neg c3] at H
    have c3b0 : ((l0.length : Int) == (l1.length : Int)) = false := beq_eq_false_iff_ne.mpr c3
    have c3b1 : ((l0.length : Int) != (l1.length : Int)) = true := bne_iff_ne.mpr c3
    have c3b2 : (l0.length == l1.length) = false := by first | simpa using c3 | (simp at c3 ⊢; omega)
    obtain rfl := Option.some.inj H
    go_enter Try.func57, Try.ntmps57
    go_wp2
    repeat (go_quiet (fail); try go_wp2)
    go_ret
    exact ⟨by first | rfl | (simp; done) | (simp [*]; done), by repeat (first | exact Drawn0.refl _ | apply Drawn0.step)⟩
end Go.Proofs.Ytfnllojppkjgcaa.F
end
section
/- Laid by a program of this claim's own. What the Go function does, as a Lean function, and the proof that the Go code does just that; Lean checks it. -/
namespace Go.Proofs.Ytfnllojppkjgcaa.F
open Go.RowKit Go.Proofs.YtfnllojppkjgcaaW.PrintWords Go.Proofs.YtfnllojppkjgcaaW.PrintLast Go.Proofs.YtfnllojppkjgcaaW.PrintMore
attribute [local go_sem] max2_int min2_int max_two min_two max_three min_three max_four min_four   -- for this text's walks alone
set_option linter.unusedVariables false
set_option linter.unusedSimpArgs false
/-! ### slices_Compare_Lint_int: function 89 -/
def slices_Compare_Lint_int.l0 : Nat → List Int → List Int → List Int → Int → Int → Option (Int)
  | 0, _, _, _, _, _ => none
  | k + 1, x0, x1, x9, x10, x11 => if x11 < x10 then (if 0 ≤ x11 then (if x11 < (x9.length : Int) then (if x11 ≥ (x1.length : Int) then (some 1) else (if x11 < (x1.length : Int) then ((cmp_Compare_int.f (rd x9 x11) (rd x1 x11)).bind fun t216 => (if t216 = 0 then (slices_Compare_Lint_int.l0 k x0 x1 x9 x10 (wrap64 (x11 + 1))) else (some t216))) else (none))) else (none)) else (none)) else (if (x0.length : Int) < (x1.length : Int) then (some (-1)) else (some 0))
def slices_Compare_Lint_int.f (k : Nat) (l0 : List Int) (l1 : List Int) : Option (Int) := slices_Compare_Lint_int.l0 k l0 l1 l0 (l0.length : Int) 0
set_option maxHeartbeats 8000000 in
set_option maxRecDepth 100000 in
theorem slices_Compare_Lint_int.calls (k : Nat) (A0 : Option Addr) (c0 : Nat) (l0 : List Int) (A1 : Option Addr) (c1 : Nat) (l1 : List Int) (r : Int) (w : World) (hr0 : Kd.C (Kd.int .i64) w A0 l0.length l0) (hc0 : l0.length ≤ c0) (hr1 : Kd.C (Kd.int .i64) w A1 l1.length l1) (hc1 : l1.length ≤ c1) (h : slices_Compare_Lint_int.f k l0 l1 = some r) :
    Calls Try.prog 89 #[.slice A0 l0.length c0, .slice A1 l1.length c1] w fun e w' => e = .returned (.int .i64 r) ∧ Drawn0 w w' := by
  have HR0 := Aside0.mk hr0
  have HC0 := Aside0.mk hc0
  clear hr0 hc0
  have HR1 := Aside0.mk hr1
  have HC1 := Aside0.mk hc1
  clear hr1 hc1
  have H : (slices_Compare_Lint_int.l0 k l0 l1 l0 (l0.length : Int) 0) = some r := h
  clear h
  have H' := Aside0.mk H
  clear H
  go_enter Try.func89, Try.ntmps89
  go_wp2
  go_loopg [11] k (fun kq v11 w' => ∃ (x11_1 : Int), v11 = .int .i64 x11_1 ∧ Aside0 (slices_Compare_Lint_int.l0 kq l0 l1 l0 (l0.length : Int) x11_1 = some r) ∧ Aside0 (kq ≤ k) ∧ Drawn0 w w')
  case atStart => exact ⟨(0), (by first | rfl | (simp; done) | (simp [*]; done)), H', ⟨Nat.le_refl _⟩, by repeat (first | exact Drawn0.refl _ | apply Drawn0.step)⟩
  case round =>
    clear H'
    try clear c1
    try clear p2
    obtain ⟨x11_1, rfl, HA, HK1, ⟨m1, rfl⟩⟩ := hrel
    cases gk with
    | zero => exact absurd HA.out (by simp [slices_Compare_Lint_int.l0])
    | succ k1 =>
      have H := HA.out
      clear HA
      simp only [slices_Compare_Lint_int.l0] at H
      by_cases c3 : x11_1 < (l0.length : Int)
      · rw [if_pos c3] at H
        have c3b0 : decide (x11_1 < (l0.length : Int)) = true := decide_eq_true c3
        clear c3
        by_cases c4 : 0 ≤ x11_1
        · rw [if_pos c4] at H
          have c4b0 : decide (0 ≤ x11_1) = true := decide_eq_true c4
          clear c4
          by_cases c5 : x11_1 < (l0.length : Int)
          · rw [if_pos c5] at H
            have c5b0 : decide (x11_1 < (l0.length : Int)) = true := decide_eq_true c5
            clear c5
            by_cases c6 : x11_1 ≥ (l1.length : Int)
            · rw [if_pos c6] at H
              have c6b0 : decide ((l1.length : Int) ≤ x11_1) = true := decide_eq_true c6
              clear c6
              obtain rfl := Option.some.inj H
              have p214 : 0 ≤ (x11_1 : Int) := of_decide_eq_true (by first | (with_reducible assumption) | assumption)
              have q214 : x11_1 < (l0.length : Int) := of_decide_eq_true (by first | (with_reducible assumption) | assumption)
              obtain ⟨ad214, e214, hx214_0⟩ := Kd.at_int HR0.out x11_1 p214 q214
              cases e214
              replace p214 := eq_true p214
              replace q214 := eq_true q214
              go_wp2
              go_ret
              exact ⟨by first | rfl | (simp; done) | (simp [*]; done), by repeat (first | exact Drawn0.refl _ | apply Drawn0.step)⟩
            · rw [if_neg c6] at H
              have c6b0 : decide ((l1.length : Int) ≤ x11_1) = false := decide_eq_false c6
              clear c6
              by_cases c7 : x11_1 < (l1.length : Int)
              · rw [if_pos c7] at H
                have c7b0 : decide (x11_1 < (l1.length : Int)) = true := decide_eq_true c7
                clear c7
                replace H := Option.bind_eq_some_iff.mp H
                obtain ⟨t216, A80, H⟩ := H
                replace H : (if t216 = 0 then (slices_Compare_Lint_int.l0 k1 l0 l1 l0 (l0.length : Int) (wrap64 (x11_1 + 1))) else (some t216)) = some r := H
                have A8 := Aside0.mk A80
                clear A80
                by_cases c9 : t216 = 0
                · rw [if_pos c9] at H
                  have c9b0 : (t216 == 0) = true := beq_iff_eq.mpr c9
                  have c9b1 : (t216 != 0) = false := bne_eq_false_iff_eq.mpr c9
                  clear c9
                  have H' := Aside0.mk H
                  clear H
                  have p214 : 0 ≤ (x11_1 : Int) := of_decide_eq_true (by first | (with_reducible assumption) | assumption)
                  have q214 : x11_1 < (l0.length : Int) := of_decide_eq_true (by first | (with_reducible assumption) | assumption)
                  obtain ⟨ad214, e214, hx214_0⟩ := Kd.at_int HR0.out x11_1 p214 q214
                  cases e214
                  replace p214 := eq_true p214
                  replace q214 := eq_true q214
                  have p215 : 0 ≤ (x11_1 : Int) := of_decide_eq_true (by first | (with_reducible assumption) | assumption)
                  have q215 : x11_1 < (l1.length : Int) := of_decide_eq_true (by first | (with_reducible assumption) | assumption)
                  obtain ⟨ad215, e215, hx215_0⟩ := Kd.at_int HR1.out x11_1 p215 q215
                  cases e215
                  replace p215 := eq_true p215
                  replace q215 := eq_true q215
                  go_wp2_with (first | ((with_reducible refine gate_callee (f := 106) rfl ?_); refine goesL_ (some 26) rfl rfl Try.func106 (by kernel_rfl) rfl #[.int .i64 (rd l0 x11_1), .int .i64 (rd l1 x11_1)] rfl (by (try simp only [List.map_toArray, List.map_cons, List.map_nil]); first | done | rfl | (simp only [List.length_drop, List.length_take]; rfl)) ?_; (with_reducible refine (cmp_Compare_int.calls (rd l0 x11_1) (rd l1 x11_1) t216 _ A8.out).mono ?_); rintro e w' ⟨rfl, ⟨nd, rfl⟩⟩; refine ⟨_, rfl, ?_⟩))
                  go_roundg k1
                  case measure => have := HK1.out; omega
                  case rel => exact ⟨(wrap64 (x11_1 + 1)), (by first | rfl | (simp; done) | (simp [*]; done)), H', ⟨by have := HK1.out; omega⟩, by repeat (first | exact Drawn0.refl _ | apply Drawn0.step)⟩
                · rw [if_neg c9] at H
                  have c9b0 : (t216 == 0) = false := beq_eq_false_iff_ne.mpr c9
                  have c9b1 : (t216 != 0) = true := bne_iff_ne.mpr c9
                  obtain rfl := Option.some.inj H
                  have p214 : 0 ≤ (x11_1 : Int) := of_decide_eq_true (by first | (with_reducible assumption) | assumption)
                  have q214 : x11_1 < (l0.length : Int) := of_decide_eq_true (by first | (with_reducible assumption) | assumption)
                  obtain ⟨ad214, e214, hx214_0⟩ := Kd.at_int HR0.out x11_1 p214 q214
                  cases e214
                  replace p214 := eq_true p214
                  replace q214 := eq_true q214
                  have p215 : 0 ≤ (x11_1 : Int) := of_decide_eq_true (by first | (with_reducible assumption) | assumption)
                  have q215 : x11_1 < (l1.length : Int) := of_decide_eq_true (by first | (with_reducible assumption) | assumption)
                  obtain ⟨ad215, e215, hx215_0⟩ := Kd.at_int HR1.out x11_1 p215 q215
                  cases e215
                  replace p215 := eq_true p215
                  replace q215 := eq_true q215
                  go_wp2_with (first | ((with_reducible refine gate_callee (f := 106) rfl ?_); refine goesL_ (some 26) rfl rfl Try.func106 (by kernel_rfl) rfl #[.int .i64 (rd l0 x11_1), .int .i64 (rd l1 x11_1)] rfl (by (try simp only [List.map_toArray, List.map_cons, List.map_nil]); first | done | rfl | (simp only [List.length_drop, List.length_take]; rfl)) ?_; (with_reducible refine (cmp_Compare_int.calls (rd l0 x11_1) (rd l1 x11_1) t216 _ A8.out).mono ?_); rintro e w' ⟨rfl, ⟨nd, rfl⟩⟩; refine ⟨_, rfl, ?_⟩))
                  go_ret
                  exact ⟨by first | rfl | (simp; done) | (simp [*]; done), by repeat (first | exact Drawn0.refl _ | apply Drawn0.step)⟩
              · rw [if_neg c7] at H
                exact absurd H (by simp)
          · rw [if_neg c5] at H
            exact absurd H (by simp)
        · rw [if_neg c4] at H
          exact absurd H (by simp)
      · rw [if_neg c3] at H
        have c3b0 : decide (x11_1 < (l0.length : Int)) = false := decide_eq_false c3
        clear c3
        by_cases c10 : (l0.length : Int) < (l1.length : Int)
        · rw [if_pos c10] at H
          have c10b0 : decide ((l0.length : Int) < (l1.length : Int)) = true := decide_eq_true c10
          have c10b1 : decide (l0.length < l1.length) = true := decide_eq_true (Int.ofNat_lt.mp c10)
          clear c10
          obtain rfl := Option.some.inj H
          go_wp2
          go_ret
          exact ⟨by first | rfl | (simp; done) | (simp [*]; done), by repeat (first | exact Drawn0.refl _ | apply Drawn0.step)⟩
        · rw [if_neg c10] at H
          have c10b0 : decide ((l0.length : Int) < (l1.length : Int)) = false := decide_eq_false c10
          have c10b1 : decide (l0.length < l1.length) = false := decide_eq_false (fun h => c10 (Int.ofNat_lt.mpr h))
          clear c10
          obtain rfl := Option.some.inj H
          go_wp2
          go_ret
          exact ⟨by first | rfl | (simp; done) | (simp [*]; done), by repeat (first | exact Drawn0.refl _ | apply Drawn0.step)⟩
end Go.Proofs.Ytfnllojppkjgcaa.F
end
section
/- Laid by a program of this claim's own. What the Go function does, as a Lean function, and the proof that the Go code does just that; Lean checks it. -/
namespace Go.Proofs.Ytfnllojppkjgcaa.F
open Go.RowKit Go.Proofs.YtfnllojppkjgcaaW.PrintWords Go.Proofs.YtfnllojppkjgcaaW.PrintLast Go.Proofs.YtfnllojppkjgcaaW.PrintMore
attribute [local go_sem] max2_int min2_int max_two min_two max_three min_three max_four min_four   -- for this text's walks alone
set_option linter.unusedVariables false
set_option linter.unusedSimpArgs false
/-! ### slices_Clone_Lint_int: function 66 -/
def slices_Clone_Lint_int.f (l0 : List Int) : Option (List Int) := if l0.length < 17592186044416 then some l0 else none
set_option maxHeartbeats 8000000 in
set_option maxRecDepth 100000 in
theorem slices_Clone_Lint_int.calls_some (ad : Addr) (c0 : Nat) (l0 : List Int) (w : World) (hr0 : Kd.C (Kd.int .i64) w (some ad) l0.length l0) (hc0 : l0.length ≤ c0) (hl : l0.length < 17592186044416) :
    Calls Try.prog 66 #[.slice (some ad) l0.length c0] w fun e w' => ∃ v0_ : Value, e = .returned (v0_) ∧ Kd.R (Kd.int .i64) 3 w' w.heap.size (fun _ => True) v0_ l0 ∧ Below w.heap.size w w' := by
  have HR0 := Aside0.mk hr0
  have HC0 := Aside0.mk hc0
  clear hr0 hc0
  have HB := Aside0.mk (Below.refl w.heap.size w)
  have LMc2 := Aside0.mk hl
  clear hl
  have hnil := fun (W : World) (n : Nat) => eql_some_nil (P := Try.prog) 31 3 Try.underlying31 ad n c0 W
  go_enter Try.func66, Try.ntmps66
  go_wp2_with (first | ((with_reducible refine gate_dst (N := 5) rfl ?_); refine Kd.R_lit (Kd.int .i64) _ 3 ?hg (N := 5) ?hd (xs := ([] : List Int)) (inner := []) (ok := fun _ => True) (okp := fun _ => True) ?hr ?hp (fun _ hk => hk) trivial (Below.refl _ _) (Nat.le_refl _) (by simp) ?_; (case hd => rfl); (case hg => rfl); (case hr => first | (go_simp; done) | (go_simp; rfl)); (case hp => exact (Reps.none _ _)); intro v382 w3 ho4 hb hg_ hnew_; clear hg_ hnew_; have n0_ := Aside0.mk (Kd.R_lower ho4 (below_size (by repeat (first | (with_reducible first | exact HB.out | apply below_alloc | apply pw_below_drewN | apply below_drew1) | exact HB.out)))); have n1_ := Aside0.mk (below_step (by repeat (first | (with_reducible first | exact HB.out | apply below_alloc | apply pw_below_drewN | apply below_drew1) | exact HB.out)) hb); clear HB; have HO383 := n0_; have HB := n1_; clear n0_ n1_; clear hb ho4) | ((with_reducible refine gate_builtin (b := .append) (xs := #[.tmp 5, .tmp 6]) rfl ?_); at_builtin; refine Kd.R_append_rows (Kd.int .i64) (w0 := w) w.heap.size rfl (.tmp 5) (.tmp 6) 31 3 (.int .i64 0) 8 rfl Try.underlying31 info3 rfl (by decide) (by omega) v382 [] l0 _ _ _ (fun _ => True) (fun _ => False) rfl rfl ?aO ?aR (fun _ _ h => h) (fun _ h => h.elim) ?aF ?aB ?aS ?aL ?_; (case aR => repeat (first | exact (Kd.C_below HR0.out HB.out) | (with_reducible refine Kd.C_alloc ?_ _) | (with_reducible refine Kd.C_drewN ?_ _) | (with_reducible refine Kd.C_drew ?_))); (case aB => exact (by repeat (first | (with_reducible first | exact HB.out | apply below_alloc | apply pw_below_drewN | apply below_drew1) | exact HB.out))); (case aF => exact (fun _ _ => trivial)); (case aO => exact (by (with_reducible repeat (first | apply Kd.R_alloc | apply Kd.R_drewN | apply Kd.R_drew)); exact HO383.out)); (case aS => exact (below_size (by repeat (first | (with_reducible first | exact HB.out | apply below_alloc | apply pw_below_drewN | apply below_drew1) | exact HB.out)))); (case aL => have := LMc2.out; simp; omega); intro v385 w5 ho hb hg hat; rw [List.nil_append] at ho; have n0_ := Aside0.mk (hb); have n1_ := Aside0.mk (ho); clear HB; clear HO383; have HB := n0_; have HO386 := n1_; clear n0_ n1_; clear ho hb hg hat))
  go_ret
  exact ⟨_, by first | rfl | (simp [errW_none, errW_some] <;> rfl) | (simp [*, errW_none, errW_some] <;> rfl), by (with_reducible repeat (first | apply Kd.R_alloc | apply Kd.R_drewN | apply Kd.R_drew)); exact HO386.out, by repeat (first | (with_reducible first | exact HB.out | apply below_alloc | apply pw_below_drewN | apply below_drew1) | exact HB.out)⟩
theorem slices_Clone_Lint_int.calls (A0 : Option Addr) (c0 : Nat) (l0 : List Int) (r : List Int) (w : World) (hr0 : Kd.C (Kd.int .i64) w A0 l0.length l0) (hc0 : l0.length ≤ c0) (h : slices_Clone_Lint_int.f l0 = some r) :
    Calls Try.prog 66 #[.slice A0 l0.length c0] w fun e w' => ∃ v0_ : Value, e = .returned (v0_) ∧ Kd.R (Kd.int .i64) 3 w' w.heap.size (fun _ => True) v0_ r ∧ Below w.heap.size w w' := by
  unfold slices_Clone_Lint_int.f at h
  by_cases hl : l0.length < 17592186044416
  · rw [if_pos hl] at h
    obtain rfl := Option.some.inj h
    cases A0 with
    | some ad => exact slices_Clone_Lint_int.calls_some ad c0 l0 w hr0 hc0 hl
    | none =>
      obtain ⟨e1, _⟩ := C_none hr0
      subst e1
      have HB := Aside0.mk (Below.refl w.heap.size w)
      have hnil := fun (W : World) (n : Nat) => eql_none_nil (P := Try.prog) 31 3 Try.underlying31 n c0 W
      clear hr0 hc0 hl h
      go_enter Try.func66, Try.ntmps66
      go_wp2
      go_ret
      exact ⟨_, rfl, Kd.R_nil _ _ _ _ _, HB.out⟩
  · rw [if_neg hl] at h
    cases h
end Go.Proofs.Ytfnllojppkjgcaa.F
end
section
/- Laid by a program of this claim's own. What the Go function does, as a Lean function, and the proof that the Go code does just that; Lean checks it. -/
namespace Go.Proofs.Ytfnllojppkjgcaa.F
open Go.RowKit Go.Proofs.YtfnllojppkjgcaaW.PrintWords Go.Proofs.YtfnllojppkjgcaaW.PrintLast Go.Proofs.YtfnllojppkjgcaaW.PrintMore
attribute [local go_sem] max2_int min2_int max_two min_two max_three min_three max_four min_four   -- for this text's walks alone
set_option linter.unusedVariables false
set_option linter.unusedSimpArgs false
/-! slices.Compare and slices.Equal on two lists -/
theorem big_succ {α : Type} (pre : List α) (x : α) (h : pre.length + 1 ≤ 9223372036854775807) : wrap64 ((pre.length : Int) + 1) = ((pre ++ [x]).length : Int) := by
  rw [w64_id (by omega) (by omega)]
  simp
theorem cmpCompare_lex (x y : Int) : cmp_Compare_int.f x y = some (if x = y then 0 else if x < y then -1 else 1) := by
  have h : ∀ z, cmp_isNaN_int.f z = some false := by intro z; unfold cmp_isNaN_int.f; simp
  unfold cmp_Compare_int.f
  rw [h, h]
  simp only [Option.bind_some, Bool.false_eq_true, if_false]
  by_cases e : x = y
  · subst e; simp
  · by_cases l : x < y
    · simp [e, l]
    · have : x > y := by omega
      simp [e, l, this]
theorem compare_lex_at (rest : List Int) : ∀ (pre ys : List Int), (pre ++ rest).length ≤ 9223372036854775807 → (pre ++ ys).length ≤ 9223372036854775807 →
    Ev (fun k => slices_Compare_Lint_int.l0 k (pre ++ rest) (pre ++ ys) (pre ++ rest) ((pre ++ rest).length : Int) (pre.length : Int)) (lexC rest ys) := by
  induction rest with
  | nil =>
    intro pre ys hb hc
    refine Ev.step (f := fun _ => some (lexC [] ys)) (fun k => ?_) (Ev.now _)
    show slices_Compare_Lint_int.l0 (k + 1) _ _ _ _ _ = _
    rw [slices_Compare_Lint_int.l0, if_neg (mid_nlt _)]
    cases ys with
    | nil => rw [if_neg (by omega)]; rfl
    | cons y ys => rw [if_pos (by simp; omega)]; rfl
  | cons x rest ih =>
    intro pre ys hb hc
    cases ys with
    | nil =>
      refine Ev.step (f := fun _ => some 1) (fun k => ?_) (Ev.now _)
      show slices_Compare_Lint_int.l0 (k + 1) _ _ _ _ _ = _
      rw [slices_Compare_Lint_int.l0, if_pos (mid_lt _ _ _), if_pos (nn _), if_pos (mid_lt _ _ _), if_pos (by simp)]
    | cons y ys =>
      have hge : ¬ ((pre.length : Int) ≥ ((pre ++ y :: ys).length : Int)) := by have := mid_lt pre y ys; omega
      by_cases e : x = y
      · subst e
        have h := ih (pre ++ [x]) ys (by simpa using hb) (by simpa using hc)
        rw [← mid_cons, ← mid_cons, ← big_succ pre x (by simp at hb; omega)] at h
        rw [show lexC (x :: rest) (x :: ys) = lexC rest ys by simp [lexC]]
        refine Ev.step (fun k => ?_) h
        show slices_Compare_Lint_int.l0 (k + 1) _ _ _ _ _ = _
        rw [slices_Compare_Lint_int.l0, if_pos (mid_lt _ _ _), if_pos (nn _), if_pos (mid_lt _ _ _), if_neg hge, if_pos (mid_lt _ _ _), mid_rd, mid_rd, cmpCompare_lex, if_pos rfl, Option.bind_some, if_pos rfl]
      · rw [show lexC (x :: rest) (y :: ys) = if x < y then -1 else 1 by simp [lexC, e]]
        refine Ev.step (f := fun _ => some (if x < y then -1 else 1)) (fun k => ?_) (Ev.now _)
        show slices_Compare_Lint_int.l0 (k + 1) _ _ _ _ _ = _
        rw [slices_Compare_Lint_int.l0, if_pos (mid_lt _ _ _), if_pos (nn _), if_pos (mid_lt _ _ _), if_neg hge, if_pos (mid_lt _ _ _), mid_rd, mid_rd, cmpCompare_lex, if_neg e, Option.bind_some]
        by_cases l : x < y
        · rw [if_pos l]; rfl
        · rw [if_neg l]; rfl
theorem compare_lex (a b : List Int) (ha : a.length ≤ 9223372036854775807) (hb : b.length ≤ 9223372036854775807) : ∃ k, slices_Compare_Lint_int.f k a b = some (lexC a b) := (compare_lex_at a [] b ha hb).rounds
theorem equal_dec_at (rest : List Int) : ∀ (pre ys : List Int), (pre ++ ys).length ≤ 9223372036854775807 → rest.length = ys.length →
    Ev (fun k => slices_Equal_Lint_int.l0 k (pre ++ rest) (pre ++ ys) ((pre ++ rest).length : Int) (pre.length : Int)) (decide (rest = ys)) := by
  induction rest with
  | nil =>
    intro pre ys hb hl
    obtain rfl : ys = [] := List.length_eq_zero_iff.mp hl.symm
    exact Ev.step (f := fun _ => some true) (fun k => by rw [slices_Equal_Lint_int.l0, if_neg (mid_nlt _)]) (Ev.now _)
  | cons x rest ih =>
    intro pre ys hb hl
    cases ys with
    | nil => simp at hl
    | cons y ys =>
      by_cases e : x = y
      · subst e
        have h := ih (pre ++ [x]) ys (by simpa using hb) (by simpa using hl)
        rw [← mid_cons, ← mid_cons, ← big_succ pre x (by simp at hb; omega)] at h
        rw [show decide (x :: rest = x :: ys) = decide (rest = ys) by simp]
        exact Ev.step (fun k => by rw [slices_Equal_Lint_int.l0, if_pos (mid_lt _ _ _), if_pos (nn _), if_pos (mid_lt _ _ _), if_pos (mid_lt _ _ _), mid_rd, mid_rd, if_pos rfl]) h
      · rw [show decide (x :: rest = y :: ys) = false by simp [e]]
        exact Ev.step (f := fun _ => some false) (fun k => by rw [slices_Equal_Lint_int.l0, if_pos (mid_lt _ _ _), if_pos (nn _), if_pos (mid_lt _ _ _), if_pos (mid_lt _ _ _), mid_rd, mid_rd, if_neg e]) (Ev.now _)
theorem equal_dec (l m : List Int) (hl : l.length ≤ 9223372036854775807) : ∃ k, slices_Equal_Lint_int.f k l m = some (decide (l = m)) := by
  refine Ev.rounds (g := fun k => slices_Equal_Lint_int.f k l m) ?_
  unfold slices_Equal_Lint_int.f
  by_cases e : (l.length : Int) = (m.length : Int)
  · simp only [if_pos e]
    exact equal_dec_at l [] m (by simp; omega) (by omega)
  · simp only [if_neg e]
    rw [show decide (l = m) = false from decide_eq_false (fun h => e (by rw [h]))]
    exact Ev.now _
theorem row_val {W : World} {x : List Int} {v : Value} (h : (Kd.slice 3 (Kd.int .i64)).K W x [v]) : ∃ A c, v = .slice A x.length c ∧ x.length ≤ c ∧ x.length ≤ 9223372036854775807 ∧ Kd.C (Kd.int .i64) W A x.length x := by
  obtain ⟨A, c, he, hl, hC⟩ := h
  exact ⟨A, c, by simpa using he, hl, hC.2.1, hC⟩
theorem slices_Compare_Lint_int.lex (W : World) (x y : List Int) (vx vy : Value) (hx : (Kd.slice 3 (Kd.int .i64)).K W x [vx]) (hy : (Kd.slice 3 (Kd.int .i64)).K W y [vy]) :
    Calls Try.prog 89 #[vx, vy] W fun e w' => e = .returned (.int .i64 (lexC x y)) ∧ Drawn0 W w' := by
  obtain ⟨A0, c0, rfl, hl0, hm0, hC0⟩ := row_val hx
  obtain ⟨A1, c1, rfl, hl1, hm1, hC1⟩ := row_val hy
  obtain ⟨k, hk⟩ := compare_lex x y hm0 hm1
  exact slices_Compare_Lint_int.calls k A0 c0 x A1 c1 y (lexC x y) W hC0 hl0 hC1 hl1 hk
theorem slices_Equal_Lint_int.dec (W : World) (x y : List Int) (vx vy : Value) (hx : (Kd.slice 3 (Kd.int .i64)).K W x [vx]) (hy : (Kd.slice 3 (Kd.int .i64)).K W y [vy]) :
    Calls Try.prog 57 #[vx, vy] W fun e w' => e = .returned (.bool (decide (x = y))) ∧ Drawn0 W w' := by
  obtain ⟨A0, c0, rfl, hl0, hm0, hC0⟩ := row_val hx
  obtain ⟨A1, c1, rfl, hl1, hm1, hC1⟩ := row_val hy
  obtain ⟨k, hk⟩ := equal_dec x y hm0
  exact slices_Equal_Lint_int.calls k A0 c0 x A1 c1 y (decide (x = y)) W hC0 hl0 hC1 hl1 hk
theorem slices_SortFunc_LLint_Lint.onS (w : World) (base : Nat) (ok : Nat → Prop) (v : Value) (xs : List (List Int)) (hS : Kd.S (Kd.slice 3 (Kd.int .i64)) 31 w base ok v xs) (hlen : xs.length < 4611686018427387904) :
    Calls Try.prog 88 #[v, .func (.func 89) #[] #[]] w fun e' w' => e' = .returned (.tuple #[]) ∧ w.grownBy w' v.ownBlock ∧ Kd.S (Kd.slice 3 (Kd.int .i64)) 31 w' base ok v (sortL xs) := by
  have h := sortFunc_S sortK (Kd.slice 3 (Kd.int .i64)) rfl lexC lexC_nrefl lexC_trans lexC_ntrans 89 (enters_of Try.func89 (by kernel_rfl) rfl) slices_Compare_Lint_int.lex 31 w base ok v xs hS hlen
  refine Calls.mono (f := 88) h ?_
  rintro e' w' ⟨h1, h2, ys, h3, h4, h5⟩
  refine ⟨h1, h2, ?_⟩
  rw [← sortL_unique h3 h4]
  exact h5
open Go.Shelf Go.Lib Go.Sort in
set_option maxHeartbeats 8000000 in
set_option maxRecDepth 1000000 in
/-- slices.CompactFunc at elements of one cell, the function handed over an equality of keys: the row keeps what differs from its neighbour, then zero values. -/
theorem slices_CompactFunc_LLint_Lint.one {α κ : Type} [Inhabited α] [DecidableEq κ] (key : α → κ) (enc : α → Value) (hO : OneCell enc) (zr : α) (hzr : enc zr = .slice none 0 0) (g : Nat) (cb : Array Value) (eg : ∀ args w, (callFunc g args).run Try.prog w = .ok (.enter g args) w) (blk off cap : Nat) (d : Array α) (w : World) (hH : Holds enc w blk off d) (hsz : d.size ≤ 9223372036854775807) (hcap : d.size ≤ cap)
    (hq : ∀ (q : Nat) (dk : Array α), dk.size = d.size → ∀ x y : α, Calls Try.prog g (#[enc x, enc y] ++ cb) (putRow enc (Sort.ahead w q) blk off dk) fun e w' => e = .returned (.bool (decide (key x = key y))) ∧ Drawn0 (putRow enc (Sort.ahead w q) blk off dk) w') :
    Calls Try.prog 90 #[.slice (some ⟨blk, off, none⟩) d.size cap, .func (.func g) #[] cb] w fun e w' => e = .returned (.slice (some ⟨blk, off, none⟩) (compK key d d.size).length cap) ∧ ∃ q, w' = putRow enc (Sort.ahead w q) blk off (compK key d d.size ++ List.replicate (d.size - (compK key d d.size).length) zr).toArray := by
  have hcl0 := hO.cells
  simp only [Value.cells] at hcl0
  have hst := hO.store Try.prog
  have hq1 : ∀ (q : Nat) (x y : α), Calls Try.prog g (#[enc x, enc y] ++ cb) (w.drewN q) fun e w' => e = .returned (.bool (decide (key x = key y))) ∧ Drawn0 (w.drewN q) w' := fun q x y => by
    have h := hq q d rfl x y
    rw [putRow_self enc (Sort.ahead w q) blk off d (holds_ahead enc w q blk off d hH)] at h
    exact h
  have same : ∀ q, (∀ j, j < d.size → keepsK key d j = true) → (compK key d d.size).length = d.size ∧ w.drewN q = putRow enc (Sort.ahead w q) blk off (compK key d d.size ++ List.replicate (d.size - (compK key d d.size).length) zr).toArray := by
    intro q hall
    have e : compK key d d.size = d.toList := by rw [compK_all d _ hall, range_map_get]
    rw [e]
    refine ⟨by simp, ?_⟩
    simp only [Array.length_toList, Nat.sub_self, List.replicate_zero, List.append_nil, Array.toArray_toList]
    exact (putRow_self enc (Sort.ahead w q) blk off d (holds_ahead enc w q blk off d hH)).symm
  have HS := Aside0.mk same
  have HQ := Aside0.mk hq
  have HQ1 := Aside0.mk hq1
  clear same hq hq1
  by_cases h2 : d.size < 2
  · have HH := Aside0.mk hH
    clear hH
    go_enter Try.func90, Try.ntmps90
    go_wp2
    go_ret
    obtain ⟨e1, e2⟩ := HS.out 0 (fun j hj => keepsK_lt_one d j (by omega))
    exact ⟨by rw [e1]; rfl, 0, e2⟩
  · go_enter Try.func90, Try.ntmps90
    go_wp2
    go_loopg [5] d.size (fun g_ s5 wr => ∃ k q : Nat, Aside0 (1 ≤ k) ∧ Aside0 (k ≤ d.size) ∧ Aside0 (d.size - k ≤ g_) ∧ s5 = .int .i64 k ∧ Aside0 (wr = w.drewN q) ∧ Aside0 (∀ j, j < k → keepsK key d j = true))
    case atStart => exact ⟨1, 0, ⟨Nat.le_refl _⟩, ⟨by omega⟩, ⟨by omega⟩, rfl, ⟨rfl⟩, ⟨keepsK_lt_one d⟩⟩
    case round =>
      obtain ⟨k, q, hk1, hk, hg, rfl, hwr, AA⟩ := hrel
      by_cases hlt : k < d.size
      · obtain ⟨c1, f1⟩ := hH k hlt
        obtain ⟨c0, f0⟩ := hH (k - 1) (by have := hk1.out; omega)
        have c1r : wr.cell? ⟨blk, off + k, none⟩ = some (enc d[k]!) := by rw [hwr.out]; exact c1
        have c0r : wr.cell? ⟨blk, off + (k - 1), none⟩ = some (enc d[k - 1]!) := by rw [hwr.out]; exact c0
        have hcall := fun (n : Nat) => HQ1.out (q + n) d[k]! d[k - 1]!
        have hwn : ∀ n, wr.drewN n = w.drewN (q + n) := fun n => by rw [hwr.out, World.drewN_drewN]
        have hcall2 : ∀ n, Calls Try.prog g (#[enc d[k]!, enc d[k - 1]!] ++ cb) (wr.drewN n) fun e w' => e = .returned (.bool (decide (key d[k]! = key d[k - 1]!))) ∧ ∃ m, w' = (wr.drewN n).drewN m := fun n => by
          rw [hwn n]
          exact (hcall n).mono fun e w' hd => ⟨hd.1, hd.2.out⟩
        have HH := Aside0.mk hH
        have HWN := Aside0.mk hwn
        clear hH hcall hwn c1 c0 f1 f0
        generalize hx : d[k]! = x at c1r hcall2
        generalize hy : d[k - 1]! = y at c0r hcall2
        have B := Aside0.mk (And.intro hx hy)
        have hkk := hk1.out
        have hkd := hk.out
        clear hx hy
        by_cases hdup : key x = key y
        · rw [decide_eq_true hdup] at hcall2
          have hcallA := Aside0.mk hcall2
          have hdupA := Aside0.mk hdup
          clear hcall2 hdup
          go_wp2
          go_quiet ((go_at_fn g; refine Calls.quiet_of (hcallA.out _)))
          go_wp2
          clear c0r c1r
          go_loopg [5, 7] d.size (fun g_ s5 s7 wr2 => ∃ (kk k2 q2 : Nat) (dk : Array α), s5 = .int .i64 kk ∧ s7 = .int .i64 k2 ∧ Aside0 (1 ≤ k2) ∧ Aside0 (k + k2 ≤ d.size) ∧ Aside0 (d.size - (k + k2) ≤ g_) ∧ Aside0 (wr2 = putRow enc (Sort.ahead w q2) blk off dk) ∧ Aside0 (CompInvK key d (k + k2) kk dk))
          case atStart => exact ⟨k, 1, _, d, rfl, rfl, ⟨Nat.le_refl _⟩, ⟨by omega⟩, ⟨by omega⟩, ⟨(HWN.out _).trans (putRow_self enc (Sort.ahead w _) blk off d (holds_ahead enc w _ blk off d HH.out)).symm⟩, ⟨CompInvK.start AA.out (keepsK_neg (by omega) (by rw [B.out.1, B.out.2]; exact hdupA.out))⟩⟩
          case round =>
            obtain ⟨kk, k2, q2, dk, rfl, rfl, h1, hle, hg2, W2, I2⟩ := hrel
            have hkk2 := I2.out.lt
            have hds := I2.out.size
            have hHk : Holds enc wr blk off dk := by rw [W2.out]; exact holds_putRow enc _ blk off d dk (holds_ahead enc w q2 blk off d HH.out) hds
            have h1o := h1.out
            have hleo := hle.out
            by_cases hlt2 : k + k2 < d.size
            · obtain ⟨cm, _⟩ := hHk (k + k2) (by omega)
              obtain ⟨cp, _⟩ := hHk (k + k2 - 1) (by omega)
              obtain ⟨ck, fk⟩ := hHk kk (by omega)
              rw [I2.out.high (k + k2) (by omega), show off + (k + k2) = off + k + k2 by omega] at cm
              rw [I2.out.high (k + k2 - 1) (by omega), show off + (k + k2 - 1) = off + k + (k2 - 1) by omega] at cp
              have hwn2 : ∀ n, wr.drewN n = putRow enc (Sort.ahead w (q2 + n)) blk off dk := fun n => by rw [W2.out, ← ahead_ahead]; rfl
              have hcall3 : ∀ n, Calls Try.prog g (#[enc d[k + k2]!, enc d[k + k2 - 1]!] ++ cb) (wr.drewN n) fun e w' => e = .returned (.bool (decide (key d[k + k2]! = key d[k + k2 - 1]!))) ∧ ∃ m, w' = (wr.drewN n).drewN m := fun n => by
                rw [hwn2 n]
                exact (HQ.out (q2 + n) dk hds _ _).mono fun e w' hd => ⟨hd.1, hd.2.out⟩
              have HWN2 := Aside0.mk hwn2
              clear hHk hwn2
              generalize hu : d[k + k2]! = u at cm hcall3
              generalize hv : d[k + k2 - 1]! = v at cp hcall3
              generalize dk[kk]! = old at ck
              have C := Aside0.mk (And.intro hu hv)
              clear hu hv
              by_cases huv : key u = key v
              · rw [decide_eq_true huv] at hcall3
                have hcallB := Aside0.mk hcall3
                have huvA := Aside0.mk huv
                clear hcall3 huv
                go_wp2
                go_quiet ((go_at_fn g; refine Calls.quiet_of (hcallB.out _)))
                go_wp2
                go_roundg (d.size - (k + (k2 + 1)))
                case measure => have := hg2.out; omega
                case rel => exact ⟨kk, k2 + 1, _, dk, rfl, by go_num, ⟨by omega⟩, ⟨by omega⟩, ⟨Nat.le_refl _⟩, ⟨HWN2.out _⟩, ⟨I2.out.skip (keepsK_neg (by omega) (by rw [C.out.1, C.out.2]; exact huvA.out))⟩⟩
              · rw [decide_eq_false huv] at hcall3
                have hcallB := Aside0.mk hcall3
                have huvA := Aside0.mk huv
                clear hcall3 huv
                go_wp2
                go_quiet ((go_at_fn g; refine Calls.quiet_of (hcallB.out _)))
                go_wp2
                go_roundg (d.size - (k + (k2 + 1)))
                case measure => have := hg2.out; omega
                case rel =>
                  refine ⟨kk + 1, k2 + 1, _, dk.setIfInBounds kk u, by go_num, by go_num, ⟨by omega⟩, ⟨by omega⟩, ⟨Nat.le_refl _⟩, ⟨(congrArg (fun W => World.setCell W ⟨blk, off + kk, none⟩ (enc u)) (HWN2.out _)).trans (putRow_set enc _ blk off dk kk u (by omega))⟩, ⟨by have := I2.out.keep hlt2 (keepsK_pos (by rw [C.out.1, C.out.2]; exact huvA.out)); rwa [C.out.1] at this⟩⟩
            · have hend : k + k2 = d.size := by omega
              have hcl : ∀ ty, (Builtin.clear_ #[22] ty #[.slice (some ⟨blk, off + kk, none⟩) (d.size - kk) (cap - kk)]).run Try.prog wr = .ok (.tuple #[]) (wr.setCells blk (off + kk) (List.replicate (d.size - kk) (enc zr))) :=
                fun ty => Lib.run_clear_slice wr _ _ ty _ Try.underlying22 (fun w => by rw [hzr]; exact Try.zeroValue31 w) (hO.cells zr) (hO zr) blk (off + kk) _ _ (by omega) (fun j hj => by rw [show off + kk + j = off + (kk + j) by omega, (hHk (kk + j) (by omega)).1]; rfl) (fun j hj => by rw [show off + kk + j = off + (kk + j) by omega]; exact (hHk (kk + j) (by omega)).2)
              clear hHk
              go_wp2
              go_ret
              have hI := I2.out
              rw [hend] at hI
              refine ⟨by rw [hI.len]; rfl, q2, ?_⟩
              rw [hI.len, ← hI.done zr, ← putRow_setCells enc _ blk off _ dk kk (by simp; omega), ← W2.out, List.map_replicate, hzr]
        · rw [decide_eq_false hdup] at hcall2
          have hcallA := Aside0.mk hcall2
          have hdupA := Aside0.mk hdup
          clear hcall2 hdup
          go_wp2
          go_quiet ((go_at_fn g; refine Calls.quiet_of (hcallA.out _)))
          go_wp2
          go_roundg (d.size - (k + 1))
          case measure => have := hg.out; omega
          case rel =>
            refine ⟨k + 1, _, ⟨by omega⟩, ⟨by omega⟩, ⟨Nat.le_refl _⟩, by go_num, ⟨HWN.out _⟩, ⟨fun j hj => ?_⟩⟩
            by_cases e : j = k
            · subst e
              exact keepsK_pos (by rw [B.out.1, B.out.2]; exact hdupA.out)
            · exact AA.out j (by omega)
      · have hkd := hk.out
        have : k = d.size := by omega
        subst this
        have HH := Aside0.mk hH
        clear hH
        go_wp2
        go_ret
        obtain ⟨e1, e2⟩ := HS.out q AA.out
        exact ⟨by rw [e1]; rfl, q, hwr.out.trans e2⟩
theorem slices_CompactFunc_LLint_Lint.none_ (fv : Value) (w : World) : Calls Try.prog 90 #[.slice none 0 0, fv] w fun e w' => e = .returned (.slice none 0 0) ∧ w' = w := by
  go_enter Try.func90, Try.ntmps90
  go_wp2
  go_ret
  exact ⟨rfl, rfl⟩
open Go.Shelf Go.Lib Go.Sort in
theorem slices_CompactFunc_LLint_Lint.onS (w : World) (base : Nat) (ok : Nat → Prop) (v : Value) (xs : List (List Int)) (hS : Kd.S (Kd.slice 3 (Kd.int .i64)) 31 w base ok v xs) :
    Calls Try.prog 90 #[v, .func (.func 57) #[] #[]] w fun e' w' => ∃ v' : Value, e' = .returned v' ∧ w.grownBy w' v.ownBlock ∧ Kd.S (Kd.slice 3 (Kd.int .i64)) 31 w' base ok v' (compL xs) := by
  obtain ⟨f, h0, inner, ho, hr⟩ := hS
  have ho0 := ho
  rcases ho.2 with ⟨rfl, hn0⟩ | ⟨g, cap, cur, rfl, hb, hh, hn, hm, hs, ht⟩
  · refine (slices_CompactFunc_LLint_Lint.none_ _ w).mono ?_
    rintro e' w' ⟨rfl, rfl⟩
    obtain rfl : xs = [] := List.eq_nil_of_length_eq_zero (by rw [← List.length_zipIdx (l := xs) (i := 0)]; exact hn0)
    exact ⟨_, rfl, World.grownBy.refl _ _, Kd.S_nil _ _ _ _ _⟩
  · rw [List.length_zipIdx] at hn ht ho
    have hsz2 : (Kd.tag f (Kd.slice 3 (Kd.int .i64))).sz = 1 := rfl
    rw [hsz2] at hr ho hs ht ho0
    have hr2 : Reps ((Kd.tag f (Kd.slice 3 (Kd.int .i64))).M w base (fun k => ok k ∧ some k ≠ some g)) 1 xs.zipIdx inner := hr
    obtain ⟨D, hD1, hD2⟩ := elts _ _ hr2
    have hlD : D.length = xs.length := by have := congrArg List.length hD2; simpa using this
    let zr : Elt (Kd.slice 3 (Kd.int .i64)) f w base (fun k => ok k ∧ some k ≠ some g) := Elt.of (.slice none 0 0) ([], 0) ⟨_, rfl, Kd.R_nil _ _ _ _ _⟩
    haveI : Inhabited (Elt (Kd.slice 3 (Kd.int .i64)) f w base (fun k => ok k ∧ some k ≠ some g)) := ⟨zr⟩
    have hg : g < w.heap.size := (Array.getElem?_eq_some_iff.1 hh).1
    have hmove : ∀ (w' : World), w.grownBy w' (some g) → ∀ x : Elt (Kd.slice 3 (Kd.int .i64)) f w base (fun k => ok k ∧ some k ≠ some g), (Kd.tag f (Kd.slice 3 (Kd.int .i64))).M w' base (fun k => ok k ∧ some k ≠ some g) x.two [x.enc] :=
      fun w' hgr x => Kd.M_grown x.2 hgr (fun k hk => hk.2)
    have hown : w.ownsRow base 31 1 (.slice (some ⟨g, 0, none⟩) xs.length cap) xs.length (D.toArray.toList.map Elt.enc) := by
      rw [show D.toArray.toList.map Elt.enc = inner from hD1]
      exact ho
    have e1 : D.toArray.size = xs.length := by simp [hlD]
    have hmx : xs.length ≤ 9223372036854775807 := by unfold maxLen at hm; omega
    have hcon := slices_CompactFunc_LLint_Lint.one Elt.key (Elt.enc (d := Kd.slice 3 (Kd.int .i64)) (f := f) (w := w) (base := base)) Elt.one zr rfl 57 #[] (enters_of Try.func57 (by kernel_rfl) rfl) g 0 cap D.toArray w (holds_own hown) (by omega) (by omega)
      (fun q dk hdk x y => by
        have hrel := relaid_putRow Elt.enc w g q dk hg
        exact slices_Equal_Lint_int.dec _ x.key y.key x.enc y.enc ((Kd.tag f (Kd.slice 3 (Kd.int .i64))).K_of_M (hmove _ hrel.grown x)) ((Kd.tag f (Kd.slice 3 (Kd.int .i64))).K_of_M (hmove _ hrel.grown y)))
    have hv : Value.slice (some ⟨g, 0, none⟩) xs.zipIdx.length cap = Value.slice (some ⟨g, 0, none⟩) xs.length cap := by rw [List.length_zipIdx]
    rw [hv]
    rw [e1] at hcon
    refine hcon.mono ?_
    rintro e' w' ⟨rfl, q, rfl⟩
    have hsub : (compK Elt.key D.toArray xs.length).Sublist D := by
      have := compK_sub (key := Elt.key) D.toArray
      rw [e1] at this
      exact this
    have hlen := hsub.length_le
    obtain ⟨D', hD'⟩ : ∃ D' : Array (Elt (Kd.slice 3 (Kd.int .i64)) f w base (fun k => ok k ∧ some k ≠ some g)), D' = (compK Elt.key D.toArray xs.length ++ List.replicate (xs.length - (compK Elt.key D.toArray xs.length).length) zr).toArray := ⟨_, rfl⟩
    rw [← hD']
    have hps : D'.size = xs.length := by rw [hD']; simp; omega
    have hrel := relaid_putRow Elt.enc w g q D' hg
    have hown2 := own_relaid hown D' hps hrel
    have hl' : (D'.toList.map Elt.two).length = xs.length := by simp [hps]
    have hR : (Kd.tag f (Kd.slice 3 (Kd.int .i64))).R 31 (putRow Elt.enc (Sort.ahead w q) g 0 D') base ok (.slice (some ⟨g, 0, none⟩) xs.length cap) (D'.toList.map Elt.two) := by
      refine ⟨h0, D'.toList.map Elt.enc, ?_, ?_⟩
      · rw [hsz2, hl']; exact hown2
      · rw [hsz2]; exact reps_elts D'.toList (hmove _ hrel.grown)
    have hT := Kd.R_take hR (m := (compK Elt.key D.toArray xs.length).length) (by rw [hl']; omega)
    have htk : (D'.toList.map Elt.two).take (compK Elt.key D.toArray xs.length).length = (compK Elt.key D.toArray xs.length).map Elt.two := by
      rw [hD', ← List.map_take]
      simp
    rw [htk] at hT
    have hnd : (((compK Elt.key D.toArray xs.length).map Elt.two).map Prod.snd).Nodup := by
      have h1 := (hsub.map Elt.two).map Prod.snd
      rw [hD2] at h1
      exact List.Pairwise.sublist h1 (zip_snd_nodup xs)
    have h4 := S_of_tags hT hnd
    have hkeys : ((compK Elt.key D.toArray xs.length).map Elt.two).map Prod.fst = compL xs := by
      rw [List.map_map]
      have h5 := compK_keys (key := Elt.key) D.toArray xs.length (by omega)
      have h6 : (D.toArray.toList.take xs.length).map Elt.key = xs := by
        rw [show D.toArray.toList.take xs.length = D by rw [← hlD]; simp]
        have := congrArg (List.map Prod.fst) hD2
        rw [List.map_map, List.zipIdx_map_fst] at this
        exact this
      rw [h6] at h5
      exact h5
    rw [hkeys] at h4
    exact ⟨_, rfl, hrel.grown, h4⟩
/-! ### impl_SortPackets: function 59 -/
def impl_SortPackets.l0 : Nat → List (List Int) → List (List Int) → Int → Int → Option ((List (List Int)))
  | 0, _, _, _, _ => none
  | k + 1, x3, x6, x7, x8 => if x8 < x7 then (if 0 ≤ x8 then (if x8 < (x6.length : Int) then ((slices_Clone_Lint_int.f (rd_L1 x6 x8)).bind fun t218 => (if x3.length < 5864062014805 then (impl_SortPackets.l0 k (x3 ++ [t218]) x6 x7 (wrap64 (x8 + 1))) else (none))) else (none)) else (none)) else (if x3.length < 4611686018427387904 then (some (sortP x3)) else (none))
def impl_SortPackets.f (k : Nat) (l0 : List (List Int)) : Option ((List (List Int))) := impl_SortPackets.l0 k ([] : List (List Int)) l0 (l0.length : Int) 0
set_option maxHeartbeats 8000000 in
set_option maxRecDepth 100000 in
theorem impl_SortPackets.calls (k : Nat) (A0 : Option Addr) (c0 : Nat) (l0 : List (List Int)) (r : List (List Int)) (w : World) (hr0 : Kd.C (Kd.slice 3 (Kd.int .i64)) w A0 l0.length l0) (hc0 : l0.length ≤ c0) (h : impl_SortPackets.f k l0 = some r) :
    Calls Try.prog 59 #[.slice A0 l0.length c0] w fun e w' => ∃ v0_ : Value, e = .returned (v0_) ∧ Kd.S (Kd.slice 3 (Kd.int .i64)) 31 w' w.heap.size (fun _ => True) v0_ r ∧ Below w.heap.size w w' := by
  have HR0 := Aside0.mk hr0
  have HC0 := Aside0.mk hc0
  clear hr0 hc0
  have HB := Aside0.mk (Below.refl w.heap.size w)
  have H : (impl_SortPackets.l0 k ([] : List (List Int)) l0 (l0.length : Int) 0) = some r := h
  clear h
  have H' := Aside0.mk H
  clear H
  go_enter Try.func59, Try.ntmps59
  go_wp2
  go_loopg [3, 8] k (fun kq v3 v8 w' => ∃ (x3_1 : List (List Int)) (x8_1 : Int), v8 = .int .i64 x8_1 ∧ Aside0 (impl_SortPackets.l0 kq x3_1 l0 (l0.length : Int) x8_1 = some r) ∧ Aside0 (kq ≤ k) ∧ Aside0 (Kd.S (Kd.slice 3 (Kd.int .i64)) 31 w' w.heap.size (fun _ => True) v3 x3_1) ∧ Aside0 (Below w.heap.size w w'))
  case atStart => exact ⟨(([] : List (List Int))), (0), (by first | rfl | (simp; done) | (simp [*]; done)), H', ⟨Nat.le_refl _⟩, ⟨by first | exact Kd.S_nil _ _ _ _ _ | exact Kd.N_nil _ _ _ _ _ | exact Kd.V_nil _ _ _ _ _ | exact Kd.Q_nil _ _ _ _ _ | exact Kd.R_nil _ _ _ _ _⟩, ⟨by repeat (first | (with_reducible first | exact HB.out | apply below_alloc | apply pw_below_drewN | apply below_drew1) | exact HB.out)⟩⟩
  case round =>
    clear H'
    obtain ⟨x3_1, x8_1, rfl, HA, HK1, HO_3, HB⟩ := hrel
    cases gk with
    | zero => exact absurd HA.out (by simp [impl_SortPackets.l0])
    | succ k1 =>
      have H := HA.out
      clear HA
      simp only [impl_SortPackets.l0] at H
      by_cases c2 : x8_1 < (l0.length : Int)
      · rw [if_pos c2] at H
        have c2b0 : decide (x8_1 < (l0.length : Int)) = true := decide_eq_true c2
        clear c2
        by_cases c3 : 0 ≤ x8_1
        · rw [if_pos c3] at H
          have c3b0 : decide (0 ≤ x8_1) = true := decide_eq_true c3
          clear c3
          by_cases c4 : x8_1 < (l0.length : Int)
          · rw [if_pos c4] at H
            have c4b0 : decide (x8_1 < (l0.length : Int)) = true := decide_eq_true c4
            clear c4
            replace H := Option.bind_eq_some_iff.mp H
            obtain ⟨t218, A50, H⟩ := H
            replace H : (if x3_1.length < 5864062014805 then (impl_SortPackets.l0 k1 (x3_1 ++ [t218]) l0 (l0.length : Int) (wrap64 (x8_1 + 1))) else (none)) = some r := H
            have A5 := Aside0.mk A50
            clear A50
            by_cases c6 : x3_1.length < 5864062014805
            · rw [if_pos c6] at H
              have LMc6 := Aside0.mk c6
              clear c6
              obtain ⟨y221, hy221⟩ : ∃ y_ : List (List Int), y_ = (x3_1 ++ [t218]) := ⟨_, rfl⟩
              replace H : (impl_SortPackets.l0 k1 y221 l0 (l0.length : Int) (wrap64 (x8_1 + 1))) = some r := by first | (rw [hy221]; with_reducible exact H) | (have H2_ := (Option.bind_some _ _).symm.trans H; rw [hy221]; with_reducible exact H2_) | (have H2_ := (Option.bind_some _ _).symm.trans H; with_reducible exact H2_) | with_reducible exact H | (rw [hy221]; exact H) | exact H
              have Ny221 := Aside0.mk hy221
              clear hy221
              have H' := Aside0.mk H
              clear H
              have p217 : 0 ≤ (x8_1 : Int) := of_decide_eq_true (by first | (with_reducible assumption) | assumption)
              have q217 : x8_1 < (l0.length : Int) := of_decide_eq_true (by first | (with_reducible assumption) | assumption)
              obtain ⟨ad217, A217_0, c217_0, e217, hx217_0, hl217_0, hi217_0⟩ := at_L1 HR0.out x8_1 p217 q217
              cases e217
              replace hx217_0 := (HB.out.cell (World.block_lt_of_cell? w _ hx217_0)).trans hx217_0
              have HR217_0 := Aside0.mk hi217_0
              have HC217_0 := Aside0.mk hl217_0
              clear hi217_0 hl217_0
              replace p217 := eq_true p217
              replace q217 := eq_true q217
              go_wp2_with (first | ((with_reducible refine gate_callee (f := 66) rfl ?_); refine goesL_ (some 14) rfl rfl Try.func66 (by kernel_rfl) rfl #[.slice A217_0 (rd_L1 l0 x8_1).length c217_0] rfl (by (try simp only [List.map_toArray, List.map_cons, List.map_nil]); first | done | rfl | (simp only [List.length_drop, List.length_take]; rfl)) ?_; (with_reducible refine (slices_Clone_Lint_int.calls _ _ (rd_L1 l0 x8_1) t218 _ ?side1 ?side2 A5.out).mono ?_); (case side1 => repeat (first | exact (Kd.C_below HR217_0.out HB.out) | (with_reducible refine Kd.C_alloc ?_ _) | (with_reducible refine Kd.C_drewN ?_ _) | (with_reducible refine Kd.C_drew ?_))); (case side2 => exact HC217_0.out); rintro e w7 ⟨v219, rfl, ho0, hb⟩; refine ⟨_, rfl, ?_⟩; have n0_ := Aside0.mk (Kd.S_elder' (by (with_reducible repeat (first | apply Kd.S_alloc | apply Kd.S_drewN | apply Kd.S_drew)); exact HO_3.out) (Kd.R_base ho0) hb); have n1_ := Aside0.mk (Kd.R_lower ho0 (below_size (by repeat (first | (with_reducible first | exact HB.out | apply below_alloc | apply pw_below_drewN | apply below_drew1) | exact HB.out)))); have n2_ := Aside0.mk (below_step (by repeat (first | (with_reducible first | exact HB.out | apply below_alloc | apply pw_below_drewN | apply below_drew1) | exact HB.out)) hb); clear HO_3; clear HB; have HO_3 := n0_; have HO220 := n1_; have HB := n2_; clear n0_ n1_ n2_; (try clear hb); (try clear hb2); (try clear hk); (try clear hi); (try clear ho0); obtain ⟨Ao9, co9, eo9⟩ := Kd.R_slice HO220.out; subst eo9) | ((with_reducible refine gate_builtin (b := .append) (xs := #[.tmp 12, .tmp 15]) rfl ?_); at_builtin; refine Kd.S_append (Kd.slice 3 (Kd.int .i64)) (w0 := w) w.heap.size rfl (.tmp 12) (.tmp 15) 22 31 (.slice none 0 0) 24 rfl Try.underlying22 info31 rfl (by decide) (by omega) u3 x3_1 t218 [.slice Ao9 t218.length co9] (fun _ => True) (fun k_ => some k_ = (.slice Ao9 t218.length co9 : Value).ownBlock) rfl rfl ?aP (fun k_ hk_ => ((Kd.R_mono (ok' := fun k_ => ((fun _ => True)) k_ ∧ some k_ ≠ (u3 : Value).ownBlock) (Kd.R_apart' (HO220.out) (Kd.S_typed HO_3.out) (by decide)) (fun k_ hk => ⟨trivial, hk.2⟩))).1 k_ hk_.symm) ?aF ?aO ?aB ?aS ?aL ?_; (case aP => exact Kd.M_row (Kd.R_mono (Kd.R_tight rfl (Kd.R_mono (ok' := fun k_ => ((fun _ => True)) k_ ∧ some k_ ≠ (u3 : Value).ownBlock) (Kd.R_apart' (HO220.out) (Kd.S_typed HO_3.out) (by decide)) (fun k_ hk => ⟨trivial, hk.2⟩))) (fun _ h_ => h_))); (case aB => exact (by repeat (first | (with_reducible first | exact HB.out | apply below_alloc | apply pw_below_drewN | apply below_drew1) | exact HB.out))); (case aF => exact (fun _ _ => trivial)); (case aO => exact (by (with_reducible repeat (first | apply Kd.S_alloc | apply Kd.S_drewN | apply Kd.S_drew)); exact Kd.S_mono HO_3.out (fun k_ hk => ⟨trivial, fun e_ => hk.2 e_⟩))); (case aS => exact (below_size (by repeat (first | (with_reducible first | exact HB.out | apply below_alloc | apply pw_below_drewN | apply below_drew1) | exact HB.out)))); (case aL => have := LMc6.out; omega); intro v222 w8 ho hb hg hat; rw [← Ny221.out] at ho; have n0_ := Aside0.mk (hb); have n1_ := Aside0.mk (ho); clear HB; clear HO_3; clear HO220; have HB := n0_; have HO223 := n1_; clear n0_ n1_; clear ho hb hg hat))
              go_roundg k1
              case measure => have := HK1.out; omega
              case rel => exact ⟨(y221), (wrap64 (x8_1 + 1)), (by first | rfl | (simp; done) | (simp [*]; done)), H', ⟨by have := HK1.out; omega⟩, ⟨by (with_reducible repeat (first | apply Kd.S_alloc | apply Kd.S_drewN | apply Kd.S_drew)); exact HO223.out⟩, ⟨by repeat (first | (with_reducible first | exact HB.out | apply below_alloc | apply pw_below_drewN | apply below_drew1) | exact HB.out)⟩⟩
            · rw [if_neg c6] at H
              exact absurd H (by simp)
          · rw [if_neg c4] at H
            exact absurd H (by simp)
        · rw [if_neg c3] at H
          exact absurd H (by simp)
      · rw [if_neg c2] at H
        have c2b0 : decide (x8_1 < (l0.length : Int)) = false := decide_eq_false c2
        clear c2
        by_cases c9 : x3_1.length < 4611686018427387904
        · rw [if_pos c9] at H
          obtain rfl := Option.some.inj H
          have LM9 := Aside0.mk c9
          clear H c9
          go_wp2_with (first | (go_at_call 88; refine (slices_SortFunc_LLint_Lint.onS _ w.heap.size (fun _ => True) u3 x3_1 HO_3.out LM9.out).mono ?_; rintro e w9 ⟨rfl, hg, hS⟩; have HB9 := Aside0.mk (pw_below_grown HB.out _ (below_size HB.out) hg (Kd.S_base HO_3.out)); have HO9 := Aside0.mk hS; clear hg hS HB HO_3) | (go_at_call 90; refine (slices_CompactFunc_LLint_Lint.onS _ w.heap.size (fun _ => True) u3 (sortL x3_1) HO9.out).mono ?_; rintro e w10 ⟨v10, rfl, hg, hS⟩; have HB10 := Aside0.mk (pw_below_grown HB9.out _ (below_size HB9.out) hg (Kd.S_base HO9.out)); have HO10 := Aside0.mk hS; clear hg hS HB9 HO9))
          go_ret
          exact ⟨_, rfl, HO10.out, HB10.out⟩
        · rw [if_neg c9] at H
          exact absurd H (by simp)
end Go.Proofs.Ytfnllojppkjgcaa.F
-- SORTED BY CONTRACTS
end
section
/- Laid by a program of this claim's own. What the Go function does, as a Lean function, and the proof that the Go code does just that; Lean checks it. -/
namespace Go.Proofs.Ytfnllojppkjgcaa.F
open Go.RowKit Go.Proofs.YtfnllojppkjgcaaW.PrintWords Go.Proofs.YtfnllojppkjgcaaW.PrintLast Go.Proofs.YtfnllojppkjgcaaW.PrintMore
attribute [local go_sem] max2_int min2_int max_two min_two max_three min_three max_four min_four   -- for this text's walks alone
set_option linter.unusedVariables false
set_option linter.unusedSimpArgs false
/-! ### impl_windowAt: function 71 -/
def impl_windowAt.l0 : Nat → List Int → Int → Int → List Int → Int → Option (List Int)
  | 0, _, _, _, _, _ => none
  | k + 1, x0, x1, x2, x7, x8 => if x8 < x1 then (if (x0.length : Int) = 0 then (none) else (if 0 ≤ (Int.tmod (wrap64 (x2 + x8)) (x0.length : Int)) then (if (Int.tmod (wrap64 (x2 + x8)) (x0.length : Int)) < (x0.length : Int) then (if x7.length < 17592186044416 then (impl_windowAt.l0 k x0 x1 x2 (x7 ++ [rd x0 (Int.tmod (wrap64 (x2 + x8)) (x0.length : Int))]) (wrap64 (x8 + 1))) else (none)) else (none)) else (none))) else (some x7)
def impl_windowAt.f (k : Nat) (l0 : List Int) (a1 : Int) (a2 : Int) : Option (List Int) := impl_windowAt.l0 k l0 a1 a2 ([] : List Int) 0
set_option maxHeartbeats 8000000 in
set_option maxRecDepth 100000 in
theorem impl_windowAt.calls (k : Nat) (A0 : Option Addr) (c0 : Nat) (l0 : List Int) (a1 : Int) (a2 : Int) (r : List Int) (w : World) (hr0 : Kd.C (Kd.int .i64) w A0 l0.length l0) (hc0 : l0.length ≤ c0) (h : impl_windowAt.f k l0 a1 a2 = some r) :
    Calls Try.prog 71 #[.slice A0 l0.length c0, .int .i64 a1, .int .i64 a2] w fun e w' => ∃ v0_ : Value, e = .returned (v0_) ∧ Kd.R (Kd.int .i64) 3 w' w.heap.size (fun _ => True) v0_ r ∧ Below w.heap.size w w' := by
  have HR0 := Aside0.mk hr0
  have HC0 := Aside0.mk hc0
  clear hr0 hc0
  have HB := Aside0.mk (Below.refl w.heap.size w)
  have H : (impl_windowAt.l0 k l0 a1 a2 ([] : List Int) 0) = some r := h
  clear h
  have H' := Aside0.mk H
  clear H
  go_enter Try.func71, Try.ntmps71
  go_wp2
  go_loopg [7, 8] k (fun kq v7 v8 w' => ∃ (x7_1 : List Int) (x8_1 : Int), v8 = .int .i64 x8_1 ∧ Aside0 (impl_windowAt.l0 kq l0 a1 a2 x7_1 x8_1 = some r) ∧ Aside0 (kq ≤ k) ∧ Aside0 (Kd.R (Kd.int .i64) 3 w' w.heap.size (fun _ => True) v7 x7_1) ∧ Aside0 (Below w.heap.size w w'))
  case atStart => exact ⟨(([] : List Int)), (0), (by first | rfl | (simp; done) | (simp [*]; done)), H', ⟨Nat.le_refl _⟩, ⟨by first | exact Kd.R_nil _ _ _ _ _ | exact Kd.N_nil _ _ _ _ _ | exact Kd.V_nil _ _ _ _ _ | exact Kd.Q_nil _ _ _ _ _ | exact Kd.S_nil _ _ _ _ _⟩, ⟨by repeat (first | (with_reducible first | exact HB.out | apply below_alloc | apply pw_below_drewN | apply below_drew1) | exact HB.out)⟩⟩
  case round =>
    clear H'
    try clear p2
    obtain ⟨x7_1, x8_1, rfl, HA, HK1, HO_7, HB⟩ := hrel
    cases gk with
    | zero => exact absurd HA.out (by simp [impl_windowAt.l0])
    | succ k1 =>
      have H := HA.out
      clear HA
      simp only [impl_windowAt.l0] at H
      by_cases c4 : x8_1 < a1
      · rw [if_pos c4] at H
        have c4b0 : decide (x8_1 < a1) = true := decide_eq_true c4
        clear c4
        by_cases c5 : (l0.length : Int) = 0
        · rw [if_pos c5] at H
          exact absurd H (by simp)
        · rw [if_neg c5] at H
          have c5b0 : ((l0.length : Int) == 0) = false := beq_eq_false_iff_ne.mpr c5
          have c5b1 : ((l0.length : Int) != 0) = true := bne_iff_ne.mpr c5
          have c5b2 : ¬ (l0 = []) := fun h_ => c5 (by rw [h_]; rfl)
          obtain ⟨ji6, hji6⟩ : ∃ j_ : Int, (Int.tmod (wrap64 (a2 + x8_1)) (l0.length : Int)) = j_ := ⟨_, rfl⟩
          replace H : (if 0 ≤ (ji6) then (if (ji6) < (l0.length : Int) then (if x7_1.length < 17592186044416 then (impl_windowAt.l0 k1 l0 a1 a2 (x7_1 ++ [rd l0 (ji6)]) (wrap64 (x8_1 + 1))) else (none)) else (none)) else (none)) = some r := by first | (rw [hji6] at H; exact H) | (simp only [hji6] at H ⊢; exact H)
          by_cases c7 : 0 ≤ (ji6)
          · rw [if_pos c7] at H
            have c7b0 : decide (0 ≤ (ji6)) = true := decide_eq_true c7
            clear c7
            by_cases c8 : (ji6) < (l0.length : Int)
            · rw [if_pos c8] at H
              have c8b0 : decide ((ji6) < (l0.length : Int)) = true := decide_eq_true c8
              clear c8
              by_cases c9 : x7_1.length < 17592186044416
              · rw [if_pos c9] at H
                have LMc9 := Aside0.mk c9
                clear c9
                obtain ⟨y491, hy491⟩ : ∃ y_ : List Int, y_ = (x7_1 ++ [rd l0 (ji6)]) := ⟨_, rfl⟩
                replace H : (impl_windowAt.l0 k1 l0 a1 a2 y491 (wrap64 (x8_1 + 1))) = some r := by first | (rw [hy491]; with_reducible exact H) | (have H2_ := (Option.bind_some _ _).symm.trans H; rw [hy491]; with_reducible exact H2_) | (have H2_ := (Option.bind_some _ _).symm.trans H; with_reducible exact H2_) | with_reducible exact H | (rw [hy491]; exact H) | exact H
                have Ny491 := Aside0.mk hy491
                clear hy491
                have H' := Aside0.mk H
                clear H
                have p490 : 0 ≤ ((ji6) : Int) := of_decide_eq_true (by first | (with_reducible assumption) | assumption)
                have q490 : (ji6) < (l0.length : Int) := of_decide_eq_true (by first | (with_reducible assumption) | assumption)
                obtain ⟨ad490, e490, hx490_0⟩ := Kd.at_int HR0.out (ji6) p490 q490
                cases e490
                replace hx490_0 := (HB.out.cell (World.block_lt_of_cell? w _ hx490_0)).trans hx490_0
                replace p490 := eq_true p490
                replace q490 := eq_true q490
                go_wp2_with (first | ((with_reducible refine gate_builtin (b := .append) (xs := #[.tmp 14, .tmp 24]) rfl ?_); at_builtin; refine Kd.R_append (Kd.int .i64) (w0 := w) w.heap.size rfl (.tmp 14) (.tmp 24) 31 3 (.int .i64 0) 8 rfl Try.underlying31 info3 rfl (by decide) (by omega) u7 x7_1 (rd l0 (ji6)) [.int .i64 (rd l0 (ji6))] (fun _ => True) (fun _ => False) rfl rfl ?aP (fun _ hk => hk.elim) ?aF ?aO ?aB ?aS ?aL ?_; (case aP => exact rfl); (case aB => exact (by repeat (first | (with_reducible first | exact HB.out | apply below_alloc | apply pw_below_drewN | apply below_drew1) | exact HB.out))); (case aF => exact (fun _ _ => trivial)); (case aO => exact (by (with_reducible repeat (first | apply Kd.R_alloc | apply Kd.R_drewN | apply Kd.R_drew)); exact HO_7.out)); (case aS => exact (below_size (by repeat (first | (with_reducible first | exact HB.out | apply below_alloc | apply pw_below_drewN | apply below_drew1) | exact HB.out)))); (case aL => have := LMc9.out; omega); intro v492 w10 ho hb hg hat; rw [← Ny491.out] at ho; have n0_ := Aside0.mk (hb); have n1_ := Aside0.mk (ho); clear HB; clear HO_7; have HB := n0_; have HO493 := n1_; clear n0_ n1_; clear ho hb hg hat))
                go_roundg k1
                case measure => have := HK1.out; omega
                case rel => exact ⟨(y491), (wrap64 (x8_1 + 1)), (by first | rfl | (simp; done) | (simp [*]; done)), H', ⟨by have := HK1.out; omega⟩, ⟨by (with_reducible repeat (first | apply Kd.R_alloc | apply Kd.R_drewN | apply Kd.R_drew)); exact HO493.out⟩, ⟨by repeat (first | (with_reducible first | exact HB.out | apply below_alloc | apply pw_below_drewN | apply below_drew1) | exact HB.out)⟩⟩
              · rw [if_neg c9] at H
                exact absurd H (by simp)
            · rw [if_neg c8] at H
              exact absurd H (by simp)
          · rw [if_neg c7] at H
            exact absurd H (by simp)
      · rw [if_neg c4] at H
        have c4b0 : decide (x8_1 < a1) = false := decide_eq_false c4
        clear c4
        obtain rfl := Option.some.inj H
        go_wp2
        go_ret
        exact ⟨_, by first | rfl | (simp [errW_none, errW_some] <;> rfl) | (simp [*, errW_none, errW_some] <;> rfl), by (with_reducible repeat (first | apply Kd.R_alloc | apply Kd.R_drewN | apply Kd.R_drew)); exact HO_7.out, by repeat (first | (with_reducible first | exact HB.out | apply below_alloc | apply pw_below_drewN | apply below_drew1) | exact HB.out)⟩
end Go.Proofs.Ytfnllojppkjgcaa.F
end
section
/- Laid by a program of this claim's own. What the Go function does, as a Lean function, and the proof that the Go code does just that; Lean checks it. -/
namespace Go.Proofs.Ytfnllojppkjgcaa.F
open Go.RowKit Go.Proofs.YtfnllojppkjgcaaW.PrintWords Go.Proofs.YtfnllojppkjgcaaW.PrintLast Go.Proofs.YtfnllojppkjgcaaW.PrintMore
attribute [local go_sem] max2_int min2_int max_two min_two max_three min_three max_four min_four   -- for this text's walks alone
set_option linter.unusedVariables false
set_option linter.unusedSimpArgs false
/-! ### slices_IndexFunc_Lint_int: function 107 -/
/-- Where the first number stands at which p holds, from place i on; -1 if there is none. -/
def idxFrom (p : Int → Bool) : List Int → Int → Int
  | [], _ => -1
  | x :: xs, i => if p x then i else idxFrom p xs (i + 1)
theorem idxFrom_drop_nil (p : Int → Bool) (l : List Int) (j : Nat) (h : ¬ j < l.length) (i : Int) : idxFrom p (l.drop j) i = -1 := by
  rw [List.drop_eq_nil_of_le (by omega)]; rfl
theorem idxFrom_drop_yes (p : Int → Bool) (l : List Int) (j : Nat) (h : j < l.length) (i : Int) (hp : p (l.getD j 0) = true) : idxFrom p (l.drop j) i = i := by
  rw [List.drop_eq_getElem_cons h]
  rw [List.getD_eq_getElem?_getD, List.getElem?_eq_getElem h] at hp
  have hp' : p l[j] = true := hp
  unfold idxFrom
  rw [if_pos hp']
theorem idxFrom_drop_no (p : Int → Bool) (l : List Int) (j : Nat) (h : j < l.length) (i : Int) (hp : p (l.getD j 0) = false) : idxFrom p (l.drop j) i = idxFrom p (l.drop (j + 1)) (i + 1) := by
  rw [List.drop_eq_getElem_cons h]
  rw [List.getD_eq_getElem?_getD, List.getElem?_eq_getElem h] at hp
  have hp' : ¬ p l[j] = true := by
    have hp2 : p l[j] = false := hp
    rw [hp2]; decide
  conv => lhs; unfold idxFrom
  rw [if_neg hp']
set_option maxHeartbeats 8000000 in
set_option maxRecDepth 100000 in
theorem slices_IndexFunc_Lint_int.pred (p : Int → Bool) (g : Nat) (lb : Array Value) (eg : ∀ args w, (callFunc g args).run Try.prog w = .ok (.enter g args) w) (A0 : Option Addr) (c0 : Nat) (l0 : List Int) (w : World) (hr0 : Kd.C (Kd.int .i64) w A0 l0.length l0) (hc0 : l0.length ≤ c0)
    (hp : ∀ (W : World) (x : Int), Below w.heap.size w W → Calls Try.prog g (#[.int .i64 x] ++ lb) W fun e w' => e = .returned (.bool (p x)) ∧ Drawn0 W w') :
    Calls Try.prog 107 #[.slice A0 l0.length c0, .func (.func g) #[] lb] w fun e w' => e = .returned (.int .i64 (idxFrom p l0 0)) ∧ Drawn0 w w' := by
  have HR0 := Aside0.mk hr0
  have HC0 := Aside0.mk hc0
  have HP := Aside0.mk hp
  have hbig := hr0.2.1
  clear hr0 hc0 hp
  obtain ⟨R, hR⟩ : ∃ R : Int, R = idxFrom p l0 0 := ⟨_, rfl⟩
  rw [← hR]
  have HR := Aside0.mk hR
  clear hR
  go_enter Try.func107, Try.ntmps107
  go_wp2
  go_loopg [5, 8] (l0.length + 1) (fun kq _ v8 w' => ∃ (j : Nat), v8 = .int .i64 j ∧ Aside0 (j + kq = l0.length + 1) ∧ Aside0 (idxFrom p (l0.drop j) j = R) ∧ Drawn0 w w')
  case atStart => exact ⟨0, rfl, ⟨by omega⟩, ⟨HR.out.symm⟩, Drawn0.refl _⟩
  case round =>
    obtain ⟨j, rfl, HK, HA, ⟨m, rfl⟩⟩ := hrel
    by_cases hlt : j < l0.length
    · have hltz : (j : Int) < (l0.length : Int) := by omega
      obtain ⟨ad, ead, hx0⟩ := Kd.at_int HR0.out (j : Int) (by omega) hltz
      cases ead
      have hcell : w.cell? (ad.add j) = some (.int .i64 (rd l0 j)) := by simpa using hx0
      clear hx0
      have hcall := fun (q : Nat) => HP.out (w.drewN q) (rd l0 j) (pw_below_drewN (Below.refl _ w) _)
      have hrd : rd l0 (j : Int) = l0.getD j 0 := by unfold rd; simp
      have HL := Aside0.mk hlt
      have HRD := Aside0.mk hrd
      clear hrd hlt
      generalize rd l0 (j : Int) = y at hcell hcall HRD
      cases hq : p y with
      | true =>
        rw [hq] at hcall
        have hfin := HA.out
        rw [idxFrom_drop_yes p l0 j HL.out j (by rw [← HRD.out]; exact hq)] at hfin
        have HF := Aside0.mk hfin
        clear hfin hq
        go_wp2_with (go_at_fn g; refine (hcall _).mono ?_; rintro e w' ⟨rfl, ⟨nd, rfl⟩⟩)
        go_ret
        exact ⟨by (have e_ := HF.out; subst e_; rfl), by repeat (first | exact Drawn0.refl _ | apply Drawn0.step)⟩
      | false =>
        rw [hq] at hcall
        have HA2 := Aside0.mk ((idxFrom_drop_no p l0 j HL.out j (by rw [← HRD.out]; exact hq)).symm.trans HA.out)
        clear HA hq
        go_wp2_with (go_at_fn g; refine (hcall _).mono ?_; rintro e w' ⟨rfl, ⟨nd, rfl⟩⟩)
        go_roundg (l0.length - j)
        case measure => have := HK.out; have := HL.out; omega
        case rel => exact ⟨j + 1, by go_num, ⟨by have := HK.out; have := HL.out; omega⟩, ⟨HA2.out⟩, by repeat (first | exact Drawn0.refl _ | apply Drawn0.step)⟩
    · have hltz : ¬ (j : Int) < (l0.length : Int) := by omega
      have hfin := HA.out
      rw [idxFrom_drop_nil p l0 j hlt j] at hfin
      have HF := Aside0.mk hfin
      clear hlt hfin
      go_wp2
      go_ret
      exact ⟨by (have e_ := HF.out; subst e_; rfl), by repeat (first | exact Drawn0.refl _ | apply Drawn0.step)⟩
end Go.Proofs.Ytfnllojppkjgcaa.F
end
