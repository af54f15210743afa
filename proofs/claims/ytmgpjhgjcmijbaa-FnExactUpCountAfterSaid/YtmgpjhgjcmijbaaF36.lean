/- Laid by a program of this claim's own. What the Go function does, as a Lean function, and the proof that the Go code does just that; Lean checks it. -/
import Derived.Test.YtmgpjhgjcmijbaaF0
import Derived.Test.YtmgpjhgjcmijbaaF35
namespace Go.Proofs.Ytmgpjhgjcmijbaa.F
open Go.RowKit Go.Proofs.YtmgpjhgjcmijbaaW.PrintWords Go.Proofs.YtmgpjhgjcmijbaaW.PrintLast Go.Proofs.YtmgpjhgjcmijbaaW.PrintMore
attribute [local go_sem] max2_int min2_int max_two min_two max_three min_three max_four min_four   -- for this text's walks alone
set_option linter.unusedVariables false
set_option linter.unusedSimpArgs false

/-! ### impl_IsUp: function 56 -/
def impl_IsUp.f (a0 : Int) : Option (Bool) := if a0 < 0 then ((impl_CardOf.f a0).bind fun t212 => (some (decide (t212 ≥ 0)))) else (some false)
set_option maxHeartbeats 8000000 in
set_option maxRecDepth 100000 in
theorem impl_IsUp.calls (a0 : Int) (r : Bool) (w : World) (h : impl_IsUp.f a0 = some r) :
    Calls Try.prog 56 #[.int .i64 a0] w fun e w' => e = .returned (.bool r) ∧ Drawn0 w w' := by
  have H : (if a0 < 0 then ((impl_CardOf.f a0).bind fun t212 => (some (decide (t212 ≥ 0)))) else (some false)) = some r := h
  clear h
  by_cases c2 : a0 < 0
  · rw [if_pos c2] at H
    have c2b0 : decide (a0 < 0) = true := decide_eq_true c2
    clear c2
    replace H := Option.bind_eq_some_iff.mp H
    obtain ⟨t212, A30, H⟩ := H
    replace H : (some (decide (t212 ≥ 0))) = some r := H
    have A3 := Aside0.mk A30
    clear A30
    obtain rfl := Option.some.inj H
    go_enter Try.func56, Try.ntmps56
    go_wp2_with (first | (go_at_call 55; (with_reducible refine (impl_CardOf.calls a0 t212 _ A3.out).mono ?_); rintro e w' ⟨rfl, ⟨nd, rfl⟩⟩))
    go_ret
    exact ⟨by first | rfl | (simp; done) | (simp [*]; done), by repeat (first | exact Drawn0.refl _ | apply Drawn0.step)⟩
  · rw [if_neg c2] at H
    have c2b0 : decide (a0 < 0) = false := decide_eq_false c2
    clear c2
    obtain rfl := Option.some.inj H
    go_enter Try.func56, Try.ntmps56
    go_wp2
    go_ret
    exact ⟨by first | rfl | (simp; done) | (simp [*]; done), by repeat (first | exact Drawn0.refl _ | apply Drawn0.step)⟩

end Go.Proofs.Ytmgpjhgjcmijbaa.F
