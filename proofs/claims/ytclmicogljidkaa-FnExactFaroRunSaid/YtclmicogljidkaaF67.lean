/- Laid by a program of this claim's own. What the Go function does, as a Lean function, and the proof that the Go code does just that; Lean checks it. -/
import Derived.Test.YtclmicogljidkaaF0
import Derived.Test.YtclmicogljidkaaF47
import Derived.Test.YtclmicogljidkaaF66
namespace Go.Proofs.Ytclmicogljidkaa.F
open Go.RowKit Go.Proofs.YtclmicogljidkaaW.PrintWords Go.Proofs.YtclmicogljidkaaW.PrintLast Go.Proofs.YtclmicogljidkaaW.PrintMore
attribute [local go_sem] max2_int min2_int max_two min_two max_three min_three max_four min_four   -- for this text's walks alone
set_option linter.unusedVariables false
set_option linter.unusedSimpArgs false

/-! ### slices_ContainsFunc_Lint_int__impl_areColors_1: function 68 -/
theorem impl_areColors_1.some_ (x : Int) : ∃ b, impl_areColors_1.f x = some b := by
  unfold impl_areColors_1.f
  repeat' split
  all_goals exact ⟨_, rfl⟩
def slices_ContainsFunc_Lint_int__impl_areColors_1.f (l0 : List Int) : Option (Bool) := some (l0.any fun x => impl_areColors_1.f x == some true)
theorem slices_ContainsFunc_Lint_int__impl_areColors_1.calls (A0 : Option Addr) (c0 : Nat) (l0 : List Int) (r : Bool) (w : World) (hr0 : Kd.C (Kd.int .i64) w A0 l0.length l0) (hc0 : l0.length ≤ c0) (h : slices_ContainsFunc_Lint_int__impl_areColors_1.f l0 = some r) :
    Calls Try.prog 68 #[.slice A0 l0.length c0, .func (.func 108) #[] #[]] w fun e w' => e = .returned (.bool r) ∧ Drawn0 w w' := by
  obtain rfl := Option.some.inj h
  refine slices_ContainsFunc_Lint_int.pred (fun x => impl_areColors_1.f x == some true) 108 #[] (enters_of Try.func108 (by kernel_rfl) rfl) A0 c0 l0 w hr0 hc0 (fun W x _ => ?_)
  obtain ⟨b, hb⟩ := impl_areColors_1.some_ x
  have e : (impl_areColors_1.f x == some true) = b := by rw [hb]; cases b <;> rfl
  show Calls _ _ _ W fun e w' => e = .returned (.bool (impl_areColors_1.f x == some true)) ∧ Drawn0 W w'
  rw [e]
  exact impl_areColors_1.calls x b W hb
/-! ### impl_areColors: function 87 -/
def impl_areColors.f (l0 : List Int) (a1 : Int) : Option (Bool) := if (l0.length : Int) ≤ a1 then ((slices_ContainsFunc_Lint_int__impl_areColors_1.f l0).bind fun t612 => (some (!t612))) else (some false)
set_option maxHeartbeats 8000000 in
set_option maxRecDepth 100000 in
theorem impl_areColors.calls (A0 : Option Addr) (c0 : Nat) (l0 : List Int) (a1 : Int) (r : Bool) (w : World) (hr0 : Kd.C (Kd.int .i64) w A0 l0.length l0) (hc0 : l0.length ≤ c0) (h : impl_areColors.f l0 a1 = some r) :
    Calls Try.prog 87 #[.slice A0 l0.length c0, .int .i64 a1] w fun e w' => e = .returned (.bool r) ∧ Drawn0 w w' := by
  have HR0 := Aside0.mk hr0
  have HC0 := Aside0.mk hc0
  clear hr0 hc0
  have H : (if (l0.length : Int) ≤ a1 then ((slices_ContainsFunc_Lint_int__impl_areColors_1.f l0).bind fun t612 => (some (!t612))) else (some false)) = some r := h
  clear h
  by_cases c3 : (l0.length : Int) ≤ a1
  · rw [if_pos c3] at H
    have c3b0 : decide ((l0.length : Int) ≤ a1) = true := decide_eq_true c3
    clear c3
    replace H := Option.bind_eq_some_iff.mp H
    obtain ⟨t612, A40, H⟩ := H
    replace H : (some (!t612)) = some r := H
    have A4 := Aside0.mk A40
    clear A40
    obtain rfl := Option.some.inj H
    go_enter Try.func87, Try.ntmps87
    go_wp2_with (first | (go_at_call 68; (with_reducible refine (slices_ContainsFunc_Lint_int__impl_areColors_1.calls _ _ l0 t612 _ ?side1 ?side2 A4.out).mono ?_); (case side1 => repeat (first | exact HR0.out | (with_reducible refine Kd.C_alloc ?_ _) | (with_reducible refine Kd.C_drewN ?_ _) | (with_reducible refine Kd.C_drew ?_))); (case side2 => exact HC0.out); rintro e w' ⟨rfl, ⟨nd, rfl⟩⟩))
    go_ret
    exact ⟨by first | rfl | (simp; done) | (simp [*]; done), by repeat (first | exact Drawn0.refl _ | apply Drawn0.step)⟩
  · rw [if_neg c3] at H
    have c3b0 : decide ((l0.length : Int) ≤ a1) = false := decide_eq_false c3
    clear c3
    obtain rfl := Option.some.inj H
    go_enter Try.func87, Try.ntmps87
    go_wp2
    go_ret
    exact ⟨by first | rfl | (simp; done) | (simp [*]; done), by repeat (first | exact Drawn0.refl _ | apply Drawn0.step)⟩

end Go.Proofs.Ytclmicogljidkaa.F
