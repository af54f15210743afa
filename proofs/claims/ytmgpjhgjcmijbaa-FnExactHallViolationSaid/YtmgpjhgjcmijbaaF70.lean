/- Laid by a program of this claim's own. What the Go function does, as a Lean function, and the proof that the Go code does just that; Lean checks it. -/
import Derived.Test.YtmgpjhgjcmijbaaF0
import Derived.Test.YtmgpjhgjcmijbaaF1
import Derived.Test.YtmgpjhgjcmijbaaF46
import Derived.Test.YtmgpjhgjcmijbaaF69
namespace Go.Proofs.Ytmgpjhgjcmijbaa.F
open Go.RowKit Go.Proofs.YtmgpjhgjcmijbaaW.PrintWords Go.Proofs.YtmgpjhgjcmijbaaW.PrintLast Go.Proofs.YtmgpjhgjcmijbaaW.PrintMore
attribute [local go_sem] max2_int min2_int max_two min_two max_three min_three max_four min_four   -- for this text's walks alone
set_option linter.unusedVariables false
set_option linter.unusedSimpArgs false

/-! ### spec_HallViolation: function 42 -/
def spec_HallViolation.f (k : Nat) (a0 : Int) (a1 : Int) : Option (Bool) := (spec_l01In.f a1 1 4).bind fun t492 => (if t492 = true then ((spec_HandsOf.f k a0 a1).bind fun t493 => ((spec_MessagesOf.f k a0 (wrap64 (a1 - 1))).bind fun t496 => (some (decide ((t493.length : Int) > (t496.length : Int)))))) else (some false))
theorem spec_HallViolation.mono : ∀ a0 a1 k, LeO (spec_HallViolation.f k a0 a1) (spec_HallViolation.f (k + 1) a0 a1) := by
  intro a0 a1 k
  unfold spec_HallViolation.f
  repeat' first
      | (with_reducible exact spec_HandsOf.mono _ _ _)
      | (with_reducible exact spec_MessagesOf.mono _ _ _)
      | (with_reducible exact LeO.refl _)
      | (with_reducible exact LeO.none _)
      | (with_reducible refine LeO.ite ?_ ?_)
      | (with_reducible refine LeO.bind ?_ (fun _ => ?_))
      | exact spec_HandsOf.mono _ _ _
      | exact spec_MessagesOf.mono _ _ _
      | exact LeO.none _
      | refine LeO.ite ?_ ?_
      | refine LeO.bind ?_ (fun _ => ?_)
set_option maxHeartbeats 8000000 in
set_option maxRecDepth 100000 in
theorem spec_HallViolation.calls (k : Nat) (a0 : Int) (a1 : Int) (r : Bool) (w : World) (h : spec_HallViolation.f k a0 a1 = some r) :
    Calls Try.prog 42 #[.int .i64 a0, .int .i64 a1] w fun e w' => e = .returned (.bool r) ∧ Below w.heap.size w w' := by
  have HB := Aside0.mk (Below.refl w.heap.size w)
  have H : ((spec_l01In.f a1 1 4).bind fun t492 => (if t492 = true then ((spec_HandsOf.f k a0 a1).bind fun t493 => ((spec_MessagesOf.f k a0 (wrap64 (a1 - 1))).bind fun t496 => (some (decide ((t493.length : Int) > (t496.length : Int)))))) else (some false))) = some r := h
  clear h
  replace H := Option.bind_eq_some_iff.mp H
  obtain ⟨t492, A30, H⟩ := H
  replace H : (if t492 = true then ((spec_HandsOf.f k a0 a1).bind fun t493 => ((spec_MessagesOf.f k a0 (wrap64 (a1 - 1))).bind fun t496 => (some (decide ((t493.length : Int) > (t496.length : Int)))))) else (some false)) = some r := H
  have A3 := Aside0.mk A30
  clear A30
  by_cases c4 : t492 = true
  · subst c4
    have H1 : ((spec_HandsOf.f k a0 a1).bind fun t493 => ((spec_MessagesOf.f k a0 (wrap64 (a1 - 1))).bind fun t496 => (some (decide ((t493.length : Int) > (t496.length : Int)))))) = some r := by rw [if_pos rfl] at H; exact H
    clear H
    have H := H1
    clear H1
    replace H := Option.bind_eq_some_iff.mp H
    obtain ⟨t493, A50, H⟩ := H
    replace H : ((spec_MessagesOf.f k a0 (wrap64 (a1 - 1))).bind fun t496 => (some (decide ((t493.length : Int) > (t496.length : Int))))) = some r := H
    have A5 := Aside0.mk A50
    clear A50
    replace H := Option.bind_eq_some_iff.mp H
    obtain ⟨t496, A60, H⟩ := H
    replace H : (some (decide ((t493.length : Int) > (t496.length : Int)))) = some r := H
    have A6 := Aside0.mk A60
    clear A60
    obtain rfl := Option.some.inj H
    go_enter Try.func42, Try.ntmps42
    go_wp2_with (first | ((with_reducible refine gate_callee (f := 46) rfl ?_); refine goesL_ (some 6) rfl rfl Try.func46 (by kernel_rfl) rfl #[.int .i64 a1, .int .i64 1, .int .i64 4] rfl (by (try simp only [List.map_toArray, List.map_cons, List.map_nil]); first | done | rfl | (simp only [List.length_drop, List.length_take]; rfl)) ?_; (with_reducible refine (spec_l01In.calls a1 1 4 true _ A3.out).mono ?_); rintro e w' ⟨rfl, ⟨nd, rfl⟩⟩; refine ⟨_, rfl, ?_⟩) | (go_at_call 33; (with_reducible refine (spec_HandsOf.calls k a0 a1 t493 _ A5.out).mono ?_); rintro e w7 ⟨v494, rfl, ho0, hb⟩; have n0_ := Aside0.mk (Kd.N_lower (Kd.N_mono (ok' := fun k_ => True) ho0 (fun k_ hk_ => trivial)) (below_size (by repeat (first | (with_reducible first | exact HB.out | apply below_alloc | apply pw_below_drewN | apply below_drew1) | exact HB.out)))); have n1_ := Aside0.mk (below_step (by repeat (first | (with_reducible first | exact HB.out | apply below_alloc | apply pw_below_drewN | apply below_drew1) | exact HB.out)) hb); clear HB; have HO495 := n0_; have HB := n1_; clear n0_ n1_; (try clear hb); (try clear hb2); (try clear hk); (try clear hi); (try clear ho0); obtain ⟨Ao8, co8, eo8⟩ := Kd.N_slice HO495.out; subst eo8) | (go_at_call 67; (with_reducible refine (spec_MessagesOf.calls k a0 (wrap64 (a1 - 1)) t496 _ A6.out).mono ?_); rintro e w9 ⟨v497, rfl, ho0, hb⟩; have n0_ := Aside0.mk (Kd.N_elder' (by (with_reducible repeat (first | apply Kd.N_alloc | apply Kd.N_drewN | apply Kd.N_drew)); exact HO495.out) (Kd.N_base ho0) hb); have n1_ := Aside0.mk (Kd.N_lower (Kd.N_mono (ok' := fun k_ => some k_ ≠ (.slice Ao8 t493.length co8 : Value).ownBlock) ho0 (fun k_ hk_ => (Kd.fresh' (Kd.N_lt (by (with_reducible repeat (first | apply Kd.N_alloc | apply Kd.N_drewN | apply Kd.N_drew)); exact HO495.out)) k_ hk_))) (below_size (by repeat (first | (with_reducible first | exact HB.out | apply below_alloc | apply pw_below_drewN | apply below_drew1) | exact HB.out)))); have n2_ := Aside0.mk (below_step (by repeat (first | (with_reducible first | exact HB.out | apply below_alloc | apply pw_below_drewN | apply below_drew1) | exact HB.out)) hb); clear HO495; clear HB; have HO495 := n0_; have HO498 := n1_; have HB := n2_; clear n0_ n1_ n2_; (try clear hb); (try clear hb2); (try clear hk); (try clear hi); (try clear ho0); obtain ⟨Ao10, co10, eo10⟩ := Kd.N_slice HO498.out; subst eo10))
    go_ret
    exact ⟨by first | rfl | (simp [errW_none, errW_some] <;> rfl) | (simp [*, errW_none, errW_some] <;> rfl), by repeat (first | (with_reducible first | exact HB.out | apply below_alloc | apply pw_below_drewN | apply below_drew1) | exact HB.out)⟩
  · replace c4 := Bool.eq_false_iff.mpr c4
    subst c4
    have H1 : (some false) = some r := by rw [if_neg (show ¬ (false = true) by decide)] at H; exact H
    clear H
    have H := H1
    clear H1
    obtain rfl := Option.some.inj H
    go_enter Try.func42, Try.ntmps42
    go_wp2_with (first | ((with_reducible refine gate_callee (f := 46) rfl ?_); refine goesL_ (some 6) rfl rfl Try.func46 (by kernel_rfl) rfl #[.int .i64 a1, .int .i64 1, .int .i64 4] rfl (by (try simp only [List.map_toArray, List.map_cons, List.map_nil]); first | done | rfl | (simp only [List.length_drop, List.length_take]; rfl)) ?_; (with_reducible refine (spec_l01In.calls a1 1 4 false _ A3.out).mono ?_); rintro e w' ⟨rfl, ⟨nd, rfl⟩⟩; refine ⟨_, rfl, ?_⟩))
    go_ret
    exact ⟨by first | rfl | (simp [errW_none, errW_some] <;> rfl) | (simp [*, errW_none, errW_some] <;> rfl), by repeat (first | (with_reducible first | exact HB.out | apply below_alloc | apply pw_below_drewN | apply below_drew1) | exact HB.out)⟩

end Go.Proofs.Ytmgpjhgjcmijbaa.F
