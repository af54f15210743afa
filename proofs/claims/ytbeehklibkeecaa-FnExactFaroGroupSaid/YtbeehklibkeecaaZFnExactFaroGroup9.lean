import Derived.Test.YtbeehklibkeecaaZFnExactFaroGroup5
import Derived.Test.YtbeehklibkeecaaZFnExactFaroGroup6
import Derived.Test.YtbeehklibkeecaaZFnExactFaroGroup8
section
/- Laid by a program of this claim's own. What the Go function does, as a Lean function, and the proof that the Go code does just that; Lean checks it. -/
namespace Go.Proofs.Ytbeehklibkeecaa.F
open Go.RowKit Go.Proofs.YtbeehklibkeecaaW.PrintWords Go.Proofs.YtbeehklibkeecaaW.PrintLast Go.Proofs.YtbeehklibkeecaaW.PrintMore
attribute [local go_sem] max2_int min2_int max_two min_two max_three min_three max_four min_four   -- for this text's walks alone
set_option linter.unusedVariables false
set_option linter.unusedSimpArgs false
/-! ### laws_FnExactFaroGroup: function 8 -/
def laws_FnExactFaroGroup.f (k : Nat) (a0 : Int) : Option (Bool) := (spec_FaroGroup.f k a0).bind fun t764 => ((impl_FaroGroup.f k a0).bind fun t765 => (if t765 = t764 then (some true) else (some false)))
set_option maxHeartbeats 8000000 in
set_option maxRecDepth 100000 in
theorem laws_FnExactFaroGroup.calls (k : Nat) (a0 : Int) (r : Bool) (w : World) (h : laws_FnExactFaroGroup.f k a0 = some r) :
    Calls Try.prog 8 #[.int .i64 a0] w fun e w' => e = .returned (.bool r) ∧ Below w.heap.size w w' := by
  have HB := Aside0.mk (Below.refl w.heap.size w)
  have H : ((spec_FaroGroup.f k a0).bind fun t764 => ((impl_FaroGroup.f k a0).bind fun t765 => (if t765 = t764 then (some true) else (some false)))) = some r := h
  clear h
  replace H := Option.bind_eq_some_iff.mp H
  obtain ⟨t764, A20, H⟩ := H
  replace H : ((impl_FaroGroup.f k a0).bind fun t765 => (if t765 = t764 then (some true) else (some false))) = some r := H
  have A2 := Aside0.mk A20
  clear A20
  replace H := Option.bind_eq_some_iff.mp H
  obtain ⟨t765, A30, H⟩ := H
  replace H : (if t765 = t764 then (some true) else (some false)) = some r := H
  have A3 := Aside0.mk A30
  clear A30
  by_cases c4 : t765 = t764
  · rw [if_pos c4] at H
    have c4b0 : (t765 == t764) = true := beq_iff_eq.mpr c4
    have c4b1 : (t765 != t764) = false := bne_eq_false_iff_eq.mpr c4
    clear c4
    obtain rfl := Option.some.inj H
    go_enter Try.func8, Try.ntmps8
    go_wp2_with (first | ((with_reducible refine gate_callee (f := 32) rfl ?_); refine goesL_ (some 6) rfl rfl Try.func32 (by kernel_rfl) rfl #[.int .i64 a0] rfl (by (try simp only [List.map_toArray, List.map_cons, List.map_nil]); first | done | rfl | (simp only [List.length_drop, List.length_take]; rfl)) ?_; (with_reducible refine (spec_FaroGroup.calls k a0 t764 _ A2.out).mono ?_); rintro e w5 ⟨rfl, hb⟩; refine ⟨_, rfl, ?_⟩; have n0_ := Aside0.mk (below_step (by repeat (first | (with_reducible first | exact HB.out | apply below_alloc | apply pw_below_drewN | apply below_drew1) | exact HB.out)) hb); clear HB; have HB := n0_; clear n0_; (try clear hb); (try clear hb2); (try clear hk); (try clear hi)) | ((with_reducible refine gate_callee (f := 33) rfl ?_); refine goesL_ (some 8) rfl rfl Try.func33 (by kernel_rfl) rfl #[.int .i64 a0] rfl (by (try simp only [List.map_toArray, List.map_cons, List.map_nil]); first | done | rfl | (simp only [List.length_drop, List.length_take]; rfl)) ?_; (with_reducible refine (impl_FaroGroup.calls k a0 t765 _ A3.out).mono ?_); rintro e w6 ⟨rfl, hb⟩; refine ⟨_, rfl, ?_⟩; have n0_ := Aside0.mk (below_step (by repeat (first | (with_reducible first | exact HB.out | apply below_alloc | apply pw_below_drewN | apply below_drew1) | exact HB.out)) hb); clear HB; have HB := n0_; clear n0_; (try clear hb); (try clear hb2); (try clear hk); (try clear hi)))
    go_ret
    exact ⟨by first | rfl | (simp [errW_none, errW_some] <;> rfl) | (simp [*, errW_none, errW_some] <;> rfl), by repeat (first | (with_reducible first | exact HB.out | apply below_alloc | apply pw_below_drewN | apply below_drew1) | exact HB.out)⟩
  · rw [if_neg c4] at H
    have c4b0 : (t765 == t764) = false := beq_eq_false_iff_ne.mpr c4
    have c4b1 : (t765 != t764) = true := bne_iff_ne.mpr c4
    obtain rfl := Option.some.inj H
    go_enter Try.func8, Try.ntmps8
    go_wp2_with (first | ((with_reducible refine gate_callee (f := 32) rfl ?_); refine goesL_ (some 6) rfl rfl Try.func32 (by kernel_rfl) rfl #[.int .i64 a0] rfl (by (try simp only [List.map_toArray, List.map_cons, List.map_nil]); first | done | rfl | (simp only [List.length_drop, List.length_take]; rfl)) ?_; (with_reducible refine (spec_FaroGroup.calls k a0 t764 _ A2.out).mono ?_); rintro e w7 ⟨rfl, hb⟩; refine ⟨_, rfl, ?_⟩; have n0_ := Aside0.mk (below_step (by repeat (first | (with_reducible first | exact HB.out | apply below_alloc | apply pw_below_drewN | apply below_drew1) | exact HB.out)) hb); clear HB; have HB := n0_; clear n0_; (try clear hb); (try clear hb2); (try clear hk); (try clear hi)) | ((with_reducible refine gate_callee (f := 33) rfl ?_); refine goesL_ (some 8) rfl rfl Try.func33 (by kernel_rfl) rfl #[.int .i64 a0] rfl (by (try simp only [List.map_toArray, List.map_cons, List.map_nil]); first | done | rfl | (simp only [List.length_drop, List.length_take]; rfl)) ?_; (with_reducible refine (impl_FaroGroup.calls k a0 t765 _ A3.out).mono ?_); rintro e w8 ⟨rfl, hb⟩; refine ⟨_, rfl, ?_⟩; have n0_ := Aside0.mk (below_step (by repeat (first | (with_reducible first | exact HB.out | apply below_alloc | apply pw_below_drewN | apply below_drew1) | exact HB.out)) hb); clear HB; have HB := n0_; clear n0_; (try clear hb); (try clear hb2); (try clear hk); (try clear hi)))
    go_ret
    exact ⟨by first | rfl | (simp [errW_none, errW_some] <;> rfl) | (simp [*, errW_none, errW_some] <;> rfl), by repeat (first | (with_reducible first | exact HB.out | apply below_alloc | apply pw_below_drewN | apply below_drew1) | exact HB.out)⟩
/-- THE ONE PURE STATEMENT of laws_FnExactFaroGroup: yours. -/
def laws_FnExactFaroGroup.Pure : Prop := ∀ (a0 : Int), (Lit.int .i64 a0).wf = true → ∃ k, laws_FnExactFaroGroup.f k a0 = some true
theorem laws_FnExactFaroGroup.walk (P : laws_FnExactFaroGroup.Pure) (a0 : Int) (w : World) (w0 : (Lit.int .i64 a0).wf = true) :
    Calls Try.prog 8 #[.int .i64 a0] w fun e w' => e = .returned (.bool true) ∧ Below w.heap.size w w' := by
  obtain ⟨k, h⟩ := P a0 w0
  refine (laws_FnExactFaroGroup.calls k a0 true w h).mono ?_
  rintro e w' ⟨rfl, hd⟩
  exact ⟨rfl, hd⟩
end Go.Proofs.Ytbeehklibkeecaa.F
end
section
/- Cards, and when a list is a packet: the program's and the reference's functions tell one thing. -/
namespace Go.Proofs.Ytbeehklibkeecaa.F
open Go.RowKit Go.Proofs.YtbeehklibkeecaaW.PrintWords Go.Proofs.YtbeehklibkeecaaW.PrintLast Go.Proofs.YtbeehklibkeecaaW.PrintMore
set_option linter.unusedVariables false
set_option linter.unusedSimpArgs false
theorem l01In_eq (a b c : Int) : spec_l01In.f a b c = some (decide (b ≤ a ∧ a ≤ c)) := by
  unfold spec_l01In.f
  by_cases h : b ≤ a
  · simp [h]
  · simp [h]
end Go.Proofs.Ytbeehklibkeecaa.F
end
section
/- Even numbers of cards. -/
namespace Go.Proofs.Ytbeehklibkeecaa.F
open Go.RowKit Go.Proofs.YtbeehklibkeecaaW.PrintWords Go.Proofs.YtbeehklibkeecaaW.PrintLast Go.Proofs.YtbeehklibkeecaaW.PrintMore
set_option linter.unusedVariables false
set_option linter.unusedSimpArgs false
/-- An even number of cards, from 2 to 12. -/
def pairedB (n : Int) : Bool := decide (2 ≤ n ∧ n ≤ 12 ∧ n % 2 = 0)
theorem paired_eq (n : Int) : impl_isPaired.f n = some (pairedB n) ∧ spec_l08Ok.f n = some (pairedB n) := by
  unfold spec_l08Ok.f impl_isPaired.f pairedB
  rw [l01In_eq]
  by_cases h1 : 2 ≤ n
  · by_cases h2 : n ≤ 12
    · have h4 : Int.tmod n 2 = n % 2 := Int.tmod_eq_emod_of_nonneg (by omega)
      by_cases h3 : n % 2 = 0
      · simp [h1, h2, h4, h3]
      · simp [h1, h2, h4, h3]
    · simp [h1, h2]
  · simp [h1]
end Go.Proofs.Ytbeehklibkeecaa.F
end
section
/- How many packets perfect shuffles make, for each size. -/
namespace Go.Proofs.Ytbeehklibkeecaa.F
open Go.RowKit Go.Proofs.YtbeehklibkeecaaW.PrintWords Go.Proofs.YtbeehklibkeecaaW.PrintLast Go.Proofs.YtbeehklibkeecaaW.PrintMore
set_option linter.unusedVariables false
set_option linter.unusedSimpArgs false
theorem groupI_2 : impl_FaroGroup.f 400 2 = some 2 := by decide +kernel
theorem groupI_4 : impl_FaroGroup.f 400 4 = some 8 := by decide +kernel
theorem groupI_6 : impl_FaroGroup.f 400 6 = some 24 := by decide +kernel
theorem groupI_8 : impl_FaroGroup.f 400 8 = some 24 := by decide +kernel
end Go.Proofs.Ytbeehklibkeecaa.F
end
section
/- FaroGroup: both functions count the same at every number. -/
namespace Go.Proofs.Ytbeehklibkeecaa.Pure
open Go.RowKit Go.Proofs.Ytbeehklibkeecaa.F Go.Proofs.YtbeehklibkeecaaW.PrintWords Go.Proofs.YtbeehklibkeecaaW.PrintLast Go.Proofs.YtbeehklibkeecaaW.PrintMore
set_option linter.unusedVariables false
set_option linter.unusedSimpArgs false
theorem groupS_2 : spec_FaroGroup.f 400 2 = some 2 := by decide +kernel
theorem groupS_4 : spec_FaroGroup.f 400 4 = some 8 := by decide +kernel
theorem groupS_6 : spec_FaroGroup.f 400 6 = some 24 := by decide +kernel
theorem groupS_8 : spec_FaroGroup.f 400 8 = some 24 := by decide +kernel
theorem FnExactFaroGroup : laws_FnExactFaroGroup.Pure := by
  intro n _
  refine ⟨400, ?_⟩
  unfold laws_FnExactFaroGroup.f
  by_cases c : pairedB n = true ∧ ¬ n > 8
  · have h := c.1
    unfold pairedB at h
    have h2 := of_decide_eq_true h
    have h3 : n = 2 ∨ n = 4 ∨ n = 6 ∨ n = 8 := by omega
    rcases h3 with rfl | rfl | rfl | rfl
    · rw [groupS_2, groupI_2]; rfl
    · rw [groupS_4, groupI_4]; rfl
    · rw [groupS_6, groupI_6]; rfl
    · rw [groupS_8, groupI_8]; rfl
  · have hs : spec_FaroGroup.f 400 n = some (-1) := by
      unfold spec_FaroGroup.f
      rw [(paired_eq n).2, Option.bind_some]
      by_cases h : pairedB n = true
      · rw [if_pos h, decide_eq_true (show n > 8 by have := not_and.1 c h; omega)]
        rw [spec_FaroGroup.j0, if_pos rfl]
      · rw [if_neg h, spec_FaroGroup.j0, if_pos rfl]
    have hi : impl_FaroGroup.f 400 n = some (-1) := by
      unfold impl_FaroGroup.f
      rw [(paired_eq n).1, Option.bind_some]
      by_cases h : pairedB n = true
      · rw [if_pos h, if_pos (show n > 8 by have := not_and.1 c h; omega)]
      · rw [if_neg h]
    rw [hs, hi]
    rfl
end Go.Proofs.Ytbeehklibkeecaa.Pure
end
