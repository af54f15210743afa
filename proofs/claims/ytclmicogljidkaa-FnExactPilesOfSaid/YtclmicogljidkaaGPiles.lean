/- The piles of a packet that is dealt: every size and every number of piles by itself. -/
import Derived.Test.YtclmicogljidkaaF1
import Derived.Test.YtclmicogljidkaaF24
import Derived.Test.YtclmicogljidkaaF55
import Derived.Test.YtclmicogljidkaaF56
import Derived.Test.YtclmicogljidkaaF60
import Derived.Test.YtclmicogljidkaaF61
import Derived.Test.YtclmicogljidkaaGCards
import Derived.Test.YtclmicogljidkaaGLawsSS
import Derived.Test.YtclmicogljidkaaM
namespace Go.Proofs.Ytclmicogljidkaa.F
open Go.RowKit Go.Proofs.YtclmicogljidkaaW.PrintWords Go.Proofs.YtclmicogljidkaaW.PrintLast Go.Proofs.YtclmicogljidkaaW.PrintMore
set_option linter.unusedVariables false
set_option linter.unusedSimpArgs false
def dealtR (x : List Int) (p : Int) (r : List (List Int)) : Prop := (∀ k, spec_l14Piles.f (k + 60) x p = some r) ∧ (∀ k, impl_PilesOf.j0 (k + 60) x p false = some r) ∧ r.length ≤ 12 ∧ (∀ y ∈ r, y.length ≤ 12) ∧ total r ≤ 12
theorem deal_2_2 (x0 x1 : Int) : dealtR [x0, x1] 2 [[x0], [x1]] := by
  refine ⟨fun k => by kernel_rfl, fun k => by kernel_rfl, by simp, ?_, by simp [total]⟩
  intro y hy
  simp only [List.mem_cons, List.not_mem_nil, or_false] at hy
  rcases hy with rfl | rfl <;> simp
theorem deal_4_2 (x0 x1 x2 x3 : Int) : dealtR [x0, x1, x2, x3] 2 [[x2, x0], [x3, x1]] := by
  refine ⟨fun k => by kernel_rfl, fun k => by kernel_rfl, by simp, ?_, by simp [total]⟩
  intro y hy
  simp only [List.mem_cons, List.not_mem_nil, or_false] at hy
  rcases hy with rfl | rfl <;> simp
theorem deal_6_2 (x0 x1 x2 x3 x4 x5 : Int) : dealtR [x0, x1, x2, x3, x4, x5] 2 [[x4, x2, x0], [x5, x3, x1]] := by
  refine ⟨fun k => by kernel_rfl, fun k => by kernel_rfl, by simp, ?_, by simp [total]⟩
  intro y hy
  simp only [List.mem_cons, List.not_mem_nil, or_false] at hy
  rcases hy with rfl | rfl <;> simp
theorem deal_8_2 (x0 x1 x2 x3 x4 x5 x6 x7 : Int) : dealtR [x0, x1, x2, x3, x4, x5, x6, x7] 2 [[x6, x4, x2, x0], [x7, x5, x3, x1]] := by
  refine ⟨fun k => by kernel_rfl, fun k => by kernel_rfl, by simp, ?_, by simp [total]⟩
  intro y hy
  simp only [List.mem_cons, List.not_mem_nil, or_false] at hy
  rcases hy with rfl | rfl <;> simp
theorem deal_10_2 (x0 x1 x2 x3 x4 x5 x6 x7 x8 x9 : Int) : dealtR [x0, x1, x2, x3, x4, x5, x6, x7, x8, x9] 2 [[x8, x6, x4, x2, x0], [x9, x7, x5, x3, x1]] := by
  refine ⟨fun k => by kernel_rfl, fun k => by kernel_rfl, by simp, ?_, by simp [total]⟩
  intro y hy
  simp only [List.mem_cons, List.not_mem_nil, or_false] at hy
  rcases hy with rfl | rfl <;> simp
theorem deal_12_2 (x0 x1 x2 x3 x4 x5 x6 x7 x8 x9 x10 x11 : Int) : dealtR [x0, x1, x2, x3, x4, x5, x6, x7, x8, x9, x10, x11] 2 [[x10, x8, x6, x4, x2, x0], [x11, x9, x7, x5, x3, x1]] := by
  refine ⟨fun k => by kernel_rfl, fun k => by kernel_rfl, by simp, ?_, by simp [total]⟩
  intro y hy
  simp only [List.mem_cons, List.not_mem_nil, or_false] at hy
  rcases hy with rfl | rfl <;> simp
theorem deal_3_3 (x0 x1 x2 : Int) : dealtR [x0, x1, x2] 3 [[x0], [x1], [x2]] := by
  refine ⟨fun k => by kernel_rfl, fun k => by kernel_rfl, by simp, ?_, by simp [total]⟩
  intro y hy
  simp only [List.mem_cons, List.not_mem_nil, or_false] at hy
  rcases hy with rfl | rfl | rfl <;> simp
theorem deal_6_3 (x0 x1 x2 x3 x4 x5 : Int) : dealtR [x0, x1, x2, x3, x4, x5] 3 [[x3, x0], [x4, x1], [x5, x2]] := by
  refine ⟨fun k => by kernel_rfl, fun k => by kernel_rfl, by simp, ?_, by simp [total]⟩
  intro y hy
  simp only [List.mem_cons, List.not_mem_nil, or_false] at hy
  rcases hy with rfl | rfl | rfl <;> simp
theorem deal_9_3 (x0 x1 x2 x3 x4 x5 x6 x7 x8 : Int) : dealtR [x0, x1, x2, x3, x4, x5, x6, x7, x8] 3 [[x6, x3, x0], [x7, x4, x1], [x8, x5, x2]] := by
  refine ⟨fun k => by kernel_rfl, fun k => by kernel_rfl, by simp, ?_, by simp [total]⟩
  intro y hy
  simp only [List.mem_cons, List.not_mem_nil, or_false] at hy
  rcases hy with rfl | rfl | rfl <;> simp
theorem deal_12_3 (x0 x1 x2 x3 x4 x5 x6 x7 x8 x9 x10 x11 : Int) : dealtR [x0, x1, x2, x3, x4, x5, x6, x7, x8, x9, x10, x11] 3 [[x9, x6, x3, x0], [x10, x7, x4, x1], [x11, x8, x5, x2]] := by
  refine ⟨fun k => by kernel_rfl, fun k => by kernel_rfl, by simp, ?_, by simp [total]⟩
  intro y hy
  simp only [List.mem_cons, List.not_mem_nil, or_false] at hy
  rcases hy with rfl | rfl | rfl <;> simp
theorem deal_4_4 (x0 x1 x2 x3 : Int) : dealtR [x0, x1, x2, x3] 4 [[x0], [x1], [x2], [x3]] := by
  refine ⟨fun k => by kernel_rfl, fun k => by kernel_rfl, by simp, ?_, by simp [total]⟩
  intro y hy
  simp only [List.mem_cons, List.not_mem_nil, or_false] at hy
  rcases hy with rfl | rfl | rfl | rfl <;> simp
theorem deal_8_4 (x0 x1 x2 x3 x4 x5 x6 x7 : Int) : dealtR [x0, x1, x2, x3, x4, x5, x6, x7] 4 [[x4, x0], [x5, x1], [x6, x2], [x7, x3]] := by
  refine ⟨fun k => by kernel_rfl, fun k => by kernel_rfl, by simp, ?_, by simp [total]⟩
  intro y hy
  simp only [List.mem_cons, List.not_mem_nil, or_false] at hy
  rcases hy with rfl | rfl | rfl | rfl <;> simp
theorem deal_12_4 (x0 x1 x2 x3 x4 x5 x6 x7 x8 x9 x10 x11 : Int) : dealtR [x0, x1, x2, x3, x4, x5, x6, x7, x8, x9, x10, x11] 4 [[x8, x4, x0], [x9, x5, x1], [x10, x6, x2], [x11, x7, x3]] := by
  refine ⟨fun k => by kernel_rfl, fun k => by kernel_rfl, by simp, ?_, by simp [total]⟩
  intro y hy
  simp only [List.mem_cons, List.not_mem_nil, or_false] at hy
  rcases hy with rfl | rfl | rfl | rfl <;> simp
theorem len_2 (l : List Int) (h : l.length = 2) : ∃ x0 x1, l = [x0, x1] := by
  match l, h with
  | [x0, x1], _ => exact ⟨x0, x1, rfl⟩
theorem len_3 (l : List Int) (h : l.length = 3) : ∃ x0 x1 x2, l = [x0, x1, x2] := by
  match l, h with
  | [x0, x1, x2], _ => exact ⟨x0, x1, x2, rfl⟩
theorem len_4 (l : List Int) (h : l.length = 4) : ∃ x0 x1 x2 x3, l = [x0, x1, x2, x3] := by
  match l, h with
  | [x0, x1, x2, x3], _ => exact ⟨x0, x1, x2, x3, rfl⟩
theorem len_6 (l : List Int) (h : l.length = 6) : ∃ x0 x1 x2 x3 x4 x5, l = [x0, x1, x2, x3, x4, x5] := by
  match l, h with
  | [x0, x1, x2, x3, x4, x5], _ => exact ⟨x0, x1, x2, x3, x4, x5, rfl⟩
theorem len_8 (l : List Int) (h : l.length = 8) : ∃ x0 x1 x2 x3 x4 x5 x6 x7, l = [x0, x1, x2, x3, x4, x5, x6, x7] := by
  match l, h with
  | [x0, x1, x2, x3, x4, x5, x6, x7], _ => exact ⟨x0, x1, x2, x3, x4, x5, x6, x7, rfl⟩
theorem len_9 (l : List Int) (h : l.length = 9) : ∃ x0 x1 x2 x3 x4 x5 x6 x7 x8, l = [x0, x1, x2, x3, x4, x5, x6, x7, x8] := by
  match l, h with
  | [x0, x1, x2, x3, x4, x5, x6, x7, x8], _ => exact ⟨x0, x1, x2, x3, x4, x5, x6, x7, x8, rfl⟩
theorem len_10 (l : List Int) (h : l.length = 10) : ∃ x0 x1 x2 x3 x4 x5 x6 x7 x8 x9, l = [x0, x1, x2, x3, x4, x5, x6, x7, x8, x9] := by
  match l, h with
  | [x0, x1, x2, x3, x4, x5, x6, x7, x8, x9], _ => exact ⟨x0, x1, x2, x3, x4, x5, x6, x7, x8, x9, rfl⟩
theorem len_12 (l : List Int) (h : l.length = 12) : ∃ x0 x1 x2 x3 x4 x5 x6 x7 x8 x9 x10 x11, l = [x0, x1, x2, x3, x4, x5, x6, x7, x8, x9, x10, x11] := by
  match l, h with
  | [x0, x1, x2, x3, x4, x5, x6, x7, x8, x9, x10, x11], _ => exact ⟨x0, x1, x2, x3, x4, x5, x6, x7, x8, x9, x10, x11, rfl⟩
def pilesB (n p : Int) : Bool := decide (2 ≤ p ∧ p ≤ 4 ∧ p ≤ n ∧ n ≤ 12) && (n.tmod p == 0)
theorem spec_PilesOk_eq (n p : Int) : spec_PilesOk.f n p = some (pilesB n p) := by
  unfold spec_PilesOk.f pilesB
  simp only [l01In_eq, Option.bind_some, decide_eq_true_eq]
  by_cases h1 : 2 ≤ p ∧ p ≤ 4
  · have h3 : ¬ p = 0 := by omega
    by_cases h2 : p ≤ n ∧ n ≤ 12
    · have h4 : 2 ≤ p ∧ p ≤ 4 ∧ p ≤ n ∧ n ≤ 12 := by omega
      simp [h1, h2, h3]
    · have h4 : ¬ (2 ≤ p ∧ p ≤ 4 ∧ p ≤ n ∧ n ≤ 12) := by omega
      simp [h1, h2, h4, and_self, if_true, if_false, decide_false, Bool.false_and]
  · have h4 : ¬ (2 ≤ p ∧ p ≤ 4 ∧ p ≤ n ∧ n ≤ 12) := by omega
    simp only [h1, h4, if_false, decide_false, Bool.false_and]
theorem impl_PilesOk_eq (n p : Int) : impl_PilesOk.f n p = some (pilesB n p) := by
  unfold impl_PilesOk.f pilesB
  by_cases h1 : p ≥ 2
  · have h3 : ¬ p = 0 := by omega
    by_cases h2 : p ≤ 4
    · by_cases h4 : n ≥ p
      · by_cases h5 : n ≤ 12
        · have h6 : 2 ≤ p ∧ p ≤ 4 ∧ p ≤ n ∧ n ≤ 12 := by omega
          simp [h1, h2, h3, h4, h5, h6, if_true, if_false, and_self, decide_true, Bool.true_and]
        · have h6 : ¬ (2 ≤ p ∧ p ≤ 4 ∧ p ≤ n ∧ n ≤ 12) := by omega
          simp [h1, h2, h4, h5, h6, if_true, if_false, decide_false, Bool.false_and]
      · have h6 : ¬ (2 ≤ p ∧ p ≤ 4 ∧ p ≤ n ∧ n ≤ 12) := by omega
        simp [h1, h2, h4, h6, if_true, if_false, decide_false, Bool.false_and]
    · have h6 : ¬ (2 ≤ p ∧ p ≤ 4 ∧ p ≤ n ∧ n ≤ 12) := by omega
      simp [h1, h2, h6, if_true, if_false, decide_false, Bool.false_and]
  · have h6 : ¬ (2 ≤ p ∧ p ≤ 4 ∧ p ≤ n ∧ n ≤ 12) := by omega
    simp [h1, h6, if_false, decide_false, Bool.false_and]
theorem dealt_ex (l : List Int) (p : Int) (h : pilesB (l.length : Int) p = true) : ∃ r, dealtR l p r := by
  unfold pilesB at h
  simp only [Bool.and_eq_true, decide_eq_true_eq, beq_iff_eq] at h
  obtain ⟨⟨h1, h2, h3, h4⟩, h5⟩ := h
  obtain ⟨q, rfl⟩ := Int.eq_ofNat_of_zero_le (show 0 ≤ p by omega)
  rw [← Int.ofNat_tmod] at h5
  have hq : q = 2 ∨ q = 3 ∨ q = 4 := by omega
  have h6 : l.length % q = 0 := by exact_mod_cast h5
  rcases hq with rfl | rfl | rfl
  · have hn : l.length = 2 ∨ l.length = 4 ∨ l.length = 6 ∨ l.length = 8 ∨ l.length = 10 ∨ l.length = 12 := by omega
    rcases hn with hn | hn | hn | hn | hn | hn
    · obtain ⟨x0, x1, rfl⟩ := len_2 l hn
      exact ⟨_, deal_2_2 x0 x1⟩
    · obtain ⟨x0, x1, x2, x3, rfl⟩ := len_4 l hn
      exact ⟨_, deal_4_2 x0 x1 x2 x3⟩
    · obtain ⟨x0, x1, x2, x3, x4, x5, rfl⟩ := len_6 l hn
      exact ⟨_, deal_6_2 x0 x1 x2 x3 x4 x5⟩
    · obtain ⟨x0, x1, x2, x3, x4, x5, x6, x7, rfl⟩ := len_8 l hn
      exact ⟨_, deal_8_2 x0 x1 x2 x3 x4 x5 x6 x7⟩
    · obtain ⟨x0, x1, x2, x3, x4, x5, x6, x7, x8, x9, rfl⟩ := len_10 l hn
      exact ⟨_, deal_10_2 x0 x1 x2 x3 x4 x5 x6 x7 x8 x9⟩
    · obtain ⟨x0, x1, x2, x3, x4, x5, x6, x7, x8, x9, x10, x11, rfl⟩ := len_12 l hn
      exact ⟨_, deal_12_2 x0 x1 x2 x3 x4 x5 x6 x7 x8 x9 x10 x11⟩
  · have hn : l.length = 3 ∨ l.length = 6 ∨ l.length = 9 ∨ l.length = 12 := by omega
    rcases hn with hn | hn | hn | hn
    · obtain ⟨x0, x1, x2, rfl⟩ := len_3 l hn
      exact ⟨_, deal_3_3 x0 x1 x2⟩
    · obtain ⟨x0, x1, x2, x3, x4, x5, rfl⟩ := len_6 l hn
      exact ⟨_, deal_6_3 x0 x1 x2 x3 x4 x5⟩
    · obtain ⟨x0, x1, x2, x3, x4, x5, x6, x7, x8, rfl⟩ := len_9 l hn
      exact ⟨_, deal_9_3 x0 x1 x2 x3 x4 x5 x6 x7 x8⟩
    · obtain ⟨x0, x1, x2, x3, x4, x5, x6, x7, x8, x9, x10, x11, rfl⟩ := len_12 l hn
      exact ⟨_, deal_12_3 x0 x1 x2 x3 x4 x5 x6 x7 x8 x9 x10 x11⟩
  · have hn : l.length = 4 ∨ l.length = 8 ∨ l.length = 12 := by omega
    rcases hn with hn | hn | hn
    · obtain ⟨x0, x1, x2, x3, rfl⟩ := len_4 l hn
      exact ⟨_, deal_4_4 x0 x1 x2 x3⟩
    · obtain ⟨x0, x1, x2, x3, x4, x5, x6, x7, rfl⟩ := len_8 l hn
      exact ⟨_, deal_8_4 x0 x1 x2 x3 x4 x5 x6 x7⟩
    · obtain ⟨x0, x1, x2, x3, x4, x5, x6, x7, x8, x9, x10, x11, rfl⟩ := len_12 l hn
      exact ⟨_, deal_12_4 x0 x1 x2 x3 x4 x5 x6 x7 x8 x9 x10 x11⟩
end Go.Proofs.Ytclmicogljidkaa.F
