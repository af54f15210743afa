import Derived.Test.YtlobampnikhmnaaZFnPiles4
import Derived.Test.YtlobampnikhmnaaZFnPiles5
import Derived.Test.YtlobampnikhmnaaZFnPiles6
import Derived.Test.YtlobampnikhmnaaZFnPiles7
import Derived.Test.YtlobampnikhmnaaZFnPiles8
section
/- Laid by a program of this claim's own. What the Go function does, as a Lean function, and the proof that the Go code does just that; Lean checks it. -/
namespace Go.Proofs.Ytlobampnikhmnaa.F
open Go.RowKit Go.Proofs.YtlobampnikhmnaaW.PrintWords Go.Proofs.YtlobampnikhmnaaW.PrintLast Go.Proofs.YtlobampnikhmnaaW.PrintMore
attribute [local go_sem] max2_int min2_int max_two min_two max_three min_three max_four min_four   -- for this text's walks alone
set_option linter.unusedVariables false
set_option linter.unusedSimpArgs false
/-! ### spec_l01In: function 75 -/
def spec_l01In.f (a0 : Int) (a1 : Int) (a2 : Int) : Option (Bool) := if a0 ≥ a1 then (some (decide (a0 ≤ a2))) else (some false)
end Go.Proofs.Ytlobampnikhmnaa.F
end
section
/- Laid by a program of this claim's own. What the Go function does, as a Lean function, and the proof that the Go code does just that; Lean checks it. -/
namespace Go.Proofs.Ytlobampnikhmnaa.F
open Go.RowKit Go.Proofs.YtlobampnikhmnaaW.PrintWords Go.Proofs.YtlobampnikhmnaaW.PrintLast Go.Proofs.YtlobampnikhmnaaW.PrintMore
attribute [local go_sem] max2_int min2_int max_two min_two max_three min_three max_four min_four   -- for this text's walks alone
set_option linter.unusedVariables false
set_option linter.unusedSimpArgs false
/-! ### spec_l14Piles: function 170 -/
mutual
def spec_l14Piles.l0 : Nat → List Int → Int → List (List Int) → Int → Option ((List (List Int)))
  | 0, _, _, _, _ => none
  | k + 1, x0, x1, x5, x6 => if x6 < x1 then (spec_l14Piles.l1 k x0 x1 x5 x6 (([] : List Int)) x6) else (some x5)
def spec_l14Piles.l1 : Nat → List Int → Int → List (List Int) → Int → List Int → Int → Option ((List (List Int)))
  | 0, _, _, _, _, _, _ => none
  | k + 1, x0, x1, x5, x6, x7, x8 => if x8 < (x0.length : Int) then (if 0 ≤ x8 then ((some (([rd x0 x8] : List Int) : List Int)).bind fun y133 => (if y133.length + x7.length < 17592186044416 then (spec_l14Piles.l1 k x0 x1 x5 x6 (y133 ++ x7) (wrap64 (x8 + x1))) else (none))) else (none)) else (if x5.length < 5864062014805 then (spec_l14Piles.l0 k x0 x1 (x5 ++ [x7]) (wrap64 (x6 + 1))) else (none))
end
def spec_l14Piles.f (k : Nat) (l0 : List Int) (a1 : Int) : Option ((List (List Int))) := spec_l14Piles.l0 k l0 a1 (([] : List (List Int))) 0
end Go.Proofs.Ytlobampnikhmnaa.F
end
section
/- Cards, and when a list is a packet: the program's and the reference's functions tell one thing. -/
namespace Go.Proofs.Ytlobampnikhmnaa.F
open Go.RowKit Go.Proofs.YtlobampnikhmnaaW.PrintWords Go.Proofs.YtlobampnikhmnaaW.PrintLast Go.Proofs.YtlobampnikhmnaaW.PrintMore
set_option linter.unusedVariables false
set_option linter.unusedSimpArgs false
def cardOf (x : Int) : Int := if 0 ≤ x ∧ x ≤ 11 then x else if -12 ≤ x ∧ x ≤ -1 then -1 - x else -1
theorem cardOf_lt (x : Int) : cardOf x < 12 := by
  unfold cardOf
  repeat' split
  all_goals omega
theorem impl_CardOf_eq (x : Int) (h0 : -9223372036854775808 ≤ x) : impl_CardOf.f x = some (cardOf x) := by
  unfold impl_CardOf.f cardOf
  by_cases h : x < 0
  · have e : wrap64 (-1 - x) = -1 - x := w64_id (by omega) (by omega)
    simp only [if_pos h, e]
    by_cases k : -1 - x ≥ 12
    · rw [if_pos k, if_neg (by omega), if_neg (by omega)]
    · rw [if_neg k, if_neg (by omega), if_pos (by omega)]
  · simp only [if_neg h]
    by_cases k : x ≥ 12
    · rw [if_pos k, if_neg (by omega), if_neg (by omega)]
    · rw [if_neg k, if_pos (by omega)]
/-- Is a list a packet: the cards met so far are told by twelve bools. -/
def packetM : List Bool → List Int → Bool
  | _, [] => true
  | met, x :: xs => if cardOf x < 0 then false else if met.getD (cardOf x).toNat false = true then false else packetM (met.set (cardOf x).toNat true) xs
def packetB (l : List Int) : Bool := packetM (List.replicate 12 false) l
theorem impl_PacketOk_at (rest : List Int) : ∀ (pre : List Int) (met : List Bool), (pre ++ rest).length ≤ 4611686018427387904 → (∀ x ∈ rest, -9223372036854775808 ≤ x) →
    Ev (fun k => impl_PacketOk.l0 k (pre ++ rest) met (pre.length : Int)) (packetM met rest) := by
  induction rest with
  | nil =>
    intro pre met hb hw
    exact Ev.step (f := fun _ => some true) (fun k => by rw [impl_PacketOk.l0, if_neg (mid_nlt _)]) (Ev.now _)
  | cons x rest ih =>
    intro pre met hb hw
    have hx := hw x (by simp)
    unfold packetM
    by_cases c : cardOf x < 0
    · rw [if_pos c]
      exact Ev.step (f := fun _ => some false) (fun k => by rw [impl_PacketOk.l0, if_pos (mid_lt _ _ _), if_pos (nn _), mid_rd, impl_CardOf_eq x hx]; simp only [Option.bind_some]; rw [if_pos c]) (Ev.now _)
    · rw [if_neg c]
      by_cases m : met.getD (cardOf x).toNat false = true
      · rw [if_pos m]
        exact Ev.step (f := fun _ => some false) (fun k => by rw [impl_PacketOk.l0, if_pos (mid_lt _ _ _), if_pos (nn _), mid_rd, impl_CardOf_eq x hx]; simp only [Option.bind_some]; rw [if_neg c, if_pos (cardOf_lt x), if_pos m]) (Ev.now _)
      · rw [if_neg m]
        have h := ih (pre ++ [x]) (met.set (cardOf x).toNat true) (by simpa using hb) (fun y hy => hw y (by simp [hy]))
        rw [← mid_cons] at h
        exact Ev.step (fun k => by rw [impl_PacketOk.l0, if_pos (mid_lt _ _ _), if_pos (nn _), mid_rd, impl_CardOf_eq x hx]; simp only [Option.bind_some]; rw [if_neg c, if_pos (cardOf_lt x), if_neg m, mid_succ pre x (by simp at hb; omega)]) h
theorem impl_PacketOk_ev (l : List Int) (hb : l.length ≤ 4611686018427387904) (hw : ∀ x ∈ l, -9223372036854775808 ≤ x) : Ev (fun k => impl_PacketOk.f k l) (packetB l) := impl_PacketOk_at l [] _ hb hw
theorem set_getD (met : List Bool) (i j : Nat) (hi : i < met.length) : (met.set i true).getD j false = (decide (j = i) || met.getD j false) := by
  by_cases e : j = i
  · subst e
    simp [List.getD_eq_getElem?_getD, hi]
  · have e' : ¬ i = j := fun h => e h.symm
    simp [List.getD_eq_getElem?_getD, List.getElem?_set, e, e']
theorem packetM_cards (xs : List Int) : ∀ met : List Bool, packetM met xs = true → ∀ x ∈ xs, 0 ≤ cardOf x := by
  induction xs with
  | nil => intro met _ x hx; cases hx
  | cons y xs ih =>
    intro met h x hx
    unfold packetM at h
    by_cases c : cardOf y < 0
    · rw [if_pos c] at h; cases h
    · rw [if_neg c] at h
      by_cases m : met.getD (cardOf y).toNat false = true
      · rw [if_pos m] at h; cases h
      · rw [if_neg m] at h
        rcases List.mem_cons.1 hx with rfl | hx
        · omega
        · exact ih _ h x hx
theorem packetB_card {l : List Int} (h : packetB l = true) : ∀ x ∈ l, 0 ≤ cardOf x := packetM_cards l _ h
end Go.Proofs.Ytlobampnikhmnaa.F
end
section
/- The length of all lists together. -/
namespace Go.Proofs.Ytlobampnikhmnaa.F
open Go.RowKit Go.Proofs.YtlobampnikhmnaaW.PrintWords Go.Proofs.YtlobampnikhmnaaW.PrintLast Go.Proofs.YtlobampnikhmnaaW.PrintMore
set_option linter.unusedVariables false
set_option linter.unusedSimpArgs false
def total (l : List (List Int)) : Nat := (l.map List.length).sum
end Go.Proofs.Ytlobampnikhmnaa.F
end
section
/- The piles of a packet that is dealt: every size and every number of piles by itself. -/
namespace Go.Proofs.Ytlobampnikhmnaa.F
open Go.RowKit Go.Proofs.YtlobampnikhmnaaW.PrintWords Go.Proofs.YtlobampnikhmnaaW.PrintLast Go.Proofs.YtlobampnikhmnaaW.PrintMore
set_option linter.unusedVariables false
set_option linter.unusedSimpArgs false
def dealtR (x : List Int) (p : Int) (r : List (List Int)) : Prop := (∀ k, spec_l14Piles.f (k + 60) x p = some r) ∧ (∀ k, impl_PilesOf.j0 (k + 60) x p false = some r) ∧ r.length ≤ 12 ∧ (∀ y ∈ r, y.length ≤ 12) ∧ total r ≤ 12
theorem deal_2_2 (x0 x1 : Int) : dealtR [x0, x1] 2 [[x0], [x1]] := by
  refine ⟨fun k => by kernel_rfl, fun k => by kernel_rfl, by simp, ?_, by simp [total]⟩
  intro y hy
  simp only [List.mem_cons, List.not_mem_nil, or_false] at hy
  rcases hy with rfl | rfl <;> simp
theorem deal_4_2 (x0 x1 x2 x3 : Int) : dealtR [x0, x1, x2, x3] 2 [[x2, x0], [x3, x1]] := by
  refine ⟨fun k => by kernel_rfl, fun k => by kernel_rfl, by simp, ?_, by simp [total]⟩
  intro y hy
  simp only [List.mem_cons, List.not_mem_nil, or_false] at hy
  rcases hy with rfl | rfl <;> simp
theorem deal_6_2 (x0 x1 x2 x3 x4 x5 : Int) : dealtR [x0, x1, x2, x3, x4, x5] 2 [[x4, x2, x0], [x5, x3, x1]] := by
  refine ⟨fun k => by kernel_rfl, fun k => by kernel_rfl, by simp, ?_, by simp [total]⟩
  intro y hy
  simp only [List.mem_cons, List.not_mem_nil, or_false] at hy
  rcases hy with rfl | rfl <;> simp
theorem deal_8_2 (x0 x1 x2 x3 x4 x5 x6 x7 : Int) : dealtR [x0, x1, x2, x3, x4, x5, x6, x7] 2 [[x6, x4, x2, x0], [x7, x5, x3, x1]] := by
  refine ⟨fun k => by kernel_rfl, fun k => by kernel_rfl, by simp, ?_, by simp [total]⟩
  intro y hy
  simp only [List.mem_cons, List.not_mem_nil, or_false] at hy
  rcases hy with rfl | rfl <;> simp
theorem deal_10_2 (x0 x1 x2 x3 x4 x5 x6 x7 x8 x9 : Int) : dealtR [x0, x1, x2, x3, x4, x5, x6, x7, x8, x9] 2 [[x8, x6, x4, x2, x0], [x9, x7, x5, x3, x1]] := by
  refine ⟨fun k => by kernel_rfl, fun k => by kernel_rfl, by simp, ?_, by simp [total]⟩
  intro y hy
  simp only [List.mem_cons, List.not_mem_nil, or_false] at hy
  rcases hy with rfl | rfl <;> simp
theorem deal_12_2 (x0 x1 x2 x3 x4 x5 x6 x7 x8 x9 x10 x11 : Int) : dealtR [x0, x1, x2, x3, x4, x5, x6, x7, x8, x9, x10, x11] 2 [[x10, x8, x6, x4, x2, x0], [x11, x9, x7, x5, x3, x1]] := by
  refine ⟨fun k => by kernel_rfl, fun k => by kernel_rfl, by simp, ?_, by simp [total]⟩
  intro y hy
  simp only [List.mem_cons, List.not_mem_nil, or_false] at hy
  rcases hy with rfl | rfl <;> simp
theorem deal_3_3 (x0 x1 x2 : Int) : dealtR [x0, x1, x2] 3 [[x0], [x1], [x2]] := by
  refine ⟨fun k => by kernel_rfl, fun k => by kernel_rfl, by simp, ?_, by simp [total]⟩
  intro y hy
  simp only [List.mem_cons, List.not_mem_nil, or_false] at hy
  rcases hy with rfl | rfl | rfl <;> simp
theorem deal_6_3 (x0 x1 x2 x3 x4 x5 : Int) : dealtR [x0, x1, x2, x3, x4, x5] 3 [[x3, x0], [x4, x1], [x5, x2]] := by
  refine ⟨fun k => by kernel_rfl, fun k => by kernel_rfl, by simp, ?_, by simp [total]⟩
  intro y hy
  simp only [List.mem_cons, List.not_mem_nil, or_false] at hy
  rcases hy with rfl | rfl | rfl <;> simp
theorem deal_9_3 (x0 x1 x2 x3 x4 x5 x6 x7 x8 : Int) : dealtR [x0, x1, x2, x3, x4, x5, x6, x7, x8] 3 [[x6, x3, x0], [x7, x4, x1], [x8, x5, x2]] := by
  refine ⟨fun k => by kernel_rfl, fun k => by kernel_rfl, by simp, ?_, by simp [total]⟩
  intro y hy
  simp only [List.mem_cons, List.not_mem_nil, or_false] at hy
  rcases hy with rfl | rfl | rfl <;> simp
theorem deal_12_3 (x0 x1 x2 x3 x4 x5 x6 x7 x8 x9 x10 x11 : Int) : dealtR [x0, x1, x2, x3, x4, x5, x6, x7, x8, x9, x10, x11] 3 [[x9, x6, x3, x0], [x10, x7, x4, x1], [x11, x8, x5, x2]] := by
  refine ⟨fun k => by kernel_rfl, fun k => by kernel_rfl, by simp, ?_, by simp [total]⟩
  intro y hy
  simp only [List.mem_cons, List.not_mem_nil, or_false] at hy
  rcases hy with rfl | rfl | rfl <;> simp
theorem deal_4_4 (x0 x1 x2 x3 : Int) : dealtR [x0, x1, x2, x3] 4 [[x0], [x1], [x2], [x3]] := by
  refine ⟨fun k => by kernel_rfl, fun k => by kernel_rfl, by simp, ?_, by simp [total]⟩
  intro y hy
  simp only [List.mem_cons, List.not_mem_nil, or_false] at hy
  rcases hy with rfl | rfl | rfl | rfl <;> simp
theorem deal_8_4 (x0 x1 x2 x3 x4 x5 x6 x7 : Int) : dealtR [x0, x1, x2, x3, x4, x5, x6, x7] 4 [[x4, x0], [x5, x1], [x6, x2], [x7, x3]] := by
  refine ⟨fun k => by kernel_rfl, fun k => by kernel_rfl, by simp, ?_, by simp [total]⟩
  intro y hy
  simp only [List.mem_cons, List.not_mem_nil, or_false] at hy
  rcases hy with rfl | rfl | rfl | rfl <;> simp
theorem deal_12_4 (x0 x1 x2 x3 x4 x5 x6 x7 x8 x9 x10 x11 : Int) : dealtR [x0, x1, x2, x3, x4, x5, x6, x7, x8, x9, x10, x11] 4 [[x8, x4, x0], [x9, x5, x1], [x10, x6, x2], [x11, x7, x3]] := by
  refine ⟨fun k => by kernel_rfl, fun k => by kernel_rfl, by simp, ?_, by simp [total]⟩
  intro y hy
  simp only [List.mem_cons, List.not_mem_nil, or_false] at hy
  rcases hy with rfl | rfl | rfl | rfl <;> simp
theorem len_2 (l : List Int) (h : l.length = 2) : ∃ x0 x1, l = [x0, x1] := by
  match l, h with
  | [x0, x1], _ => exact ⟨x0, x1, rfl⟩
theorem len_3 (l : List Int) (h : l.length = 3) : ∃ x0 x1 x2, l = [x0, x1, x2] := by
  match l, h with
  | [x0, x1, x2], _ => exact ⟨x0, x1, x2, rfl⟩
theorem len_4 (l : List Int) (h : l.length = 4) : ∃ x0 x1 x2 x3, l = [x0, x1, x2, x3] := by
  match l, h with
  | [x0, x1, x2, x3], _ => exact ⟨x0, x1, x2, x3, rfl⟩
theorem len_6 (l : List Int) (h : l.length = 6) : ∃ x0 x1 x2 x3 x4 x5, l = [x0, x1, x2, x3, x4, x5] := by
  match l, h with
  | [x0, x1, x2, x3, x4, x5], _ => exact ⟨x0, x1, x2, x3, x4, x5, rfl⟩
theorem len_8 (l : List Int) (h : l.length = 8) : ∃ x0 x1 x2 x3 x4 x5 x6 x7, l = [x0, x1, x2, x3, x4, x5, x6, x7] := by
  match l, h with
  | [x0, x1, x2, x3, x4, x5, x6, x7], _ => exact ⟨x0, x1, x2, x3, x4, x5, x6, x7, rfl⟩
theorem len_9 (l : List Int) (h : l.length = 9) : ∃ x0 x1 x2 x3 x4 x5 x6 x7 x8, l = [x0, x1, x2, x3, x4, x5, x6, x7, x8] := by
  match l, h with
  | [x0, x1, x2, x3, x4, x5, x6, x7, x8], _ => exact ⟨x0, x1, x2, x3, x4, x5, x6, x7, x8, rfl⟩
theorem len_10 (l : List Int) (h : l.length = 10) : ∃ x0 x1 x2 x3 x4 x5 x6 x7 x8 x9, l = [x0, x1, x2, x3, x4, x5, x6, x7, x8, x9] := by
  match l, h with
  | [x0, x1, x2, x3, x4, x5, x6, x7, x8, x9], _ => exact ⟨x0, x1, x2, x3, x4, x5, x6, x7, x8, x9, rfl⟩
theorem len_12 (l : List Int) (h : l.length = 12) : ∃ x0 x1 x2 x3 x4 x5 x6 x7 x8 x9 x10 x11, l = [x0, x1, x2, x3, x4, x5, x6, x7, x8, x9, x10, x11] := by
  match l, h with
  | [x0, x1, x2, x3, x4, x5, x6, x7, x8, x9, x10, x11], _ => exact ⟨x0, x1, x2, x3, x4, x5, x6, x7, x8, x9, x10, x11, rfl⟩
def pilesB (n p : Int) : Bool := decide (2 ≤ p ∧ p ≤ 4 ∧ p ≤ n ∧ n ≤ 12) && (n.tmod p == 0)
theorem impl_PilesOk_eq (n p : Int) : impl_PilesOk.f n p = some (pilesB n p) := by
  unfold impl_PilesOk.f pilesB
  by_cases h1 : p ≥ 2
  · have h3 : ¬ p = 0 := by omega
    by_cases h2 : p ≤ 4
    · by_cases h4 : n ≥ p
      · by_cases h5 : n ≤ 12
        · have h6 : 2 ≤ p ∧ p ≤ 4 ∧ p ≤ n ∧ n ≤ 12 := by omega
          simp [h1, h2, h3, h4, h5, h6, if_true, if_false, and_self, decide_true, Bool.true_and]
        · have h6 : ¬ (2 ≤ p ∧ p ≤ 4 ∧ p ≤ n ∧ n ≤ 12) := by omega
          simp [h1, h2, h4, h5, h6, if_true, if_false, decide_false, Bool.false_and]
      · have h6 : ¬ (2 ≤ p ∧ p ≤ 4 ∧ p ≤ n ∧ n ≤ 12) := by omega
        simp [h1, h2, h4, h6, if_true, if_false, decide_false, Bool.false_and]
    · have h6 : ¬ (2 ≤ p ∧ p ≤ 4 ∧ p ≤ n ∧ n ≤ 12) := by omega
      simp [h1, h2, h6, if_true, if_false, decide_false, Bool.false_and]
  · have h6 : ¬ (2 ≤ p ∧ p ≤ 4 ∧ p ≤ n ∧ n ≤ 12) := by omega
    simp [h1, h6, if_false, decide_false, Bool.false_and]
end Go.Proofs.Ytlobampnikhmnaa.F
end
section
/- Lists put together, and lists in reverse order. -/
namespace Go.Proofs.Ytlobampnikhmnaa.F
open Go.RowKit Go.Proofs.YtlobampnikhmnaaW.PrintWords Go.Proofs.YtlobampnikhmnaaW.PrintLast Go.Proofs.YtlobampnikhmnaaW.PrintMore
set_option linter.unusedVariables false
set_option linter.unusedSimpArgs false
def lens (l : List (List Int)) : Nat := (l.map List.length).sum
theorem lens_cons (x : List Int) (l : List (List Int)) : lens (x :: l) = x.length + lens l := by simp [lens]
theorem mid_rdLL (pre : List (List Int)) (x : List Int) (rest : List (List Int)) : rd_L1 (pre ++ x :: rest) (pre.length : Int) = x := by
  unfold rd_L1
  simp
theorem concat_l1 (rest : List (List Int)) : ∀ (pre : List (List Int)) (acc : List Int), (pre ++ rest).length ≤ 4611686018427387904 → acc.length + lens rest < 17592186044416 →
    Ev (fun k => slices_Concat_Lint_int.l1 k acc (pre ++ rest) ((pre ++ rest).length : Int) (pre.length : Int)) (acc ++ rest.flatten) := by
  induction rest with
  | nil =>
    intro pre acc hb hl
    rw [show acc ++ ([] : List (List Int)).flatten = acc by simp]
    refine Ev.step (f := fun _ => some acc) (fun k => ?_) (Ev.now _)
    show slices_Concat_Lint_int.l1 (k + 1) _ _ _ _ = _
    rw [slices_Concat_Lint_int.l1, if_neg (mid_nlt _)]
  | cons x rest ih =>
    intro pre acc hb hl
    rw [lens_cons] at hl
    have h := ih (pre ++ [x]) (acc ++ x) (by simpa using hb) (by rw [List.length_append]; omega)
    rw [← mid_cons, ← mid_succ pre x (by simp at hb; omega)] at h
    rw [show acc ++ (x :: rest).flatten = acc ++ x ++ rest.flatten by simp]
    refine Ev.step (fun k => ?_) h
    show slices_Concat_Lint_int.l1 (k + 1) _ _ _ _ = _
    rw [slices_Concat_Lint_int.l1, if_pos (mid_lt _ _ _), if_pos (nn _), if_pos (mid_lt _ _ _), mid_rdLL, if_pos (by omega)]
theorem concat_l0 (X : List (List Int)) (hX : X.length ≤ 4611686018427387904) (hl : lens X < 17592186044416) (rest : List (List Int)) : ∀ (pre : List (List Int)) (s : Nat), (pre ++ rest).length ≤ 4611686018427387904 → s + lens rest < 17592186044416 →
    Ev (fun k => slices_Concat_Lint_int.l0 k X (s : Int) (pre ++ rest) ((pre ++ rest).length : Int) (pre.length : Int)) X.flatten := by
  induction rest with
  | nil =>
    intro pre s hb hs
    have h := concat_l1 X [] [] hX (by simpa using hl)
    have hg : slices_Grow_Lint_int__nil.f (s : Int) = some [] := by
      unfold slices_Grow_Lint_int__nil.f
      rw [if_pos (nn _), if_pos (by omega)]
    refine Ev.step (fun k => ?_) h
    show slices_Concat_Lint_int.l0 (k + 1) _ _ _ _ _ = _
    rw [slices_Concat_Lint_int.l0, if_neg (mid_nlt _), hg]
    rfl
  | cons x rest ih =>
    intro pre s hb hs
    rw [lens_cons] at hs
    have h := ih (pre ++ [x]) (s + x.length) (by simpa using hb) (by omega)
    rw [← mid_cons, ← mid_succ pre x (by simp at hb; omega)] at h
    have hw : wrap64 ((s : Int) + (x.length : Int)) = ((s + x.length : Nat) : Int) := by rw [w64_id (by omega) (by omega)]; omega
    refine Ev.step (fun k => ?_) h
    show slices_Concat_Lint_int.l0 (k + 1) _ _ _ _ _ = _
    rw [slices_Concat_Lint_int.l0, if_pos (mid_lt _ _ _), if_pos (nn _), if_pos (mid_lt _ _ _), mid_rdLL, hw, if_neg (by omega)]
theorem concat_ev (X : List (List Int)) (hX : X.length ≤ 4611686018427387904) (hl : lens X < 17592186044416) : Ev (fun k => slices_Concat_Lint_int.f k X) X.flatten := concat_l0 X hX hl X [] 0 hX (by omega)
end Go.Proofs.Ytlobampnikhmnaa.F
end
section
/- Putting piles together: both functions make the same order. -/
namespace Go.Proofs.Ytlobampnikhmnaa.F
open Go.RowKit Go.Proofs.YtlobampnikhmnaaW.PrintWords Go.Proofs.YtlobampnikhmnaaW.PrintLast Go.Proofs.YtlobampnikhmnaaW.PrintMore
set_option linter.unusedVariables false
set_option linter.unusedSimpArgs false
/-- What both functions make. -/
def gatherB (l : List (List Int)) (a b : Int) : List Int × Bool :=
  if 2 ≤ l.length ∧ l.length ≤ 4 ∧ 0 ≤ a ∧ a < (l.length : Int) ∧ 0 ≤ b ∧ b < (l.length : Int) then (if packetB (ordAt l a.toNat b.toNat).flatten then ((ordAt l a.toNat b.toNat).flatten, true) else ([], false)) else ([], false)
theorem ordAt_lens {l : List (List Int)} (c p : Nat) (hn : l.length ≤ 4) (hc : c < l.length) (hb : ∀ x ∈ l, x.length ≤ 1048576) : lens (ordAt l c p) ≤ 4194304 := by
  have key : ∀ m : List (List Int), (∀ x ∈ m, x.length ≤ 1048576) → lens m ≤ m.length * 1048576 := by
    intro m
    induction m with
    | nil => intro _; simp [lens]
    | cons x m ih =>
      intro h
      rw [lens_cons, List.length_cons]
      have h1 := h x List.mem_cons_self
      have h2 := ih (fun y hy => h y (List.mem_cons_of_mem _ hy))
      omega
  have h := key (ordAt l c p) (fun x hx => hb x (ordAt_mem hx))
  rw [ordAt_length l c p hc] at h
  omega
theorem impl_gather_ev (l : List (List Int)) (a b : Int) (hb : ∀ x ∈ l, x.length ≤ 1048576) (hw : ∀ x ∈ l, ∀ y ∈ x, -9223372036854775808 ≤ y) : Ev (fun k => impl_GatherPiles.f k l a b) (gatherB l a b) := by
  unfold impl_GatherPiles.f gatherB
  by_cases h : 2 ≤ l.length ∧ l.length ≤ 4 ∧ 0 ≤ a ∧ a < (l.length : Int) ∧ 0 ≤ b ∧ b < (l.length : Int)
  · simp only [if_pos h]
    have hlen := ordAt_lens (l := l) a.toNat b.toNat h.2.1 (by omega) hb
    have hfl : (ordAt l a.toNat b.toNat).flatten.length = lens (ordAt l a.toNat b.toNat) := by simp [lens, List.length_flatten]
    refine Ev.bind (concat_ev (ordAt l a.toNat b.toNat) (by rw [ordAt_length _ _ _ (by omega)]; omega) (by omega)) ?_
    refine Ev.bind (impl_PacketOk_ev _ (by omega) (fun x hx => by
      obtain ⟨y, hy, hxy⟩ := List.mem_flatten.1 hx
      exact hw y (ordAt_mem hy) x hxy)) ?_
    exact Ev.now _
  · simp only [if_neg h]
    exact Ev.now _
end Go.Proofs.Ytlobampnikhmnaa.F
end
section
/- Where a card stands. -/
namespace Go.Proofs.Ytlobampnikhmnaa.F
open Go.RowKit Go.Proofs.YtlobampnikhmnaaW.PrintWords Go.Proofs.YtlobampnikhmnaaW.PrintLast Go.Proofs.YtlobampnikhmnaaW.PrintMore
set_option linter.unusedVariables false
set_option linter.unusedSimpArgs false
def hasCard (q : List Int) (c : Int) : Bool := q.any fun y => cardOf y == c
theorem idx_lt (c : Int) (q : List Int) : ∀ i : Int, 0 ≤ i → decide (idxFrom (fun x => cardOf x == c) q i < 0) = !hasCard q c := by
  induction q with
  | nil => intro i hi; simp [idxFrom, hasCard]
  | cons x q ih =>
    intro i hi
    by_cases e : cardOf x = c
    · have h1 : idxFrom (fun x => cardOf x == c) (x :: q) i = i := by simp [idxFrom, e]
      have h2 : hasCard (x :: q) c = true := by simp [hasCard, e]
      rw [h1, h2, decide_eq_false (by omega)]
      rfl
    · have h1 : idxFrom (fun x => cardOf x == c) (x :: q) i = idxFrom (fun x => cardOf x == c) q (i + 1) := by simp [idxFrom, e]
      have h2 : hasCard (x :: q) c = hasCard q c := by simp [hasCard, e]
      rw [h1, h2]
      exact ih (i + 1) (by omega)
theorem impl_pos_eq (q : List Int) (c : Int) (hc : 0 ≤ c) (hq : ∀ x ∈ q, -9223372036854775808 ≤ x) : impl_PositionOf.f q c = some (idxFrom (fun x => cardOf x == c) q 0) := by
  unfold impl_PositionOf.f
  rw [if_neg (by omega)]
  have aux : ∀ (l : List Int) (i : Int), (∀ x ∈ l, -9223372036854775808 ≤ x) → idxFrom (fun x => impl_CardOf.f x == some c) l i = idxFrom (fun x => cardOf x == c) l i := by
    intro l
    induction l with
    | nil => intro i _; rfl
    | cons x xs ih =>
      intro i h
      have hx := impl_CardOf_eq x (h x (by simp))
      have h2 := ih (i + 1) (fun y hy => h y (by simp [hy]))
      simp only [idxFrom, hx, h2]
      rfl
  rw [aux q 0 hq]
end Go.Proofs.Ytlobampnikhmnaa.F
end
section
/- One round of piles: both functions do the same. -/
namespace Go.Proofs.Ytlobampnikhmnaa.F
open Go.RowKit Go.Proofs.YtlobampnikhmnaaW.PrintWords Go.Proofs.YtlobampnikhmnaaW.PrintLast Go.Proofs.YtlobampnikhmnaaW.PrintMore
set_option linter.unusedVariables false
set_option linter.unusedSimpArgs false
/-- Where card c stands in q; -1: nowhere. -/
def posB (q : List Int) (c : Int) : Int := if c < 0 then -1 else idxFrom (fun x => cardOf x == c) q 0
theorem impl_posB (q : List Int) (c : Int) (hq : ∀ x ∈ q, -9223372036854775808 ≤ x) : impl_PositionOf.f q c = some (posB q c) := by
  unfold posB
  by_cases h : c < 0
  · rw [if_pos h]; unfold impl_PositionOf.f; rw [if_pos h]
  · rw [if_neg h]; exact impl_pos_eq q c (by omega) hq
theorem pileHas_eq (q : List Int) (c : Int) (hq : ∀ x ∈ q, -9223372036854775808 ≤ x) : pileHas c q = decide (0 ≤ posB q c) := by
  unfold pileHas
  rw [impl_posB q c hq]
end Go.Proofs.Ytlobampnikhmnaa.F
end
section
/- Laid by a program of this claim's own. What the Go function does, as a Lean function, and the proof that the Go code does just that; Lean checks it. -/
namespace Go.Proofs.Ytlobampnikhmnaa.F
open Go.RowKit Go.Proofs.YtlobampnikhmnaaW.PrintWords Go.Proofs.YtlobampnikhmnaaW.PrintLast Go.Proofs.YtlobampnikhmnaaW.PrintMore
attribute [local go_sem] max2_int min2_int max_two min_two max_three min_three max_four min_four   -- for this text's walks alone
set_option linter.unusedVariables false
set_option linter.unusedSimpArgs false
/-! ### spec_NewPacket: function 136 -/
def spec_NewPacket.l0 : Nat → Int → List Int → Int → Option (List Int)
  | 0, _, _, _ => none
  | k + 1, x0, x3, x4 => if x4 < x0 then (if x3.length < 17592186044416 then (spec_NewPacket.l0 k x0 (x3 ++ [x4]) (wrap64 (x4 + 1))) else (none)) else (some x3)
def spec_NewPacket.f (k : Nat) (a0 : Int) : Option (List Int) := (spec_l01In.f a0 0 12).bind fun t105 => (if t105 = true then (spec_NewPacket.l0 k a0 (([] : List Int)) 0) else (some ([] : List Int)))
end Go.Proofs.Ytlobampnikhmnaa.F
end
section
/- Where a card lies behind one round: both functions tell the same. -/
namespace Go.Proofs.Ytlobampnikhmnaa.F
open Go.RowKit Go.Proofs.YtlobampnikhmnaaW.PrintWords Go.Proofs.YtlobampnikhmnaaW.PrintLast Go.Proofs.YtlobampnikhmnaaW.PrintMore
set_option linter.unusedVariables false
set_option linter.unusedSimpArgs false
theorem upTo_ev (n : Int) (h0 : 0 ≤ n) (h1 : n ≤ 12) : Ev (fun k => impl_upTo.f k n) (seqFrom 0 n.toNat) ∧ Ev (fun k => spec_NewPacket.f k n) (seqFrom 0 n.toNat) := by
  have h : n = 0 ∨ n = 1 ∨ n = 2 ∨ n = 3 ∨ n = 4 ∨ n = 5 ∨ n = 6 ∨ n = 7 ∨ n = 8 ∨ n = 9 ∨ n = 10 ∨ n = 11 ∨ n = 12 := by omega
  rcases h with rfl | rfl | rfl | rfl | rfl | rfl | rfl | rfl | rfl | rfl | rfl | rfl | rfl
  all_goals exact ⟨Ev.at_ 20 (fun k hk => by obtain ⟨m, rfl⟩ := Nat.exists_eq_add_of_le' hk; kernel_rfl), Ev.at_ 20 (fun k hk => by obtain ⟨m, rfl⟩ := Nat.exists_eq_add_of_le' hk; kernel_rfl)⟩
theorem index_idx (x : Int) (rest : List Int) : ∀ (pre : List Int), (pre ++ rest).length ≤ 4611686018427387904 →
    Ev (fun k => slices_Index_Lint_int.l0 k (pre ++ rest) x ((pre ++ rest).length : Int) (pre.length : Int)) (idxFrom (fun y => y == x) rest (pre.length : Int)) := by
  induction rest with
  | nil =>
    intro pre hb
    refine Ev.step (f := fun _ => some (-1)) (fun k => ?_) (Ev.now _)
    show slices_Index_Lint_int.l0 (k + 1) _ _ _ _ = _
    rw [slices_Index_Lint_int.l0, if_neg (mid_nlt _)]
  | cons y rest ih =>
    intro pre hb
    by_cases e : x = y
    · rw [show idxFrom (fun y => y == x) (y :: rest) (pre.length : Int) = (pre.length : Int) by simp [idxFrom, e]]
      refine Ev.step (f := fun _ => some (pre.length : Int)) (fun k => ?_) (Ev.now _)
      show slices_Index_Lint_int.l0 (k + 1) _ _ _ _ = _
      rw [slices_Index_Lint_int.l0, if_pos (mid_lt _ _ _), if_pos (nn _), if_pos (mid_lt _ _ _), mid_rd, if_pos e]
    · have h := ih (pre ++ [y]) (by simpa using hb)
      rw [← mid_cons, ← mid_succ pre y (by simp at hb; omega)] at h
      rw [show idxFrom (fun y => y == x) (y :: rest) (pre.length : Int) = idxFrom (fun y => y == x) rest (wrap64 ((pre.length : Int) + 1)) by simp [idxFrom, Ne.symm e]; rw [w64_nat _ (by simp at hb; omega)]; simp]
      refine Ev.step (fun k => ?_) h
      show slices_Index_Lint_int.l0 (k + 1) _ _ _ _ = _
      rw [slices_Index_Lint_int.l0, if_pos (mid_lt _ _ _), if_pos (nn _), if_pos (mid_lt _ _ _), mid_rd, if_neg e]
theorem cardOf_self (x : Int) (h0 : 0 ≤ x) (h1 : x < 12) : cardOf x = x := by
  have h : x = 0 ∨ x = 1 ∨ x = 2 ∨ x = 3 ∨ x = 4 ∨ x = 5 ∨ x = 6 ∨ x = 7 ∨ x = 8 ∨ x = 9 ∨ x = 10 ∨ x = 11 := by omega
  rcases h with rfl | rfl | rfl | rfl | rfl | rfl | rfl | rfl | rfl | rfl | rfl | rfl <;> decide +kernel
theorem pilesB_iff (n p : Int) : pilesB n p = true ↔ (2 ≤ p ∧ p ≤ 4 ∧ p ≤ n ∧ n ≤ 12) ∧ Int.tmod n p = 0 := by
  unfold pilesB
  simp only [Bool.and_eq_true, decide_eq_true_eq, beq_iff_eq]
end Go.Proofs.Ytlobampnikhmnaa.F
end
section
/- Arrangements of one packet. -/
namespace Go.Proofs.Ytlobampnikhmnaa.F
open Go.RowKit Go.Proofs.YtlobampnikhmnaaW.PrintWords Go.Proofs.YtlobampnikhmnaaW.PrintLast Go.Proofs.YtlobampnikhmnaaW.PrintMore
set_option linter.unusedVariables false
set_option linter.unusedSimpArgs false
theorem lacks_eq (q : List Int) (x : Int) (hq : ∀ x ∈ q, -9223372036854775808 ≤ x) (hx : -9223372036854775808 ≤ x) (hc : 0 ≤ cardOf x) : lacks q x = !hasCard q (cardOf x) := by
  unfold lacks
  rw [impl_CardOf_eq x hx, Option.bind_some, impl_pos_eq q _ hc hq, Option.bind_some, idx_lt _ q 0 (by omega)]
  cases hasCard q (cardOf x) <;> rfl
def arrB (p q : List Int) : Bool := packetB p && (packetB q && (decide (p.length = q.length) && p.all fun x => hasCard q (cardOf x)))
theorem impl_Arr_ev (p q : List Int) (hp : ∀ x ∈ p, -9223372036854775808 ≤ x) (hq : ∀ x ∈ q, -9223372036854775808 ≤ x) (bp : p.length ≤ 4611686018427387904) (bq : q.length ≤ 4611686018427387904) : Ev (fun k => impl_IsArrangement.f k p q) (arrB p q) := by
  unfold impl_IsArrangement.f arrB
  refine Ev.bind (impl_PacketOk_ev p bp hp) ?_
  by_cases h1 : packetB p = true
  · simp only [h1, if_true, Bool.true_and]
    refine Ev.bind (impl_PacketOk_ev q bq hq) ?_
    by_cases h2 : packetB q = true
    · simp only [h2, if_true, Bool.true_and]
      by_cases h3 : p.length = q.length
      · simp only [if_pos (show (p.length : Int) = (q.length : Int) by omega), decide_eq_true h3, Bool.true_and]
        have e : (!(p.any (lacks q))) = p.all fun x => hasCard q (cardOf x) := by
          rw [List.not_any_eq_all_not]
          rw [Bool.eq_iff_iff, List.all_eq_true, List.all_eq_true]
          refine ⟨fun h x hx => ?_, fun h x hx => ?_⟩
          · have := h x hx
            rw [lacks_eq q x hq (hp x hx) (packetB_card h1 x hx)] at this
            simpa using this
          · rw [lacks_eq q x hq (hp x hx) (packetB_card h1 x hx)]
            simpa using h x hx
        rw [e]
        exact Ev.now _
      · simp only [if_neg (show ¬ (p.length : Int) = (q.length : Int) by omega), decide_eq_false h3, Bool.false_and]
        exact Ev.now _
    · simp only [h2, if_false, Bool.false_and]
      exact Ev.now _
  · simp only [h1, if_false, Bool.false_and]
    exact Ev.now _
end Go.Proofs.Ytlobampnikhmnaa.F
end
section
/- When a list is a packet, by its cards. -/
namespace Go.Proofs.Ytlobampnikhmnaa.F
open Go.RowKit Go.Proofs.YtlobampnikhmnaaW.PrintWords Go.Proofs.YtlobampnikhmnaaW.PrintLast Go.Proofs.YtlobampnikhmnaaW.PrintMore
set_option linter.unusedVariables false
set_option linter.unusedSimpArgs false
theorem packetM_back (xs : List Int) : ∀ met : List Bool, met.length = 12 → (∀ x ∈ xs, 0 ≤ cardOf x ∧ met.getD (cardOf x).toNat false = false) → (xs.map cardOf).Nodup → packetM met xs = true := by
  induction xs with
  | nil => intro met hm h hn; rfl
  | cons x xs ih =>
    intro met hm h hn
    have hx := h x (by simp)
    rw [List.map_cons, List.nodup_cons] at hn
    have hlt := cardOf_lt x
    unfold packetM
    rw [if_neg (by omega), hx.2, if_neg (by simp)]
    refine ih _ (by rw [List.length_set]; exact hm) (fun y hy => ?_) hn.2
    have hyy := h y (by simp [hy])
    refine ⟨hyy.1, ?_⟩
    rw [set_getD met _ _ (by omega), hyy.2, Bool.or_false]
    refine decide_eq_false (fun e => hn.1 ?_)
    have : cardOf y = cardOf x := by omega
    rw [← this]
    exact List.mem_map.mpr ⟨y, hy, rfl⟩
theorem packetM_nd (xs : List Int) : ∀ met : List Bool, met.length = 12 → packetM met xs = true → (∀ x ∈ xs, 0 ≤ cardOf x ∧ met.getD (cardOf x).toNat false = false) ∧ (xs.map cardOf).Nodup := by
  induction xs with
  | nil => intro met hm h; exact ⟨by simp, by simp⟩
  | cons x xs ih =>
    intro met hm h
    have hlt := cardOf_lt x
    unfold packetM at h
    by_cases c : cardOf x < 0
    · rw [if_pos c] at h; exact absurd h (by simp)
    · rw [if_neg c] at h
      by_cases d : met.getD (cardOf x).toNat false = true
      · rw [if_pos d] at h; exact absurd h (by simp)
      · rw [if_neg d] at h
        obtain ⟨h1, h2⟩ := ih _ (by rw [List.length_set]; exact hm) h
        have d' : met.getD (cardOf x).toNat false = false := by simpa using d
        refine ⟨fun y hy => ?_, ?_⟩
        · rcases List.mem_cons.mp hy with rfl | hy
          · exact ⟨by omega, d'⟩
          · have := h1 y hy
            rw [set_getD met _ _ (by omega), Bool.or_eq_false_iff] at this
            exact ⟨this.1, this.2.2⟩
        · rw [List.map_cons, List.nodup_cons]
          refine ⟨fun hm2 => ?_, h2⟩
          obtain ⟨y, hy, e⟩ := List.mem_map.mp hm2
          have := h1 y hy
          rw [set_getD met _ _ (by omega), Bool.or_eq_false_iff] at this
          have h3 := of_decide_eq_false this.2.1
          exact h3 (by rw [e])
theorem packetB_iff (l : List Int) : packetB l = true ↔ (∀ x ∈ l, 0 ≤ cardOf x) ∧ (l.map cardOf).Nodup := by
  constructor
  · intro h
    obtain ⟨h1, h2⟩ := packetM_nd l _ (by simp) h
    exact ⟨fun x hx => (h1 x hx).1, h2⟩
  · rintro ⟨h1, h2⟩
    refine packetM_back l _ (by simp) (fun x hx => ⟨h1 x hx, ?_⟩) h2
    generalize (cardOf x).toNat = i
    rw [List.getD_eq_getElem?_getD, List.getElem?_replicate]
    split <;> rfl
theorem packetB_perm {p q : List Int} (h : (q.map cardOf).Perm (p.map cardOf)) (hp : packetB p = true) : packetB q = true := by
  obtain ⟨h1, h2⟩ := (packetB_iff p).mp hp
  refine (packetB_iff q).mpr ⟨fun x hx => ?_, h.nodup_iff.mpr h2⟩
  have : cardOf x ∈ p.map cardOf := h.mem_iff.mp (List.mem_map.mpr ⟨x, hx, rfl⟩)
  obtain ⟨y, hy, e⟩ := List.mem_map.mp this
  rw [← e]
  exact h1 y hy
end Go.Proofs.Ytlobampnikhmnaa.F
end
section
/- What the makers of arguments give: numbers in their bounds, whatever the code is. -/
namespace Go.Proofs.Ytlobampnikhmnaa.F
open Go.RowKit Go.Proofs.YtlobampnikhmnaaW.PrintWords Go.Proofs.YtlobampnikhmnaaW.PrintLast Go.Proofs.YtlobampnikhmnaaW.PrintMore
set_option linter.unusedVariables false
set_option linter.unusedSimpArgs false
theorem and_255 (x : Int) : 0 ≤ Go.bits .and .i64 x 255 ∧ Go.bits .and .i64 x 255 ≤ 255 := by
  have h : (BitVec.ofInt 64 x &&& BitVec.ofInt 64 255).toNat ≤ 255 := by
    rw [BitVec.toNat_and]
    exact Nat.le_trans Nat.and_le_right (by decide)
  have e : Go.bits .and .i64 x 255 = wrap64 (((BitVec.ofInt 64 x &&& BitVec.ofInt 64 255).toNat : Nat) : Int) := i64_w _
  rw [e, w64_id (by omega) (by omega)]
  omega
/-- The cursor stands within its code. -/
def curB (f0 : List Int) (f1 : Int) : Prop := 0 ≤ f1 ∧ f1 ≤ (f0.length : Int) ∧ f0.length ≤ 1048576
theorem byte_ex (f0 : List Int) (f1 f2 : Int) (h : curB f0 f1) : ∃ b g1 g2, spec_l01Byte.f f0 f1 f2 = some (b, g1, g2) ∧ 0 ≤ b ∧ b ≤ 255 ∧ curB f0 g1 := by
  obtain ⟨h0, h1, h2⟩ := h
  unfold spec_l01Byte.f
  by_cases c : f1 < (f0.length : Int)
  · rw [if_pos c, if_pos h0]
    have hw : wrap64 (f1 + 1) = f1 + 1 := w64_id (by omega) (by omega)
    exact ⟨_, _, _, rfl, (and_255 _).1, (and_255 _).2, by rw [hw]; omega, by rw [hw]; omega, h2⟩
  · rw [if_neg c]
    exact ⟨_, _, _, rfl, (and_255 _).1, (and_255 _).2, h0, h1, h2⟩
theorem below_ex (f0 : List Int) (f1 f2 n : Int) (h : curB f0 f1) (h0 : 1 ≤ n) (h1 : n ≤ 256) : ∃ b g1 g2, spec_l01Below.f f0 f1 f2 n = some (b, g1, g2) ∧ 0 ≤ b ∧ b < n ∧ curB f0 g1 := by
  obtain ⟨b, g1, g2, hb, b0, b1, hc⟩ := byte_ex f0 f1 f2 h
  unfold spec_l01Below.f
  rw [if_neg (by omega), if_pos h1, hb, Option.bind_some, if_neg (by omega)]
  refine ⟨_, _, _, rfl, ?_, ?_, hc⟩
  · exact Int.tmod_nonneg _ b0
  · exact Int.tmod_lt_of_pos _ (by omega)
theorem new_at (rest : List Int) : ∀ (pre : List Int) (h : Int), (pre ++ rest).length ≤ 1048576 →
    ∃ r, Ev (fun k => spec_l01New.l0 k (pre ++ rest) h (pre.length : Int)) (pre ++ rest, 0, r) := by
  induction rest with
  | nil =>
    intro pre h hb
    refine ⟨h, Ev.step (f := fun _ => some (pre ++ [], 0, h)) (fun k => ?_) (Ev.now _)⟩
    show spec_l01New.l0 (k + 1) _ h _ = _
    rw [spec_l01New.l0, if_neg (mid_nlt _)]
  | cons x rest ih =>
    intro pre h hb
    by_cases c : (pre.length : Int) < 4000
    · obtain ⟨r, hr⟩ := ih (pre ++ [x]) (Go.bits .and .i64 (wrap64 ((wrap64 ((wrap64 (h * 101)) + (wrap64 x))) + 7)) 1073741823) (by simpa using hb)
      rw [← mid_cons, ← mid_succ pre x (by simp at hb; omega)] at hr
      refine ⟨r, Ev.step (fun k => ?_) hr⟩
      show spec_l01New.l0 (k + 1) _ h _ = _
      rw [spec_l01New.l0, if_pos (mid_lt _ _ _), if_pos c, if_pos (nn _), mid_rd]
    · refine ⟨h, Ev.step (f := fun _ => some (pre ++ x :: rest, 0, h)) (fun k => ?_) (Ev.now _)⟩
      show spec_l01New.l0 (k + 1) _ h _ = _
      rw [spec_l01New.l0, if_pos (mid_lt _ _ _), if_neg c]
theorem new_ev (l : List Int) (hb : l.length ≤ 1048576) : ∃ r, Ev (fun k => spec_l01New.f k l) (l, 0, r) := new_at l [] _ hb
theorem l23_at (f0 : List Int) (n : Nat) : ∀ (i : Int) (a f1 f2 : Int), i + n = a → 0 ≤ i → a ≤ 1048576 → curB f0 f1 →
    ∃ g1 g2, Ev (fun k => spec_l23New.l0 k a f0 f1 f2 i) (f0, g1, g2) ∧ curB f0 g1 := by
  induction n with
  | zero =>
    intro i a f1 f2 hn hi ha h
    refine ⟨f1, f2, Ev.step (f := fun _ => some (f0, f1, f2)) (fun k => ?_) (Ev.now _), h⟩
    show spec_l23New.l0 (k + 1) a f0 f1 f2 i = _
    rw [spec_l23New.l0, if_neg (by omega)]
  | succ n ih =>
    intro i a f1 f2 hn hi ha h
    obtain ⟨b, g1, g2, hb, _, _, hc⟩ := byte_ex f0 f1 f2 h
    obtain ⟨e1, e2, he, hf⟩ := ih (i + 1) a g1 g2 (by omega) (by omega) ha hc
    refine ⟨e1, e2, Ev.step (fun k => ?_) he, hf⟩
    show spec_l23New.l0 (k + 1) a f0 f1 f2 i = _
    rw [spec_l23New.l0, if_pos (by omega), hb, Option.bind_some, w64_id (by omega) (by omega)]
theorem l23_ev (l : List Int) (a : Int) (hb : l.length ≤ 1048576) (h0 : 0 ≤ a) (h1 : a ≤ 1048576) : ∃ g1 g2, Ev (fun k => spec_l23New.f k l a) (l, g1, g2) ∧ curB l g1 := by
  obtain ⟨r, hr⟩ := new_ev l hb
  obtain ⟨g1, g2, hg, hc⟩ := l23_at l a.toNat 0 a 0 r (by omega) (by omega) h1 ⟨by omega, by omega, hb⟩
  unfold spec_l23New.f
  exact ⟨g1, g2, Ev.bind hr hg, hc⟩
theorem num_ev (l : List Int) (a : Int) (hb : l.length ≤ 1048576) (h0 : 0 ≤ a) (h1 : a ≤ 1048576) : ∃ v, Ev (fun k => spec_MakeNum.f k l a) v ∧ 0 ≤ v ∧ v ≤ 65535 := by
  obtain ⟨g1, g2, hg, hc⟩ := l23_ev l a hb h0 h1
  obtain ⟨b, c1, c2, hb1, b0, b1, hc1⟩ := byte_ex l g1 g2 hc
  obtain ⟨d, e1, e2, hd1, d0, d1, hc2⟩ := byte_ex l c1 c2 hc1
  refine ⟨b * 256 + d, ?_, by omega, by omega⟩
  unfold spec_MakeNum.f
  refine Ev.bind hg ?_
  simp only [hb1, hd1, Option.bind_some]
  rw [w64_id (show -9223372036854775808 ≤ b * 256 by omega) (by omega), w64_id (by omega) (by omega)]
  exact Ev.now _
end Go.Proofs.Ytlobampnikhmnaa.F
end
section
/- Shuffled packets: a permutation of the numbers below n, some of which are turned over. -/
namespace Go.Proofs.Ytlobampnikhmnaa.F
open Go.RowKit Go.Proofs.YtlobampnikhmnaaW.PrintWords Go.Proofs.YtlobampnikhmnaaW.PrintLast Go.Proofs.YtlobampnikhmnaaW.PrintMore
set_option linter.unusedVariables false
set_option linter.unusedSimpArgs false
theorem seqFrom_snoc (n : Nat) : ∀ a : Int, seqFrom a (n + 1) = seqFrom a n ++ [a + n] := by
  induction n with
  | zero => intro a; simp [seqFrom]
  | succ n ih =>
    intro a
    rw [show seqFrom a (n + 1 + 1) = a :: seqFrom (a + 1) (n + 1) from rfl, ih (a + 1), show seqFrom a (n + 1) = a :: seqFrom (a + 1) n from rfl]
    simp
    omega
theorem swap_perm (x : List Int) (j : Nat) (hj : j < x.length) (v : Int) : (x.set j v ++ [x.getD j 0]).Perm (x ++ [v]) := by
  have e : x = x.take j ++ x.getD j 0 :: x.drop (j + 1) := by
    rw [List.getD_eq_getElem?_getD, List.getElem?_eq_getElem hj]
    simp
  have e2 : x.set j v = x.take j ++ v :: x.drop (j + 1) := List.set_eq_take_append_cons_drop.trans (by rw [if_pos hj])
  rw [e2]
  conv => rhs; rw [e]
  generalize x.getD j 0 = a
  generalize x.take j = p
  generalize x.drop (j + 1) = q
  rw [List.append_assoc, List.append_assoc, List.cons_append, List.cons_append]
  refine List.Perm.append_left p ?_
  have h1 : (v :: (q ++ [a])).Perm (v :: a :: q) := (List.perm_append_singleton a q).cons v
  have h2 : (a :: (q ++ [v])).Perm (a :: v :: q) := (List.perm_append_singleton v q).cons a
  exact h1.trans ((List.Perm.swap a v q).trans h2.symm)
theorem shuffle_at (f0 : List Int) (m : Nat) : ∀ (n : Nat) (x : List Int) (f1 f2 : Int), n + m ≤ 256 → x.Perm (seqFrom 0 n) → curB f0 f1 →
    ∃ r g1 g2, Ev (fun k => spec_l02Shuffle.l0 k ((n + m : Nat) : Int) x (n : Int) f0 f1 f2) (r, g1, g2) ∧ r.Perm (seqFrom 0 (n + m)) ∧ curB f0 g1 := by
  induction m with
  | zero =>
    intro n x f1 f2 hb hp hc
    refine ⟨x, f1, f2, Ev.step (f := fun _ => some (x, f1, f2)) (fun k => ?_) (Ev.now _), hp, hc⟩
    show spec_l02Shuffle.l0 (k + 1) _ x _ f0 f1 f2 = _
    rw [spec_l02Shuffle.l0, if_neg (by omega)]
  | succ m ih =>
    intro n x f1 f2 hb hp hc
    have hlen : x.length = n := by rw [hp.length_eq, seqFrom_length]
    obtain ⟨b, g1, g2, hbl, b0, b1, hcg⟩ := below_ex f0 f1 f2 ((n : Int) + 1) hc (by omega) (by omega)
    obtain ⟨j, rfl⟩ := Int.eq_ofNat_of_zero_le b0
    have hw : wrap64 ((n : Int) + 1) = (n : Int) + 1 := w64_id (by omega) (by omega)
    have hnew : (((x ++ [(n : Int)]).set n (rd (x ++ [(n : Int)]) (j : Int))).set j (n : Int)).Perm (seqFrom 0 (n + 1)) := by
      rw [seqFrom_snoc, Int.zero_add]
      by_cases e : j = n
      · subst e
        have e1 : rd (x ++ [(j : Int)]) (j : Int) = (j : Int) := by
          have := mid_rd x (j : Int) []
          rwa [hlen] at this
        rw [e1]
        have e2 : ((x ++ [(j : Int)]).set j (j : Int)) = x ++ [(j : Int)] := by
          have := mid_set x (j : Int) (j : Int) []
          rw [hlen, Int.toNat_natCast] at this
          simpa using this
        rw [e2, e2]
        exact hp.append_right _
      · have hj : j < x.length := by omega
        have e1 : rd (x ++ [(n : Int)]) (j : Int) = x.getD j 0 := by
          unfold rd
          simp [List.getD_eq_getElem?_getD, List.getElem?_append_left hj]
        have e2 : ((x ++ [(n : Int)]).set n (x.getD j 0)) = x ++ [x.getD j 0] := by
          have := mid_set x (n : Int) (x.getD j 0) []
          rw [hlen, Int.toNat_natCast] at this
          simpa using this
        rw [e1, e2, List.set_append_left _ _ hj]
        exact (swap_perm x j hj (n : Int)).trans (hp.append_right _)
    obtain ⟨r, e1, e2, he, hr, hc2⟩ := ih (n + 1) _ g1 g2 (by omega) hnew hcg
    refine ⟨r, e1, e2, Ev.step (fun k => ?_) he, by rw [show n + (m + 1) = n + 1 + m by omega]; exact hr, hc2⟩
    show spec_l02Shuffle.l0 (k + 1) _ x _ f0 f1 f2 = _
    have hl2 : ((x ++ [(n : Int)]).length : Int) = (n : Int) + 1 := by rw [List.length_append, hlen]; simp
    rw [spec_l02Shuffle.l0, if_pos (by omega), hw, hbl, Option.bind_some, if_pos (by omega), Option.bind_some, if_pos b0, if_pos (by rw [hl2]; exact b1), if_pos (by omega), if_pos (by rw [hl2]; omega), Int.toNat_natCast, Int.toNat_natCast]
    rw [show ((n + 1 : Nat) : Int) = (n : Int) + 1 by omega, show ((n + (m + 1) : Nat) : Int) = ((n + 1 + m : Nat) : Int) by omega]
theorem shuffle_ev (f0 : List Int) (n : Nat) (f1 f2 : Int) (hn : n ≤ 256) (hc : curB f0 f1) : ∃ r g1 g2, Ev (fun k => spec_l02Shuffle.f k f0 f1 f2 (n : Int)) (r, g1, g2) ∧ r.Perm (seqFrom 0 n) ∧ curB f0 g1 := by
  have h := shuffle_at f0 n 0 [] f1 f2 (by omega) (by simp [seqFrom]) hc
  rw [Nat.zero_add] at h
  exact h
end Go.Proofs.Ytlobampnikhmnaa.F
end
section
/- Packets that are drawn are packets. -/
namespace Go.Proofs.Ytlobampnikhmnaa.F
open Go.RowKit Go.Proofs.YtlobampnikhmnaaW.PrintWords Go.Proofs.YtlobampnikhmnaaW.PrintLast Go.Proofs.YtlobampnikhmnaaW.PrintMore
set_option linter.unusedVariables false
set_option linter.unusedSimpArgs false
theorem mem_seqFrom (n : Nat) : ∀ (a x : Int), x ∈ seqFrom a n ↔ a ≤ x ∧ x < a + n := by
  induction n with
  | zero =>
    intro a x
    simp only [seqFrom, List.not_mem_nil, false_iff]
    omega
  | succ n ih =>
    intro a x
    rw [show seqFrom a (n + 1) = a :: seqFrom (a + 1) n from rfl, List.mem_cons, ih]
    omega
theorem nodup_seqFrom (n : Nat) : ∀ a : Int, (seqFrom a n).Nodup := by
  induction n with
  | zero => intro a; simp [seqFrom]
  | succ n ih =>
    intro a
    rw [show seqFrom a (n + 1) = a :: seqFrom (a + 1) n from rfl, List.nodup_cons, mem_seqFrom]
    exact ⟨by omega, ih _⟩
/-- A packet of the cards below n, turned or not. -/
def drawn (r : List Int) (n : Nat) : Prop := (r.map cardOf).Perm (seqFrom 0 n) ∧ ∀ x ∈ r, -12 ≤ x ∧ x ≤ 11
theorem perm_ev (l : List Int) (a b : Int) (hb : l.length ≤ 1048576) (h0 : 0 ≤ a) (h1 : a ≤ 1048576) (b0 : 1 ≤ b) (b1 : b ≤ 12) : ∃ r, Ev (fun k => spec_MakePerm.f k l a b) r ∧ r.Perm (seqFrom 0 b.toNat) := by
  obtain ⟨g1, g2, hg, hc⟩ := l23_ev l a hb h0 h1
  have hm : mx 1 (mn b 12) = ((b.toNat : Nat) : Int) := by unfold mx mn; repeat' split <;> omega
  obtain ⟨r, e1, e2, he, hd, _⟩ := shuffle_ev l b.toNat g1 g2 (by omega) hc
  refine ⟨r, ?_, hd⟩
  unfold spec_MakePerm.f
  rw [hm]
  exact Ev.bind hg (Ev.bind he (Ev.now _))
end Go.Proofs.Ytlobampnikhmnaa.F
end
section
/- Piles by their indices: what a round does is natural in the packet. -/
namespace Go.Proofs.Ytlobampnikhmnaa.F
open Go.RowKit Go.Proofs.YtlobampnikhmnaaW.PrintWords Go.Proofs.YtlobampnikhmnaaW.PrintLast Go.Proofs.YtlobampnikhmnaaW.PrintMore
set_option linter.unusedVariables false
set_option linter.unusedSimpArgs false
def pilesN (n q : Nat) : List (List Nat) := (List.range q).map fun j => ((List.range n).filter fun i => i % q == j).reverse
def idxN (a : Nat) : List (List Nat) → Int → Int
  | [], _ => -1
  | x :: xs, i => if x.contains a then i else idxN a xs (i + 1)
def outN (q s a pl : Nat) : List Nat := (ordAt (pilesN (q * s) q) (a % q) pl).flatten
def chkN (q s a pl : Nat) : Bool := (idxN a (pilesN (q * s) q) 0 == ((a % q : Nat) : Int)) && ((outN q s a pl).isPerm (List.range (q * s)) && (decide (pl * s + s - 1 - a / q < q * s) && (((outN q s a pl).getD (pl * s + s - 1 - a / q) 0 == a) && (idxFrom (fun y => y == (a : Int)) ((outN q s a pl).map fun i : Nat => (i : Int)) 0 == ((pl * s + s - 1 - a / q : Nat) : Int)))))
def chkAll : Bool := (List.range 5).all fun q => (List.range 7).all fun s => (!(decide (2 ≤ q) && (decide (1 ≤ s) && decide (q * s ≤ 12)))) || (List.range (q * s)).all fun a => (List.range q).all fun pl => chkN q s a pl
theorem chkAll_true : chkAll = true := by decide +kernel
theorem chkN_true (q s a pl : Nat) (h1 : 2 ≤ q) (h2 : q ≤ 4) (h3 : 1 ≤ s) (h4 : q * s ≤ 12) (h5 : a < q * s) (h6 : pl < q) : chkN q s a pl = true := by
  have h := chkAll_true
  unfold chkAll at h
  rw [List.all_eq_true] at h
  have hs : s ≤ 6 := by
    rcases (show q = 2 ∨ q = 3 ∨ q = 4 by omega) with rfl | rfl | rfl <;> omega
  have h7 := h q (List.mem_range.2 (by omega))
  rw [List.all_eq_true] at h7
  have h8 := h7 s (List.mem_range.2 (by omega))
  rw [decide_eq_true h1, decide_eq_true h3, decide_eq_true h4] at h8
  simp only [Bool.and_self, Bool.not_true, Bool.false_or] at h8
  rw [List.all_eq_true] at h8
  have h9 := h8 a (List.mem_range.2 h5)
  rw [List.all_eq_true] at h9
  exact h9 pl (List.mem_range.2 h6)
theorem dealtN (q s : Nat) (p : List Int) (h1 : 2 ≤ q) (h2 : q ≤ 4) (h3 : 1 ≤ s) (h4 : q * s ≤ 12) (hl : p.length = q * s) : dealtR p (q : Int) ((pilesN (q * s) q).map fun I => I.map fun i => p.getD i 0) := by
  rcases (show q = 2 ∨ q = 3 ∨ q = 4 by omega) with rfl | rfl | rfl
  · rcases (show s = 1 ∨ s = 2 ∨ s = 3 ∨ s = 4 ∨ s = 5 ∨ s = 6 by omega) with rfl | rfl | rfl | rfl | rfl | rfl
    · obtain ⟨x0, x1, rfl⟩ := len_2 p hl
      exact deal_2_2 x0 x1
    · obtain ⟨x0, x1, x2, x3, rfl⟩ := len_4 p hl
      exact deal_4_2 x0 x1 x2 x3
    · obtain ⟨x0, x1, x2, x3, x4, x5, rfl⟩ := len_6 p hl
      exact deal_6_2 x0 x1 x2 x3 x4 x5
    · obtain ⟨x0, x1, x2, x3, x4, x5, x6, x7, rfl⟩ := len_8 p hl
      exact deal_8_2 x0 x1 x2 x3 x4 x5 x6 x7
    · obtain ⟨x0, x1, x2, x3, x4, x5, x6, x7, x8, x9, rfl⟩ := len_10 p hl
      exact deal_10_2 x0 x1 x2 x3 x4 x5 x6 x7 x8 x9
    · obtain ⟨x0, x1, x2, x3, x4, x5, x6, x7, x8, x9, x10, x11, rfl⟩ := len_12 p hl
      exact deal_12_2 x0 x1 x2 x3 x4 x5 x6 x7 x8 x9 x10 x11
  · rcases (show s = 1 ∨ s = 2 ∨ s = 3 ∨ s = 4 by omega) with rfl | rfl | rfl | rfl
    · obtain ⟨x0, x1, x2, rfl⟩ := len_3 p hl
      exact deal_3_3 x0 x1 x2
    · obtain ⟨x0, x1, x2, x3, x4, x5, rfl⟩ := len_6 p hl
      exact deal_6_3 x0 x1 x2 x3 x4 x5
    · obtain ⟨x0, x1, x2, x3, x4, x5, x6, x7, x8, rfl⟩ := len_9 p hl
      exact deal_9_3 x0 x1 x2 x3 x4 x5 x6 x7 x8
    · obtain ⟨x0, x1, x2, x3, x4, x5, x6, x7, x8, x9, x10, x11, rfl⟩ := len_12 p hl
      exact deal_12_3 x0 x1 x2 x3 x4 x5 x6 x7 x8 x9 x10 x11
  · rcases (show s = 1 ∨ s = 2 ∨ s = 3 by omega) with rfl | rfl | rfl
    · obtain ⟨x0, x1, x2, x3, rfl⟩ := len_4 p hl
      exact deal_4_4 x0 x1 x2 x3
    · obtain ⟨x0, x1, x2, x3, x4, x5, x6, x7, rfl⟩ := len_8 p hl
      exact deal_8_4 x0 x1 x2 x3 x4 x5 x6 x7
    · obtain ⟨x0, x1, x2, x3, x4, x5, x6, x7, x8, x9, x10, x11, rfl⟩ := len_12 p hl
      exact deal_12_4 x0 x1 x2 x3 x4 x5 x6 x7 x8 x9 x10 x11
/-- A packet of the cards 0 to n - 1, and its places. -/
structure PlainP (p : List Int) (n : Nat) : Prop where
  len : p.length = n
  rng : ∀ i, i < n → 0 ≤ p.getD i 0 ∧ p.getD i 0 < 12
  inj : ∀ i j, i < n → j < n → p.getD i 0 = p.getD j 0 → i = j
theorem plain_list {p : List Int} {n : Nat} (h : PlainP p n) : p = (List.range n).map fun i => p.getD i 0 := by
  apply List.ext_getElem
  · simp [h.len]
  · intro i h1 h2
    simp [h1]
theorem has_iff {p : List Int} {n : Nat} (h : PlainP p n) (I : List Nat) (hI : ∀ i ∈ I, i < n) (a : Nat) (ha : a < n) : pileHas (p.getD a 0) (I.map fun i => p.getD i 0) = I.contains a := by
  have hq : ∀ x ∈ I.map (fun i => p.getD i 0), -9223372036854775808 ≤ x := fun x hx => by
    obtain ⟨i, hi, rfl⟩ := List.mem_map.1 hx
    have := h.rng i (hI i hi); omega
  rw [pileHas_eq _ _ hq]
  unfold posB
  rw [if_neg (by have := h.rng a ha; omega)]
  have h2 := idx_lt (p.getD a 0) (I.map fun i => p.getD i 0) 0 (by omega)
  have h3 : hasCard (I.map fun i => p.getD i 0) (p.getD a 0) = I.contains a := by
    unfold hasCard
    rw [List.any_map, Bool.eq_iff_iff, List.any_eq_true, List.contains_iff_mem]
    constructor
    · rintro ⟨i, hi, e⟩
      have e2 : cardOf (p.getD i 0) = p.getD a 0 := by simpa using e
      rw [cardOf_self _ (h.rng i (hI i hi)).1 (h.rng i (hI i hi)).2] at e2
      rw [← h.inj i a (hI i hi) ha e2]; exact hi
    · intro ha2
      exact ⟨a, ha2, beq_iff_eq.2 (cardOf_self _ (h.rng a ha).1 (h.rng a ha).2)⟩
  rw [← h3]
  by_cases c : idxFrom (fun x => cardOf x == p.getD a 0) (I.map fun i => p.getD i 0) 0 < 0
  · rw [decide_eq_true c] at h2
    rw [decide_eq_false (by omega)]
    cases hh : hasCard (I.map fun i => p.getD i 0) (p.getD a 0) <;> simp_all
  · rw [decide_eq_false c] at h2
    rw [decide_eq_true (by omega)]
    cases hh : hasCard (I.map fun i => p.getD i 0) (p.getD a 0) <;> simp_all
theorem idx_nat {p : List Int} {n : Nat} (h : PlainP p n) (a : Nat) (ha : a < n) (L : List (List Nat)) : ∀ i : Int, (∀ I ∈ L, ∀ j ∈ I, j < n) → idxFromL (pileHas (p.getD a 0)) (L.map fun I => I.map fun i => p.getD i 0) i = idxN a L i := by
  induction L with
  | nil => intro i _; rfl
  | cons I L ih =>
    intro i hL
    rw [List.map_cons]
    unfold idxFromL idxN
    rw [has_iff h I (hL I List.mem_cons_self) a ha, ih (i + 1) (fun J hJ => hL J (List.mem_cons_of_mem _ hJ))]
theorem pilesN_lt (n q : Nat) : ∀ I ∈ pilesN n q, ∀ j ∈ I, j < n := by
  intro I hI j hj
  unfold pilesN at hI
  obtain ⟨i, _, rfl⟩ := List.mem_map.1 hI
  rw [List.mem_reverse, List.mem_filter] at hj
  exact List.mem_range.1 hj.1
theorem flat_map (f : Nat → Int) (L : List (List Nat)) : (L.map fun I => I.map f).flatten = L.flatten.map f := by
  rw [List.map_flatten]
theorem pilesN_len (n q : Nat) : (pilesN n q).length = q := by unfold pilesN; simp
/-- One round, by indices. -/
theorem round_nat {p : List Int} {q s : Nat} (h : PlainP p (q * s)) (h1 : 2 ≤ q) (h2 : q ≤ 4) (h3 : 1 ≤ s) (h4 : q * s ≤ 12) (a pl : Nat) (ha : a < q * s) (hp : pl < q) :
    packetB p = true ∧ Ev (fun k => impl_PilesOf.f k p (q : Int)) ((pilesN (q * s) q).map fun I => I.map fun i => p.getD i 0) ∧
    Ev (fun k => impl_GatherPiles.f k ((pilesN (q * s) q).map fun I => I.map fun i => p.getD i 0) ((a % q : Nat) : Int) (pl : Int)) ((outN q s a pl).map fun i => p.getD i 0, true) ∧
    Ev (fun k => impl_PileRound.f k p (q : Int) (p.getD a 0) (pl : Int)) ((outN q s a pl).map fun i => p.getD i 0, true) ∧ packetB ((outN q s a pl).map fun i => p.getD i 0) = true ∧ ((outN q s a pl).map fun i => p.getD i 0).Perm p := by
  have hc := chkN_true q s a pl h1 h2 h3 h4 ha hp
  unfold chkN at hc
  simp only [Bool.and_eq_true, beq_iff_eq, decide_eq_true_eq] at hc
  obtain ⟨hidx, hperm, _⟩ := hc
  have hpm : (outN q s a pl).Perm (List.range (q * s)) := List.isPerm_iff.1 hperm
  have hdl := dealtN q s p h1 h2 h3 h4 h.len
  obtain ⟨d1, d2, d3, d4, d5⟩ := hdl
  have hpp : ((outN q s a pl).map fun i => p.getD i 0).Perm p := by
    have e := plain_list h
    have := hpm.map fun i => p.getD i 0
    rw [← e] at this
    exact this
  have hw : ∀ x ∈ p, 0 ≤ x ∧ x < 12 := fun x hx => by
    rw [plain_list h] at hx
    obtain ⟨i, hi, rfl⟩ := List.mem_map.1 hx
    exact h.rng i (List.mem_range.1 hi)
  have hpk : packetB p = true := by
    rw [packetB_iff]
    refine ⟨fun x hx => by rw [cardOf_self x (hw x hx).1 (hw x hx).2]; exact (hw x hx).1, ?_⟩
    have e1 : p.map cardOf = p := by
      conv => rhs; rw [← List.map_id p]
      exact List.map_congr_left (fun x hx => cardOf_self x (hw x hx).1 (hw x hx).2)
    rw [e1, plain_list h]
    rw [List.nodup_iff_pairwise_ne, List.pairwise_map]
    refine List.Pairwise.imp_of_mem ?_ (List.nodup_iff_pairwise_ne.1 (List.nodup_range (n := q * s)))
    intro i j hi hj hne e
    exact hne (h.inj i j (List.mem_range.1 hi) (List.mem_range.1 hj) e)
  have hpk2 : packetB ((outN q s a pl).map fun i => p.getD i 0) = true := packetB_perm (hpp.map _) hpk
  have hpb : pilesB (p.length : Int) (q : Int) = true := by
    rw [pilesB_iff, h.len]
    refine ⟨⟨by omega, by omega, ?_, by omega⟩, ?_⟩
    · have : q * 1 ≤ q * s := Nat.mul_le_mul_left q h3
      omega
    · rw [← Int.ofNat_tmod, Nat.mul_mod_right]; rfl
  have E1 : Ev (fun k => impl_PilesOf.f k p (q : Int)) ((pilesN (q * s) q).map fun I => I.map fun i => p.getD i 0) := by
    unfold impl_PilesOf.f
    refine Ev.bind (impl_PacketOk_ev p (by have := h.len; omega) (fun x hx => by have := hw x hx; omega)) ?_
    simp only [hpk, if_true, impl_PilesOk_eq, hpb, Option.bind_some, Bool.not_true]
    exact Ev.at_ 60 (fun k hk => by obtain ⟨m, rfl⟩ := Nat.exists_eq_add_of_le' hk; exact d2 m)
  have eB : gatherB ((pilesN (q * s) q).map fun I => I.map fun i => p.getD i 0) ((a % q : Nat) : Int) (pl : Int) = ((outN q s a pl).map fun i => p.getD i 0, true) := by
    unfold gatherB
    have hmod : a % q < q := Nat.mod_lt _ (by omega)
    rw [if_pos (by rw [List.length_map, pilesN_len]; omega), Int.toNat_natCast, Int.toNat_natCast, ordAt_map, flat_map]
    exact if_pos hpk2
  have hmem : ∀ x ∈ (pilesN (q * s) q).map (fun I => I.map fun i => p.getD i 0), ∀ y ∈ x, -9223372036854775808 ≤ y := fun x hx y hy => by
    obtain ⟨I, hI, rfl⟩ := List.mem_map.1 hx
    obtain ⟨i, hi, rfl⟩ := List.mem_map.1 hy
    have := h.rng i (pilesN_lt _ _ I hI i hi); omega
  have E2 := impl_gather_ev ((pilesN (q * s) q).map fun I => I.map fun i => p.getD i 0) ((a % q : Nat) : Int) (pl : Int) (fun x hx => by have := d4 x hx; omega) hmem
  rw [eB] at E2
  have hix : idxFromL (pileHas (p.getD a 0)) ((pilesN (q * s) q).map fun I => I.map fun i => p.getD i 0) 0 = ((a % q : Nat) : Int) := by
    rw [idx_nat h a ha _ 0 (pilesN_lt _ _)]; exact hidx
  refine ⟨hpk, E1, E2, ?_, hpk2, hpp⟩
  unfold impl_PileRound.f
  refine Ev.bind E1 ?_
  rw [hix]
  simp only [if_neg (show ¬ (((a % q : Nat) : Int) < 0) by omega)]
  exact E2
end Go.Proofs.Ytlobampnikhmnaa.F
end
section
/- FnPiles: every size, every number of piles, every card, every place. -/
namespace Go.Proofs.Ytlobampnikhmnaa.Pure
open Go.RowKit Go.Proofs.Ytlobampnikhmnaa.F Go.Proofs.YtlobampnikhmnaaW.PrintWords Go.Proofs.YtlobampnikhmnaaW.PrintLast Go.Proofs.YtlobampnikhmnaaW.PrintMore
set_option linter.unusedVariables false
set_option linter.unusedSimpArgs false
theorem psame_at (rest : List Int) : ∀ (pre : List Int), (pre ++ rest).length ≤ 1048576 → Ev (fun k => laws_same.l0 k (pre ++ rest) (pre ++ rest) ((pre ++ rest).length : Int) (pre.length : Int)) true := by
  induction rest with
  | nil =>
    intro pre hb
    refine Ev.step (f := fun _ => some true) (fun k => ?_) (Ev.now _)
    show laws_same.l0 (k + 1) _ _ _ _ = _
    rw [laws_same.l0, if_neg (mid_nlt _)]
  | cons x rest ih =>
    intro pre hb
    have h := ih (pre ++ [x]) (by simpa using hb)
    rw [← mid_cons, ← mid_succ pre x (by simp at hb; omega)] at h
    refine Ev.step (fun k => ?_) h
    show laws_same.l0 (k + 1) _ _ _ _ = _
    rw [laws_same.l0, if_pos (mid_lt _ _ _), if_pos (nn _), if_pos (mid_lt _ _ _), if_pos (mid_lt _ _ _), if_pos rfl]
theorem psame_self (l : List Int) (hb : l.length ≤ 1048576) : Ev (fun k => laws_same.f k l l) true := by
  unfold laws_same.f
  simp only [if_true]
  exact psame_at l [] hb
theorem plain_seq (n : Nat) (hn : n ≤ 12) : PlainP (seqFrom 0 n) n ∧ ∀ i, i < n → (seqFrom 0 n).getD i 0 = (i : Int) := by
  have h : ∀ (m : Nat) (a : Int) (i : Nat), i < m → (seqFrom a m).getD i 0 = a + i := by
    intro m
    induction m with
    | zero => intro a i hi; omega
    | succ m ih =>
      intro a i hi
      cases i with
      | zero => simp [seqFrom]
      | succ i =>
        have := ih (a + 1) i (by omega)
        simp only [seqFrom, List.getD_cons_succ, this]
        omega
  have h2 : ∀ i, i < n → (seqFrom 0 n).getD i 0 = (i : Int) := fun i hi => by rw [h n 0 i hi]; omega
  refine ⟨⟨seqFrom_length n 0, fun i hi => by rw [h2 i hi]; omega, fun i j hi hj e => by rw [h2 i hi, h2 j hj] at e; omega⟩, h2⟩
theorem plain_perm {p : List Int} {n : Nat} (hp : p.Perm (seqFrom 0 n)) (hn : n ≤ 12) : PlainP p n := by
  have hl : p.length = n := by rw [hp.length_eq, seqFrom_length]
  have hnd : p.Nodup := hp.nodup_iff.2 (nodup_seqFrom n 0)
  refine ⟨hl, fun i hi => ?_, fun i j hi hj e => ?_⟩
  · have hm : p.getD i 0 ∈ p := by rw [List.getD_eq_getElem?_getD, List.getElem?_eq_getElem (by omega)]; exact List.getElem_mem _
    have := (mem_seqFrom n 0 _).1 (hp.mem_iff.1 hm)
    omega
  · rw [List.getD_eq_getElem?_getD, List.getD_eq_getElem?_getD, List.getElem?_eq_getElem (by omega), List.getElem?_eq_getElem (by omega)] at e
    exact (List.getElem_inj hnd).1 e
theorem indexAfter_nat (q s a pl : Nat) (h1 : 2 ≤ q) (h2 : q ≤ 4) (h3 : 1 ≤ s) (h4 : q * s ≤ 12) (ha : a < q * s) (hp : pl < q) :
    Ev (fun k => impl_IndexAfter.f k ((q * s : Nat) : Int) (q : Int) (a : Int) (pl : Int)) ((pl * s + s - 1 - a / q : Nat) : Int) := by
  obtain ⟨hP, hid⟩ := plain_seq (q * s) h4
  obtain ⟨_, _, _, E, _, _⟩ := round_nat hP h1 h2 h3 h4 a pl ha hp
  rw [hid a ha] at E
  have hc := chkN_true q s a pl h1 h2 h3 h4 ha hp
  unfold chkN at hc
  simp only [Bool.and_eq_true, beq_iff_eq, decide_eq_true_eq] at hc
  obtain ⟨_, hperm, _, _, hfin⟩ := hc
  have hpm : (outN q s a pl).Perm (List.range (q * s)) := List.isPerm_iff.1 hperm
  have hmap : (outN q s a pl).map (fun i => (seqFrom 0 (q * s)).getD i 0) = (outN q s a pl).map fun i : Nat => (i : Int) := List.map_congr_left (fun i hi => hid i (List.mem_range.1 (hpm.mem_iff.1 hi)))
  rw [hmap] at E
  have hlen : (outN q s a pl).length = q * s := by rw [hpm.length_eq, List.length_range]
  have hpb : pilesB ((q * s : Nat) : Int) (q : Int) = true := by
    rw [pilesB_iff]
    refine ⟨⟨by omega, by omega, ?_, by omega⟩, ?_⟩
    · have : q * 1 ≤ q * s := Nat.mul_le_mul_left q h3
      omega
    · rw [← Int.ofNat_tmod, Nat.mul_mod_right]; rfl
  obtain ⟨u1, _⟩ := upTo_ev ((q * s : Nat) : Int) (by omega) (by omega)
  rw [Int.toNat_natCast] at u1
  unfold impl_IndexAfter.f
  simp only [impl_PilesOk_eq, hpb, Option.bind_some, if_true]
  simp only [if_neg (show ¬ ((a : Int) < 0) by omega), decide_eq_false (show ¬ ((a : Int) ≥ ((q * s : Nat) : Int)) by omega)]
  refine Ev.step (fun k => by rw [impl_IndexAfter.j0, if_neg (by decide)]) ?_
  refine Ev.bind u1 (Ev.bind E ?_)
  simp only [if_true]
  rw [← hfin]
  exact Ev.bind (index_idx (a : Int) ((outN q s a pl).map fun i : Nat => (i : Int)) [] (by simp; omega)) (Ev.now _)
theorem arr_perm {p q : List Int} (hp : packetB p = true) (hq : packetB q = true) (h : q.Perm p) : arrB p q = true := by
  unfold arrB
  rw [hp, hq, Bool.true_and, Bool.true_and, decide_eq_true h.length_eq.symm, Bool.true_and, List.all_eq_true]
  intro x hx
  unfold hasCard
  rw [List.any_eq_true]
  exact ⟨x, h.mem_iff.2 hx, beq_self_eq_true _⟩
theorem makePiles_ev (l : List Int) (hb : l.length ≤ 1048576) : ∃ q s : Nat, Ev (fun k => spec_MakePiles.f k l) (((q * s : Nat) : Int), (q : Int)) ∧ 2 ≤ q ∧ q ≤ 4 ∧ 1 ≤ s ∧ q * s ≤ 12 := by
  obtain ⟨r, hn⟩ := new_ev l hb
  have hc0 : curB l 0 := ⟨by omega, by omega, hb⟩
  obtain ⟨b, g1, g2, e1, b0, b1, hc1⟩ := below_ex l 0 r 3 hc0 (by omega) (by omega)
  have hb3 : b = 0 ∨ b = 1 ∨ b = 2 := by omega
  have main : ∀ (qq : Nat), (qq : Int) = 2 + b → ∀ m : Int, 12 / (2 + b) = m → 1 ≤ m → m ≤ 6 → (∀ s : Nat, (s : Int) ≤ m → 1 ≤ s → qq * s ≤ 12) → 2 ≤ qq → qq ≤ 4 → ∃ q s : Nat, Ev (fun k => spec_MakePiles.f k l) (((q * s : Nat) : Int), (q : Int)) ∧ 2 ≤ q ∧ q ≤ 4 ∧ 1 ≤ s ∧ q * s ≤ 12 := by
    intro qq hqq m hm m1 m6 hall q2 q4
    obtain ⟨d, g3, g4, e2, d0, d1, _⟩ := below_ex l g1 g2 m hc1 m1 (by omega)
    obtain ⟨dn, rfl⟩ := Int.eq_ofNat_of_zero_le d0
    refine ⟨qq, dn + 1, ?_, q2, q4, by omega, hall (dn + 1) (by omega) (by omega)⟩
    unfold spec_MakePiles.f
    refine Ev.bind hn ?_
    simp only [e1, Option.bind_some, hm, e2]
    rw [if_pos ⟨b0, by omega, by omega, by omega⟩]
    have ee : (2 + b) * (1 + (dn : Int)) = ((qq * (dn + 1) : Nat) : Int) := by rw [← hqq]; push_cast; rw [Int.add_comm 1]
    rw [ee, ← hqq]
    exact Ev.now _
  rcases hb3 with rfl | rfl | rfl
  · exact main 2 rfl 6 rfl (by omega) (by omega) (fun s h1 h2 => by omega) (by omega) (by omega)
  · exact main 3 rfl 4 rfl (by omega) (by omega) (fun s h1 h2 => by omega) (by omega) (by omega)
  · exact main 4 rfl 3 rfl (by omega) (by omega) (fun s h1 h2 => by omega) (by omega) (by omega)
theorem pl_words (pl s d : Nat) (hs : s ≤ 12) (hps : pl * s ≤ 48) (hd : d < s) : wrap64 (s : Int) = (s : Int) ∧ wrap64 ((pl : Int) * (s : Int)) = ((pl * s : Nat) : Int) ∧ wrap64 (((pl * s : Nat) : Int) + (s : Int)) = ((pl * s + s : Nat) : Int) ∧
    wrap64 (((pl * s + s : Nat) : Int) - 1) = ((pl * s + s - 1 : Nat) : Int) ∧ wrap64 (d : Int) = (d : Int) ∧ wrap64 (((pl * s + s - 1 : Nat) : Int) - (d : Int)) = ((pl * s + s - 1 - d : Nat) : Int) := by
  have e : (pl : Int) * (s : Int) = ((pl * s : Nat) : Int) := (Int.natCast_mul _ _).symm
  rw [e]
  generalize pl * s = m at hps
  refine ⟨w64_id (by omega) (by omega), w64_id (by omega) (by omega), ?_, ?_, w64_id (by omega) (by omega), ?_⟩
  · rw [w64_id (by omega) (by omega)]; omega
  · rw [w64_id (by omega) (by omega)]; omega
  · rw [w64_id (by omega) (by omega)]; omega
set_option maxHeartbeats 4000000 in
theorem FnPiles : laws_FnPiles.Pure := by
  intro l hm hb hw
  by_cases hbig : (l.length : Int) > 1048576
  · exact ⟨0, by unfold laws_FnPiles.f; rw [if_pos hbig]⟩
  obtain ⟨q, s, hmk, h1, h2, h3, h4⟩ := makePiles_ev l (by omega)
  have hqs : q * 1 ≤ q * s := Nat.mul_le_mul_left q h3
  obtain ⟨p, hp, hperm⟩ := perm_ev l 20 ((q * s : Nat) : Int) (by omega) (by omega) (by omega) (by omega) (by omega)
  rw [Int.toNat_natCast] at hperm
  obtain ⟨v, hv, v0, v1⟩ := num_ev l 40 (by omega) (by omega) (by omega)
  obtain ⟨u, hu, u0, u1⟩ := num_ev l 42 (by omega) (by omega) (by omega)
  obtain ⟨vn, rfl⟩ := Int.eq_ofNat_of_zero_le v0
  obtain ⟨un, rfl⟩ := Int.eq_ofNat_of_zero_le u0
  have hP := plain_perm hperm h4
  have ha : un % (q * s) < q * s := Nat.mod_lt _ (by omega)
  have hpl : vn % q < q := Nat.mod_lt _ (by omega)
  have t1 : Int.tmod (un : Int) ((q * s : Nat) : Int) = ((un % (q * s) : Nat) : Int) := (Int.ofNat_tmod _ _).symm
  have t2 : Int.tmod (vn : Int) (q : Int) = ((vn % q : Nat) : Int) := (Int.ofNat_tmod _ _).symm
  generalize un % (q * s) = a at ha t1
  generalize vn % q = pl at hpl t2
  obtain ⟨hpk, E1, E2, E3, hpk2, hpp⟩ := round_nat hP h1 h2 h3 h4 a pl ha hpl
  have E4 := indexAfter_nat q s a pl h1 h2 h3 h4 ha hpl
  have hc := chkN_true q s a pl h1 h2 h3 h4 ha hpl
  unfold chkN at hc
  simp only [Bool.and_eq_true, beq_iff_eq, decide_eq_true_eq] at hc
  obtain ⟨_, hpm0, hto, hat, _⟩ := hc
  have hpm : (outN q s a pl).Perm (List.range (q * s)) := List.isPerm_iff.1 hpm0
  have hlen : (outN q s a pl).length = q * s := by rw [hpm.length_eq, List.length_range]
  have hrng : ∀ x ∈ p, -9223372036854775808 ≤ x := fun x hx => by
    rw [plain_list hP] at hx
    obtain ⟨i, hi, rfl⟩ := List.mem_map.1 hx
    have := hP.rng i (List.mem_range.1 hi); omega
  have E5 := impl_Arr_ev p ((outN q s a pl).map fun i => p.getD i 0) hrng (fun x hx => hrng x (hpp.mem_iff.1 hx)) (by have := hP.len; omega) (by simp; omega)
  rw [arr_perm hpk hpk2 hpp] at E5
  have E6 := psame_self ((outN q s a pl).map fun i => p.getD i 0) (by simp; omega)
  have hpb : pilesB ((q * s : Nat) : Int) (q : Int) = true := by
    rw [pilesB_iff]
    refine ⟨⟨by omega, by omega, by omega, by omega⟩, ?_⟩
    rw [← Int.ofNat_tmod, Nat.mul_mod_right]; rfl
  have td1 : Int.tdiv ((q * s : Nat) : Int) (q : Int) = (s : Int) := by
    rw [← Int.ofNat_tdiv, Nat.mul_div_cancel_left s (by omega)]
  have td2 : Int.tdiv (a : Int) (q : Int) = ((a / q : Nat) : Int) := (Int.ofNat_tdiv _ _).symm
  have tm3 : Int.tmod (a : Int) (q : Int) = ((a % q : Nat) : Int) := (Int.ofNat_tmod _ _).symm
  have hs12 : s ≤ 12 := by
    have : 1 * s ≤ q * s := Nat.mul_le_mul_right s (by omega)
    omega
  have hps : pl * s ≤ 48 := by
    have : pl * s ≤ 4 * 12 := Nat.mul_le_mul (by omega) hs12
    omega
  have haq : a / q < s := (Nat.div_lt_iff_lt_mul (by omega)).2 (by rw [Nat.mul_comm]; exact ha)
  obtain ⟨w0, w1, w2, w3, w4, w5⟩ := pl_words pl s (a / q) hs12 hps haq
  have hrd : rd ((outN q s a pl).map fun i => p.getD i 0) ((pl * s + s - 1 - a / q : Nat) : Int) = p.getD a 0 := by
    show ((outN q s a pl).map fun i => p.getD i 0).getD (pl * s + s - 1 - a / q) 0 = _
    rw [List.getD_eq_getElem?_getD, List.getElem?_map, List.getElem?_eq_getElem (by omega)]
    rw [List.getD_eq_getElem?_getD, List.getElem?_eq_getElem (by omega)] at hat
    show p.getD (outN q s a pl)[pl * s + s - 1 - a / q] 0 = p.getD a 0
    rw [show (outN q s a pl)[pl * s + s - 1 - a / q] = a from hat]
  have hrp : rd p (a : Int) = p.getD a 0 := rfl
  have main2 : Ev (fun k => laws_FnPiles.f k l) true := by
    unfold laws_FnPiles.f
    simp only [if_neg hbig]
    refine Ev.bind hmk (Ev.bind hp (Ev.bind hv ?_))
    simp only [if_neg (show ¬ (q : Int) = 0 by omega)]
    refine Ev.bind hu ?_
    simp only [if_neg (show ¬ ((q * s : Nat) : Int) = 0 by omega), t1, t2]
    refine Ev.bind E1 ?_
    simp only [if_pos (show (0 : Int) ≤ (a : Int) by omega), if_pos (show (a : Int) < (p.length : Int) by rw [hP.len]; omega), hrp]
    refine Ev.bind E3 (Ev.bind E4 ?_)
    have hl1 : ((((pilesN (q * s) q).map fun I => I.map fun i => p.getD i 0).length : Nat) : Int) = (q : Int) := by rw [List.length_map, pilesN_len]
    have hl2 : ((((outN q s a pl).map fun i => p.getD i 0).length : Nat) : Int) = ((q * s : Nat) : Int) := by rw [List.length_map, hlen]
    simp only [if_true, hl1, hl2, td1, td2, w0, w1, w2, w3, w4, w5, hrd]
    simp only [if_pos (show (0 : Int) ≤ ((pl * s + s - 1 - a / q : Nat) : Int) by omega), if_pos (show ((pl * s + s - 1 - a / q : Nat) : Int) < ((q * s : Nat) : Int) by omega)]
    refine Ev.bind E5 ?_
    refine Ev.step (fun k => by rw [Bool.not_true, laws_FnPiles.j0, if_neg (by decide), if_neg (show ¬ (q : Int) = 0 by omega), tm3]) ?_
    refine Ev.bind E2 ?_
    simp only [if_true]
    refine Ev.bind E6 ?_
    simp only [if_true, impl_PilesOk_eq, hpb, Option.bind_some]
    exact Ev.now _
  exact main2.imp fun K hK => hK K (Nat.le_refl _)
end Go.Proofs.Ytlobampnikhmnaa.Pure
end
