/- When a list is a permutation: the program's and the reference's functions tell one thing. -/
import Derived.Test.YtmgpjhgjcmijbaaF24
import Derived.Test.YtmgpjhgjcmijbaaF27
import Derived.Test.YtmgpjhgjcmijbaaF28
import Derived.Test.YtmgpjhgjcmijbaaF29
import Derived.Test.YtmgpjhgjcmijbaaGCards
import Derived.Test.YtmgpjhgjcmijbaaM
namespace Go.Proofs.Ytmgpjhgjcmijbaa.F
open Go.RowKit Go.Proofs.YtmgpjhgjcmijbaaW.PrintWords Go.Proofs.YtmgpjhgjcmijbaaW.PrintLast Go.Proofs.YtmgpjhgjcmijbaaW.PrintMore
set_option linter.unusedVariables false
set_option linter.unusedSimpArgs false
theorem index_at (x : Int) (rest : List Int) : ∀ (pre : List Int), (pre ++ rest).length ≤ 4611686018427387904 →
    ∃ i : Int, Ev (fun k => slices_Index_int_int.l0 k (pre ++ rest) x ((pre ++ rest).length : Int) (pre.length : Int)) i ∧ (decide (i ≥ 0) = rest.contains x) ∧ -1 ≤ i ∧ (rest.contains x = true → i < (pre ++ rest).length ∧ rd (pre ++ rest) i = x) := by
  induction rest with
  | nil =>
    intro pre hb
    exact ⟨-1, Ev.step (f := fun _ => some (-1)) (fun k => by rw [slices_Index_int_int.l0, if_neg (mid_nlt _)]) (Ev.now _), by simp, by omega, by simp⟩
  | cons y rest ih =>
    intro pre hb
    by_cases e : x = y
    · subst e
      exact ⟨pre.length, Ev.step (f := fun _ => some (pre.length : Int)) (fun k => by rw [slices_Index_int_int.l0, if_pos (mid_lt _ _ _), if_pos (nn _), if_pos (mid_lt _ _ _), mid_rd, if_pos rfl]) (Ev.now _), by simp, by omega, fun _ => ⟨mid_lt _ _ _, mid_rd _ _ _⟩⟩
    · obtain ⟨i, h, h1, h2, h3⟩ := ih (pre ++ [y]) (by simpa using hb)
      rw [← mid_cons] at h h3
      have hc : (y :: rest).contains x = rest.contains x := by simp only [List.contains_cons]; rw [show (x == y) = false by simpa using e]; rfl
      exact ⟨i, Ev.step (fun k => by rw [slices_Index_int_int.l0, if_pos (mid_lt _ _ _), if_pos (nn _), if_pos (mid_lt _ _ _), mid_rd, if_neg e, mid_succ pre y (by simp at hb; omega)]) h, by rw [hc]; exact h1, h2, by rw [hc]; exact h3⟩
theorem index_ev (l : List Int) (x : Int) (hb : l.length ≤ 4611686018427387904) : ∃ i : Int, Ev (fun k => slices_Index_int_int.f k l x) i ∧ (decide (i ≥ 0) = l.contains x) ∧ -1 ≤ i ∧ (l.contains x = true → i < l.length ∧ rd l i = x) := index_at x l [] hb
theorem contains_ev (l : List Int) (x : Int) (hb : l.length ≤ 4611686018427387904) : Ev (fun k => slices_Contains_int_int.f k l x) (l.contains x) := by
  obtain ⟨i, h, h1, _⟩ := index_ev l x hb
  unfold slices_Contains_int_int.f
  refine Ev.bind h ?_
  rw [h1]
  exact Ev.now _
def permGo (n : Nat) : List Int → List Int → Bool
  | _, [] => true
  | pre, x :: xs => if x < 0 then false else if x ≥ (n : Int) then false else if pre.contains x = true then false else permGo n (pre ++ [x]) xs
def permB (l : List Int) : Bool := decide (l.length ≤ 12) && permGo l.length [] l
theorem impl_PermOk_at (rest : List Int) : ∀ (pre : List Int), (pre ++ rest).length ≤ 4611686018427387904 →
    Ev (fun k => impl_PermOk.l0 k (pre ++ rest) (pre ++ rest) ((pre ++ rest).length : Int) (pre.length : Int)) (decide ((pre ++ rest).length ≤ 12) && permGo (pre ++ rest).length pre rest) := by
  induction rest with
  | nil =>
    intro pre hb
    refine Ev.step (f := fun _ => some (decide (((pre ++ []).length : Int) ≤ 12))) (fun k => by rw [impl_PermOk.l0, if_neg (mid_nlt _)]) ?_
    have e : decide (((pre ++ ([] : List Int)).length : Int) ≤ 12) = decide ((pre ++ ([] : List Int)).length ≤ 12) := by
      rw [decide_eq_decide]
      omega
    simp only [permGo, Bool.and_true, e]
    exact Ev.now _
  | cons x rest ih =>
    intro pre hb
    unfold permGo
    by_cases c : x < 0
    · rw [if_pos c, Bool.and_false]
      exact Ev.step (f := fun _ => some false) (fun k => by rw [impl_PermOk.l0, if_pos (mid_lt _ _ _), if_pos (nn _), if_pos (mid_lt _ _ _), mid_rd, if_pos c]) (Ev.now _)
    · rw [if_neg c]
      by_cases d : x ≥ ((pre ++ x :: rest).length : Int)
      · rw [if_pos d, Bool.and_false]
        exact Ev.step (f := fun _ => some false) (fun k => by rw [impl_PermOk.l0, if_pos (mid_lt _ _ _), if_pos (nn _), if_pos (mid_lt _ _ _), mid_rd, if_neg c, if_pos d]) (Ev.now _)
      · rw [if_neg d]
        have hle : (pre.length : Int) ≤ ((pre ++ x :: rest).length : Int) := by simp; omega
        have htk : (pre ++ x :: rest).take ((pre.length : Int)).toNat = pre := by simp
        have hh := contains_ev pre x (by simp at hb; omega)
        refine Ev.stepb hh (fun k => by rw [impl_PermOk.l0, if_pos (mid_lt _ _ _), if_pos (nn _), if_pos (mid_lt _ _ _), mid_rd, if_neg c, if_neg d, if_pos hle, htk]) ?_
        by_cases m : pre.contains x = true
        · rw [if_pos m, Bool.and_false]
          simp only [if_pos m]
          exact Ev.now _
        · rw [if_neg m]
          simp only [if_neg m]
          have h := ih (pre ++ [x]) (by simpa using hb)
          rw [← mid_cons] at h
          rw [← mid_succ pre x (by simp at hb; omega)] at h
          exact h
theorem impl_PermOk_ev (l : List Int) (hb : l.length ≤ 4611686018427387904) : Ev (fun k => impl_PermOk.f k l) (permB l) := impl_PermOk_at l [] hb
theorem spec_PermOk_at (rest : List Int) : ∀ (pre : List Int), (pre ++ rest).length ≤ 12 →
    Ev (fun k => spec_PermOk.l0 k (pre ++ rest) (pre ++ rest) ((pre ++ rest).length : Int) (pre.length : Int)) (permGo (pre ++ rest).length pre rest) := by
  induction rest with
  | nil =>
    intro pre hb
    exact Ev.step (f := fun _ => some true) (fun k => by rw [spec_PermOk.l0, if_neg (mid_nlt _)]) (Ev.now _)
  | cons x rest ih =>
    intro pre hb
    have hw : wrap64 (((pre ++ x :: rest).length : Int) - 1) = ((pre ++ x :: rest).length : Int) - 1 := w64_id (by omega) (by omega)
    have hin : spec_l01In.f x 0 (((pre ++ x :: rest).length : Int) - 1) = some (decide (¬ x < 0 ∧ ¬ x ≥ ((pre ++ x :: rest).length : Int))) := by
      rw [l01In_eq]
      congr 1
      rw [decide_eq_decide]
      omega
    unfold permGo
    by_cases c : ¬ x < 0 ∧ ¬ x ≥ ((pre ++ x :: rest).length : Int)
    · obtain ⟨c1, d⟩ := c
      rw [if_neg c1, if_neg d]
      rw [decide_eq_true ⟨c1, d⟩] at hin
      have hle : (pre.length : Int) ≤ ((pre ++ x :: rest).length : Int) := by simp; omega
      have htk : (pre ++ x :: rest).take ((pre.length : Int)).toNat = pre := by simp
      have hh := l02Has_ev pre x (by simp at hb; omega)
      refine Ev.stepb hh (fun k => by rw [spec_PermOk.l0, if_pos (mid_lt _ _ _), if_pos (nn _), if_pos (mid_lt _ _ _), mid_rd, hw, hin]; simp only [Option.bind_some, if_true]; rw [if_pos hle, htk]) ?_
      by_cases m : pre.contains x = true
      · rw [if_pos m]
        simp only [if_pos m]
        exact Ev.now _
      · rw [if_neg m]
        simp only [if_neg m]
        have h := ih (pre ++ [x]) (by simpa using hb)
        rw [← mid_cons] at h
        rw [← mid_succ pre x (by simp at hb; omega)] at h
        exact h
    · rw [decide_eq_false c] at hin
      have e : (if x < 0 then false else if x ≥ ((pre ++ x :: rest).length : Int) then false else if pre.contains x = true then false else permGo (pre ++ x :: rest).length (pre ++ [x]) rest) = false := by
        by_cases c1 : x < 0
        · rw [if_pos c1]
        · rw [if_neg c1, if_pos (by omega)]
      rw [e]
      exact Ev.step (f := fun _ => some false) (fun k => by rw [spec_PermOk.l0, if_pos (mid_lt _ _ _), if_pos (nn _), if_pos (mid_lt _ _ _), mid_rd, hw, hin]; simp only [Option.bind_some, Bool.false_eq_true, if_false]) (Ev.now _)
theorem spec_PermOk_ev (l : List Int) : Ev (fun k => spec_PermOk.f k l) (permB l) := by
  unfold spec_PermOk.f permB
  by_cases h : (l.length : Int) > 12
  · simp only [if_pos h]
    rw [show (decide (l.length ≤ 12)) = false from decide_eq_false (by omega), Bool.false_and]
    exact Ev.now _
  · simp only [if_neg h]
    rw [show (decide (l.length ≤ 12)) = true from decide_eq_true (by omega), Bool.true_and]
    exact spec_PermOk_at l [] (by simp; omega)
end Go.Proofs.Ytmgpjhgjcmijbaa.F
