import Derived.Test.YtgldcbcefncjjaaZGFnExactIsForced10
import Derived.Test.YtgldcbcefncjjaaZGFnExactIsForced8
import Derived.Test.YtgldcbcefncjjaaZGFnExactIsForced4
import Derived.Test.YtgldcbcefncjjaaZGFnExactIsForced9
section
namespace Go.Proofs.Ytgldcbcefncjjaa.F
open Go.RowKit Go.Proofs.YtgldcbcefncjjaaW.PrintWords
/-- What is to be shown of numbers and lists. -/
def laws_FnExactIsForced.Pure : Prop := ∀ (l0 : List (S66)) (a1 : Int), ((l0.length * 48 ≤ 140737488351232 ∧ l0.length ≤ maxLen ∧ ∀ yl0 ∈ l0, ((yl0.f0.size ≤ maxLen ∧ yl0.f0.size ≤ 140737488351232) ∧ (yl0.f1.length * 8 ≤ 140737488351232 ∧ yl0.f1.length ≤ maxLen ∧ ∀ yyl0_f1 ∈ yl0.f1, ((Lit.int .i64 yyl0_f1).wf = true)) ∧ ((Lit.int .i64 yl0.f2).wf = true)))) → (((Lit.int .i64 a1).wf = true)) → ∃ k, laws_FnExactIsForced.f k l0 a1 = some true
end Go.Proofs.Ytgldcbcefncjjaa.F
end
section
/- slices.Equal and the reference's function of the same kind. -/
namespace Go.Proofs.Ytgldcbcefncjjaa.F
open Go.RowKit Go.Proofs.YtgldcbcefncjjaaW.PrintWords Go.Proofs.YtgldcbcefncjjaaW.PrintLast Go.Proofs.YtgldcbcefncjjaaW.PrintMore
set_option linter.unusedVariables false
set_option linter.unusedSimpArgs false
theorem slEq_at (rest : List Int) : ∀ (pre ys : List Int), (pre ++ ys).length ≤ 4611686018427387904 → rest.length = ys.length →
    Ev (fun k => slices_Equal_Lint_int.l0 k (pre ++ rest) (pre ++ ys) ((pre ++ rest).length : Int) (pre.length : Int)) (decide (rest = ys)) := by
  induction rest with
  | nil =>
    intro pre ys hb hl
    obtain rfl : ys = [] := List.length_eq_zero_iff.mp hl.symm
    exact Ev.step (f := fun _ => some true) (fun k => by rw [slices_Equal_Lint_int.l0, if_neg (mid_nlt _)]) (Ev.now _)
  | cons x rest ih =>
    intro pre ys hb hl
    cases ys with
    | nil => simp at hl
    | cons y ys =>
      by_cases e : x = y
      · subst e
        have h := ih (pre ++ [x]) ys (by simpa using hb) (by simpa using hl)
        rw [← mid_cons, ← mid_cons, ← mid_succ pre x (by simp at hb; omega)] at h
        rw [show decide (x :: rest = x :: ys) = decide (rest = ys) by simp]
        exact Ev.step (fun k => by rw [slices_Equal_Lint_int.l0, if_pos (mid_lt _ _ _), if_pos (nn _), if_pos (mid_lt _ _ _), if_pos (mid_lt _ _ _), mid_rd, mid_rd, if_pos rfl]) h
      · rw [show decide (x :: rest = y :: ys) = false by simp [e]]
        exact Ev.step (f := fun _ => some false) (fun k => by rw [slices_Equal_Lint_int.l0, if_pos (mid_lt _ _ _), if_pos (nn _), if_pos (mid_lt _ _ _), if_pos (mid_lt _ _ _), mid_rd, mid_rd, if_neg e]) (Ev.now _)
theorem slEq_ev (l m : List Int) (hl : l.length ≤ 4611686018427387904) : Ev (fun k => slices_Equal_Lint_int.f k l m) (decide (l = m)) := by
  unfold slices_Equal_Lint_int.f
  by_cases e : (l.length : Int) = (m.length : Int)
  · simp only [if_pos e]
    exact slEq_at l [] m (by simp; omega) (by omega)
  · simp only [if_neg e]
    rw [show decide (l = m) = false from decide_eq_false (fun h => e (by rw [h]))]
    exact Ev.now _
theorem same_at (rest : List Int) : ∀ (pre ys : List Int), (pre ++ ys).length ≤ 4611686018427387904 → rest.length = ys.length →
    Ev (fun k => spec_SamePacket.l0 k (pre ++ ys) (pre ++ rest) ((pre ++ rest).length : Int) (pre.length : Int)) (decide (rest = ys)) := by
  induction rest with
  | nil =>
    intro pre ys hb hl
    obtain rfl : ys = [] := List.length_eq_zero_iff.mp hl.symm
    exact Ev.step (f := fun _ => some true) (fun k => by rw [spec_SamePacket.l0, if_neg (mid_nlt _)]) (Ev.now _)
  | cons x rest ih =>
    intro pre ys hb hl
    cases ys with
    | nil => simp at hl
    | cons y ys =>
      by_cases e : x = y
      · subst e
        have h := ih (pre ++ [x]) ys (by simpa using hb) (by simpa using hl)
        rw [← mid_cons, ← mid_cons, ← mid_succ pre x (by simp at hb; omega)] at h
        rw [show decide (x :: rest = x :: ys) = decide (rest = ys) by simp]
        exact Ev.step (fun k => by rw [spec_SamePacket.l0, if_pos (mid_lt _ _ _), if_pos (nn _), if_pos (mid_lt _ _ _), if_pos (mid_lt _ _ _), mid_rd, mid_rd, if_pos rfl]) h
      · rw [show decide (x :: rest = y :: ys) = false by simp [e]]
        exact Ev.step (f := fun _ => some false) (fun k => by rw [spec_SamePacket.l0, if_pos (mid_lt _ _ _), if_pos (nn _), if_pos (mid_lt _ _ _), if_pos (mid_lt _ _ _), mid_rd, mid_rd, if_neg e]) (Ev.now _)
theorem same_ev (l m : List Int) (hl : l.length ≤ 4611686018427387904) : Ev (fun k => spec_SamePacket.f k l m) (decide (l = m)) := by
  unfold spec_SamePacket.f
  by_cases e : (l.length : Int) = (m.length : Int)
  · simp only [if_pos e]
    exact same_at l [] m (by simp; omega) (by omega)
  · simp only [if_neg e]
    rw [show decide (l = m) = false from decide_eq_false (fun h => e (by rw [h]))]
    exact Ev.now _
end Go.Proofs.Ytgldcbcefncjjaa.F
end
section
/- IsForced: both answer the same. -/
namespace Go.Proofs.Ytgldcbcefncjjaa.Pure
open Go.RowKit Go.Proofs.Ytgldcbcefncjjaa.F Go.Proofs.YtgldcbcefncjjaaW.PrintWords Go.Proofs.YtgldcbcefncjjaaW.PrintLast Go.Proofs.YtgldcbcefncjjaaW.PrintMore
set_option linter.unusedVariables false
set_option linter.unusedSimpArgs false
theorem FnExactIsForced : laws_FnExactIsForced.Pure := by
  intro l a hq ha
  obtain ⟨h1, h2, h3⟩ := hq
  obtain ⟨r, hsz, hr⟩ := szNodeS_ev l 1048576 (by omega) (by omega) (by omega) (fun x hx => by have := h3 x hx; omega)
  have main2 : Ev (fun k => laws_FnExactIsForced.f k l a) true := by
    unfold laws_FnExactIsForced.f
    refine Ev.bind hsz ?_
    by_cases c : r < 0
    · simp only [if_pos c]
      exact Ev.now _
    · have hb := hr.resolve_left c
      have hx : ∀ x ∈ l, x.f1.length ≤ 1048576 := fun x hx => by have := weighN_mem l x hx; omega
      have hx2 : ∀ x ∈ l.map conv, x.f1.length ≤ 4611686018427387904 := by
        intro x hx'
        obtain ⟨y, hy, rfl⟩ := List.mem_map.mp hx'
        have : (conv y).f1.length ≤ 1048576 := hx y hy
        omega
      have hll : (l.map conv).length ≤ 1048576 := by simp; omega
      have hs0 := spec_ends_ev (l.map conv) hll hx2
      have hi0 := impl_ends_ev (l.map conv) hll hx2
      have hle := endsR_len (l.map conv) hll
      have hs : Ev (fun k => spec_IsForced.f k (l.map conv) a) (decide (endsR (l.map conv) = [a])) := by
        unfold spec_IsForced.f
        refine Ev.bind hs0 (Ev.bind (same_ev _ _ (by omega)) (Ev.now _))
      have hi : Ev (fun k => impl_IsForced.f k (l.map conv) a) (decide (endsR (l.map conv) = [a])) := by
        unfold impl_IsForced.f
        refine Ev.bind hi0 (Ev.bind (slEq_ev _ _ (by omega)) (Ev.now _))
      have ht := toNodeS_ev l (by omega) (fun x hx' => by have := hx x hx'; omega)
      have he := eqNodeS_same (l.map conv) (by simp; omega) hx2
      simp only [if_neg c]
      repeat' first
        | exact Ev.now _
        | with_reducible refine Ev.bind hs ?_
        | with_reducible refine Ev.bind hi ?_
        | with_reducible refine Ev.bind ht ?_
        | with_reducible refine Ev.bind he ?_
        | simp only [if_true, if_false, Bool.not_true, bne_self_eq_false, Bool.false_eq_true, neg1, neg2, neg3]
  exact main2.imp fun K hK => hK K (Nat.le_refl _)
end Go.Proofs.Ytgldcbcefncjjaa.Pure
end
