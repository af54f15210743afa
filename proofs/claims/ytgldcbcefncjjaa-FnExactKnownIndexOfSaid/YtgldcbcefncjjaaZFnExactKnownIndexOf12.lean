import Derived.Test.YtgldcbcefncjjaaZFnExactKnownIndexOf5
import Derived.Test.YtgldcbcefncjjaaZFnExactKnownIndexOf8
import Derived.Test.YtgldcbcefncjjaaZFnExactKnownIndexOf11
import Derived.Test.YtgldcbcefncjjaaZFnExactKnownIndexOf4
import Derived.Test.YtgldcbcefncjjaaZFnExactKnownIndexOf6
import Derived.Test.YtgldcbcefncjjaaZFnExactKnownIndexOf7
import Derived.Test.YtgldcbcefncjjaaZFnExactKnownIndexOf9
import Derived.Test.YtgldcbcefncjjaaZFnExactKnownIndexOf10
section
/- Where a card stands, for every number. -/
namespace Go.Proofs.Ytgldcbcefncjjaa.F
open Go.RowKit Go.Proofs.YtgldcbcefncjjaaW.PrintWords Go.Proofs.YtgldcbcefncjjaaW.PrintLast Go.Proofs.YtgldcbcefncjjaaW.PrintMore
set_option linter.unusedVariables false
set_option linter.unusedSimpArgs false
def posR (c : Int) (l : List Int) : Int := if c < 0 then -1 else idxFrom (fun x => cardOf x == c) l 0
theorem posNeg_at (c : Int) (hc : c < 0) (rest : List Int) : ∀ (pre : List Int), (pre ++ rest).length ≤ 4611686018427387904 →
    Ev (fun k => spec_PositionOf.l0 k c (pre ++ rest) ((pre ++ rest).length : Int) (pre.length : Int)) (-1) := by
  induction rest with
  | nil =>
    intro pre hb
    refine Ev.step (f := fun _ => some (-1)) (fun k => ?_) (Ev.now _)
    show spec_PositionOf.l0 (k + 1) c _ _ _ = _
    rw [spec_PositionOf.l0, if_neg (mid_nlt _)]
  | cons x rest ih =>
    intro pre hb
    have h := ih (pre ++ [x]) (by simpa using hb)
    rw [← mid_cons, ← mid_succ pre x (by simp at hb; omega)] at h
    refine Ev.step (fun k => ?_) h
    show spec_PositionOf.l0 (k + 1) c _ _ _ = _
    rw [spec_PositionOf.l0, if_pos (mid_lt _ _ _), if_pos (nn _), if_pos (mid_lt _ _ _), mid_rd, spec_CardOf_eq, Option.bind_some]
    by_cases e : cardOf x = c
    · rw [if_pos e, if_neg (by omega)]
    · rw [if_neg e]
theorem spec_posR_ev (q : List Int) (c : Int) (hb : q.length ≤ 4611686018427387904) : Ev (fun k => spec_PositionOf.f k q c) (posR c q) := by
  unfold posR
  by_cases h : c < 0
  · rw [if_pos h]; exact posNeg_at c h q [] hb
  · rw [if_neg h]; exact posOf_ev q c (by omega) hb
theorem impl_posR (q : List Int) (c : Int) (hq : ∀ x ∈ q, -9223372036854775808 ≤ x) : impl_PositionOf.f q c = some (posR c q) := by
  unfold posR
  by_cases h : c < 0
  · rw [if_pos h]; unfold impl_PositionOf.f; rw [if_pos h]
  · rw [if_neg h]; exact impl_pos_eq q c (by omega) hq
end Go.Proofs.Ytgldcbcefncjjaa.F
end
section
/- KnownIndexOf: both answer the same. -/
namespace Go.Proofs.Ytgldcbcefncjjaa.Pure
open Go.RowKit Go.Proofs.Ytgldcbcefncjjaa.F Go.Proofs.YtgldcbcefncjjaaW.PrintWords Go.Proofs.YtgldcbcefncjjaaW.PrintLast Go.Proofs.YtgldcbcefncjjaaW.PrintMore
set_option linter.unusedVariables false
set_option linter.unusedSimpArgs false
theorem known_at (c v : Int) (rest : List (List Int)) : ∀ (pre : List (List Int)), (pre ++ rest).length ≤ 4611686018427387904 → (∀ x ∈ pre ++ rest, x.length ≤ 1048576) →
    Ev (fun k => spec_KnownIndexOf.l0 k c v (pre ++ rest) ((pre ++ rest).length : Int) (pre.length : Int)) (if rest.all (fun x => posR c x == v) then v else -1) := by
  induction rest with
  | nil =>
    intro pre hb hx
    refine Ev.step (f := fun _ => some v) (fun k => ?_) (Ev.now _)
    show spec_KnownIndexOf.l0 (k + 1) _ _ _ _ _ = _
    rw [spec_KnownIndexOf.l0, if_neg (mid_nlt _)]
  | cons x rest ih =>
    intro pre hb hx
    have h := ih (pre ++ [x]) (by simpa using hb) (by simpa using hx)
    rw [← mid_cons, ← mid_succ pre x (by simp at hb; omega)] at h
    refine Ev.stepb (spec_posR_ev x c (by have := hx x (by simp); omega)) (fun k => by rw [spec_KnownIndexOf.l0, if_pos (mid_lt _ _ _), if_pos (nn _), if_pos (mid_lt _ _ _), mid_rdL1]) ?_
    by_cases e : posR c x = v
    · have e2 : (posR c x == v) = true := beq_iff_eq.mpr e
      simp only [if_pos e]
      rw [List.all_cons, e2, Bool.true_and]
      exact h
    · have e2 : (posR c x == v) = false := beq_eq_false_iff_ne.mpr e
      simp only [if_neg e]
      rw [List.all_cons, e2, Bool.false_and]
      exact Ev.now _
theorem impl_known_ev (l : List (List Int)) (c : Int) (hb : l.length ≤ 4611686018427387904) (hx : ∀ x ∈ l, x.length ≤ 1048576 ∧ ∀ y ∈ x, -9223372036854775808 ≤ y) :
    Ev (fun k => impl_KnownIndexOf.f k l c) (if knowB l = true then (if l.all (fun x => posR c x == posR c (l.getD 0 [])) then posR c (l.getD 0 []) else -1) else -1) := by
  unfold impl_KnownIndexOf.f
  refine Ev.bind (impl_Know_ev l hb hx) ?_
  by_cases e : knowB l = true
  · have hpos : 0 < l.length := by
      unfold knowB at e
      simp only [Bool.and_eq_true, decide_eq_true_eq] at e
      omega
    simp only [if_pos e, if_pos hpos]
    have hv : ∀ x ∈ l, posV c x = posR c x := fun x h => by
      unfold posV
      rw [impl_posR x c (hx x h).2]; rfl
    have h0 : l.getD 0 [] ∈ l := by rw [List.getD_eq_getElem?_getD, List.getElem?_eq_getElem hpos]; exact List.getElem_mem hpos
    have hc : commonV (posV c) l = (if l.all (fun x => posR c x == posR c (l.getD 0 [])) then posR c (l.getD 0 []) else -1) := by
      unfold commonV
      rw [hv _ h0]
      have : l.all (fun x => posV c x == posR c (l.getD 0 [])) = l.all (fun x => posR c x == posR c (l.getD 0 [])) := by
        rw [Bool.eq_iff_iff, List.all_eq_true, List.all_eq_true]
        constructor
        · intro h x hx'; rw [← hv x hx']; exact h x hx'
        · intro h x hx'; rw [hv x hx']; exact h x hx'
      rw [this]
    rw [hc]
    exact Ev.now _
  · simp only [if_neg e]
    exact Ev.now _
theorem spec_known_ev (l : List (List Int)) (c : Int) (hb : l.length ≤ 4611686018427387904) (hx : ∀ x ∈ l, x.length ≤ 1048576) :
    Ev (fun k => spec_KnownIndexOf.f k l c) (if knowB l = true then (if l.all (fun x => posR c x == posR c (l.getD 0 [])) then posR c (l.getD 0 []) else -1) else -1) := by
  unfold spec_KnownIndexOf.f
  refine Ev.bind (spec_Know_ev l hb hx) ?_
  by_cases e : knowB l = true
  · have hpos : 0 < l.length := by
      unfold knowB at e
      simp only [Bool.and_eq_true, decide_eq_true_eq] at e
      omega
    have h0 : l.getD 0 [] ∈ l := by rw [List.getD_eq_getElem?_getD, List.getElem?_eq_getElem hpos]; exact List.getElem_mem hpos
    simp only [if_pos e, if_pos (show 0 < (l.length : Int) by omega), rd_head]
    refine Ev.bind (spec_posR_ev (l.getD 0 []) c (by have := hx _ h0; omega)) ?_
    exact known_at c _ l [] hb hx
  · simp only [if_neg e]
    exact Ev.now _
theorem FnExactKnownIndexOf : laws_FnExactKnownIndexOf.Pure := by
  intro l a hq ha
  obtain ⟨h1, h2, h3⟩ := hq
  obtain ⟨r, hsz, hr⟩ := szIntSS_ev l 1048576 (by omega) (by omega) (by omega) (fun x hx => by have := h3 x hx; omega)
  have main2 : Ev (fun k => laws_FnExactKnownIndexOf.f k l a) true := by
    unfold laws_FnExactKnownIndexOf.f
    refine Ev.bind hsz ?_
    by_cases c : r < 0
    · simp only [if_pos c]
      exact Ev.now _
    · have hb := hr.resolve_left c
      have hx : ∀ x ∈ l, x.length ≤ 1048576 := fun x hx => by have := total_mem l x hx; omega
      have hs := spec_known_ev l a (by omega) hx
      have hi := impl_known_ev l a (by omega) (fun x hx' => ⟨hx x hx', fun y hy => (wf64 ((h3 x hx').2.2 y hy)).1⟩)
      have ht := toIntSS_ev l (by omega) (fun x hx' => by have := hx x hx'; omega)
      have he := eqIntSS_same l (by omega) (fun x hx' => by have := hx x hx'; omega)
      simp only [if_neg c]
      repeat' first
        | exact Ev.now _
        | with_reducible refine Ev.bind hs ?_
        | with_reducible refine Ev.bind hi ?_
        | with_reducible refine Ev.bind ht ?_
        | with_reducible refine Ev.bind he ?_
        | simp only [if_true, if_false, Bool.not_true, bne_self_eq_false, Bool.false_eq_true, neg1, neg2, neg3]
  exact main2.imp fun K hK => hK K (Nat.le_refl _)
end Go.Proofs.Ytgldcbcefncjjaa.Pure
end
