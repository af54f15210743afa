import Derived.Test.YtgldcbcefncjjaaZFnEquivocal4
import Derived.Test.YtgldcbcefncjjaaZFnEquivocal9
import Derived.Test.YtgldcbcefncjjaaZFnEquivocal5
import Derived.Test.YtgldcbcefncjjaaZFnEquivocal6
import Derived.Test.YtgldcbcefncjjaaZFnEquivocal7
import Derived.Test.YtgldcbcefncjjaaZFnEquivocal8
section
/- Laid by a program of this claim's own. What the Go function does, as a Lean function, and the proof that the Go code does just that; Lean checks it. -/
namespace Go.Proofs.Ytgldcbcefncjjaa.F
open Go.RowKit Go.Proofs.YtgldcbcefncjjaaW.PrintWords Go.Proofs.YtgldcbcefncjjaaW.PrintLast Go.Proofs.YtgldcbcefncjjaaW.PrintMore
attribute [local go_sem] max2_int min2_int max_two min_two max_three min_three max_four min_four   -- for this text's walks alone
set_option linter.unusedVariables false
set_option linter.unusedSimpArgs false
/-! ### spec_l13Wrong: function 58 -/
mutual
def spec_l13Wrong.l0 : Nat → List (S49) → Int → List Int → Int → Int → Option (List Int × Bool)
  | 0, _, _, _, _, _ => none
  | k + 1, x0, x2, x27, x28, x29 => if x29 < x28 then (if 0 ≤ x29 then (if x29 < (x27.length : Int) then ((spec_l13Wrong.f k x0 (rd x27 x29) x2).bind fun bt186 => (if bt186.2 = true then ((some (([x29] : List Int) : List Int)).bind fun y190 => (if y190.length + bt186.1.length < 17592186044416 then (some ((y190 ++ bt186.1), true)) else (none))) else (spec_l13Wrong.l0 k x0 x2 x27 x28 (wrap64 (x29 + 1))))) else (none)) else (none)) else (some (([] : List Int), false))
def spec_l13Wrong.f : Nat → List (S49) → Int → Int → Option (List Int × Bool)
  | 0, _, _, _ => none
  | k + 1, l0, a1, a2 => if 0 ≤ a1 then (if a1 < (l0.length : Int) then (if (((rd_T49 l0 a1).f1).length : Int) = 0 then (some ((([] : List Int)), (((rd_T49 l0 a1).f2) != a2))) else (spec_l13Wrong.l0 k l0 a2 ((rd_T49 l0 a1).f1) (((rd_T49 l0 a1).f1).length : Int) 0)) else (none)) else (none)
end
end Go.Proofs.Ytgldcbcefncjjaa.F
end
section
/- Laid by a program of this claim's own. What the Go function does, as a Lean function, and the proof that the Go code does just that; Lean checks it. -/
namespace Go.Proofs.Ytgldcbcefncjjaa.F
open Go.RowKit Go.Proofs.YtgldcbcefncjjaaW.PrintWords Go.Proofs.YtgldcbcefncjjaaW.PrintLast Go.Proofs.YtgldcbcefncjjaaW.PrintMore
attribute [local go_sem] max2_int min2_int max_two min_two max_three min_three max_four min_four   -- for this text's walks alone
set_option linter.unusedVariables false
set_option linter.unusedSimpArgs false
/-! ### impl_answersFrom: function 60 -/
mutual
def impl_answersFrom.l0 : Nat → List (S49) → Int → List Int → Int → Int → Option (List Int × Bool)
  | 0, _, _, _, _, _ => none
  | k + 1, x0, x2, x26, x27, x28 => if x28 < x27 then (if 0 ≤ x28 then (if x28 < (x26.length : Int) then ((impl_answersFrom.f k x0 (rd x26 x28) x2).bind fun bt233 => (if bt233.2 = true then ((some (([x28] : List Int) : List Int)).bind fun y237 => (if y237.length + bt233.1.length < 17592186044416 then (some ((y237 ++ bt233.1), true)) else (none))) else (impl_answersFrom.l0 k x0 x2 x26 x27 (wrap64 (x28 + 1))))) else (none)) else (none)) else (some (([] : List Int), false))
def impl_answersFrom.f : Nat → List (S49) → Int → Int → Option (List Int × Bool)
  | 0, _, _, _ => none
  | k + 1, l0, a1, a2 => if 0 ≤ a1 then (if a1 < (l0.length : Int) then (if (((rd_T49 l0 a1).f1).length : Int) = 0 then (some (([] : List Int), (((rd_T49 l0 a1).f2) != a2))) else (impl_answersFrom.l0 k l0 a2 ((rd_T49 l0 a1).f1) (((rd_T49 l0 a1).f1).length : Int) 0)) else (none)) else (none)
end
end Go.Proofs.Ytgldcbcefncjjaa.F
end
section
/- The least answers that lead to another object: the program's function and the reference's are one. -/
namespace Go.Proofs.Ytgldcbcefncjjaa.F
open Go.RowKit Go.Proofs.YtgldcbcefncjjaaW.PrintWords Go.Proofs.YtgldcbcefncjjaaW.PrintLast Go.Proofs.YtgldcbcefncjjaaW.PrintMore
set_option linter.unusedVariables false
set_option linter.unusedSimpArgs false
def tryM (f : Nat → List Int × Bool) : List Int → Int → List Int × Bool
  | [], _ => ([], false)
  | v :: vs, i => if (f v.toNat).2 = true then (i :: (f v.toNat).1, true) else tryM f vs (i + 1)
/-- The least answers from a node on to another object. -/
def wrongM (l : List IN) (o : Int) : Nat → Nat → List Int × Bool
  | 0, _ => ([], false)
  | d + 1, i => if (rd_T49 l (i : Int)).f1.length = 0 then ([], (rd_T49 l (i : Int)).f2 != o) else tryM (wrongM l o d) (rd_T49 l (i : Int)).f1 0
end Go.Proofs.Ytgldcbcefncjjaa.F
end
section
/- Laid by a program of this claim's own. What the Go function does, as a Lean function, and the proof that the Go code does just that; Lean checks it. -/
namespace Go.Proofs.Ytgldcbcefncjjaa.F
open Go.RowKit Go.Proofs.YtgldcbcefncjjaaW.PrintWords Go.Proofs.YtgldcbcefncjjaaW.PrintLast Go.Proofs.YtgldcbcefncjjaaW.PrintMore
attribute [local go_sem] max2_int min2_int max_two min_two max_three min_three max_four min_four   -- for this text's walks alone
set_option linter.unusedVariables false
set_option linter.unusedSimpArgs false
/-! ### spec_l13Sorted: function 62 -/
mutual
def spec_l13Sorted.l0 : Nat → List Int → List Int → Int → Int → Option (List Int)
  | 0, _, _, _, _ => none
  | k + 1, x3, x8, x9, x10 => if x10 < x9 then (if 0 ≤ x10 then (if x10 < (x8.length : Int) then (if x3.length < 17592186044416 then ((some (x3 ++ [0] : List Int)).bind fun y252 => (spec_l13Sorted.l1 k y252 (rd x8 x10) (wrap64 ((y252.length : Int) - 1)) x8 x9 x10)) else (none)) else (none)) else (none)) else (some x3)
def spec_l13Sorted.l1 : Nat → List Int → Int → Int → List Int → Int → Int → Option (List Int)
  | 0, _, _, _, _, _, _ => none
  | k + 1, x3, x5, x6, x8, x9, x10 => if x6 > 0 then (if 0 ≤ (wrap64 (x6 - 1)) then (if (wrap64 (x6 - 1)) < (x3.length : Int) then (if (rd x3 (wrap64 (x6 - 1))) > x5 then (if 0 ≤ x6 then (if x6 < (x3.length : Int) then (spec_l13Sorted.l1 k (x3.set (x6 : Int).toNat (rd x3 (wrap64 (x6 - 1)))) x5 (wrap64 (x6 - 1)) x8 x9 x10) else (none)) else (none)) else (if 0 ≤ x6 then (if x6 < (x3.length : Int) then (spec_l13Sorted.l0 k (x3.set (x6 : Int).toNat x5) x8 x9 (wrap64 (x10 + 1))) else (none)) else (none))) else (none)) else (none)) else (if 0 ≤ x6 then (if x6 < (x3.length : Int) then (spec_l13Sorted.l0 k (x3.set (x6 : Int).toNat x5) x8 x9 (wrap64 (x10 + 1))) else (none)) else (none))
end
end Go.Proofs.Ytgldcbcefncjjaa.F
end
section
/- The ends of a force: sorted, each once. -/
namespace Go.Proofs.Ytgldcbcefncjjaa.F
open Go.RowKit Go.Proofs.YtgldcbcefncjjaaW.PrintWords Go.Proofs.YtgldcbcefncjjaaW.PrintLast Go.Proofs.YtgldcbcefncjjaaW.PrintMore
set_option linter.unusedVariables false
set_option linter.unusedSimpArgs false
/-- The objects at a force's ends. -/
def leaves (l : List IN) : List Int := (l.filter fun x => decide (x.f1.length = 0)).map fun x => x.f2
theorem leaves_yes (x : IN) (l : List IN) (h : x.f1.length = 0) : leaves (x :: l) = x.f2 :: leaves l := by
  unfold leaves
  rw [List.filter_cons_of_pos (by simpa using h), List.map_cons]
theorem leaves_no (x : IN) (l : List IN) (h : ¬ x.f1.length = 0) : leaves (x :: l) = leaves l := by
  unfold leaves
  rw [List.filter_cons_of_neg (by simpa using h)]
open Go.Lib in
theorem impl_ends_at (rest : List IN) : ∀ (pre : List IN) (acc : List Int), (pre ++ rest).length ≤ 1048576 → acc.length ≤ pre.length →
    Ev (fun k => impl_EndsOf.l0 k acc (pre ++ rest) ((pre ++ rest).length : Int) (pre.length : Int)) (compact (sortI (acc ++ leaves rest))) := by
  induction rest with
  | nil =>
    intro pre acc hb ha
    refine Ev.step (f := fun _ => some (compact (sortI (acc ++ leaves [])))) (fun k => ?_) (Ev.now _)
    show impl_EndsOf.l0 (k + 1) _ _ _ _ = _
    rw [impl_EndsOf.l0, if_neg (mid_nlt _), if_pos (by simp at hb; omega), show acc ++ leaves [] = acc by simp [leaves]]
  | cons x rest ih =>
    intro pre acc hb ha
    have hp : pre.length ≤ 1048576 := by simp at hb; omega
    by_cases c : x.f1.length = 0
    · have h := ih (pre ++ [x]) (acc ++ [x.f2]) (by simpa using hb) (by simpa using ha)
      rw [← mid_cons, ← mid_succ pre x (by omega)] at h
      rw [leaves_yes x rest c, show acc ++ x.f2 :: leaves rest = acc ++ [x.f2] ++ leaves rest by simp]
      refine Ev.step (fun k => ?_) h
      show impl_EndsOf.l0 (k + 1) _ _ _ _ = _
      rw [impl_EndsOf.l0, if_pos (mid_lt _ _ _), if_pos (nn _), if_pos (mid_lt _ _ _), mid_rdIN, if_pos (by omega), if_pos (by omega)]
    · have h := ih (pre ++ [x]) acc (by simpa using hb) (by simp; omega)
      rw [← mid_cons, ← mid_succ pre x (by omega)] at h
      rw [leaves_no x rest c]
      refine Ev.step (fun k => ?_) h
      show impl_EndsOf.l0 (k + 1) _ _ _ _ = _
      rw [impl_EndsOf.l0, if_pos (mid_lt _ _ _), if_pos (nn _), if_pos (mid_lt _ _ _), mid_rdIN, if_neg (by omega)]
/-- What both answer. -/
def endsR (l : List IN) : List Int := if forceB l = true then Go.Lib.compact (sortI (leaves l)) else []
theorem impl_ends_ev (l : List IN) (hb : l.length ≤ 1048576) (hx : ∀ x ∈ l, x.f1.length ≤ 4611686018427387904) : Ev (fun k => impl_EndsOf.f k l) (endsR l) := by
  unfold impl_EndsOf.f endsR
  refine Ev.bind (impl_Force_ev l hx) ?_
  by_cases c : forceB l = true
  · simp only [if_pos c]
    exact impl_ends_at l [] [] hb (Nat.le_refl _)
  · simp only [if_neg c]
    exact Ev.now _
theorem endsR_len (l : List IN) (hb : l.length ≤ 1048576) : (endsR l).length ≤ 1048576 := by
  unfold endsR
  split
  · have h1 : (Go.Lib.compact (sortI (leaves l))).length ≤ (sortI (leaves l)).length := by
      unfold Go.Lib.compact Go.Lib.compactUpTo
      rw [List.length_map]
      have := List.length_filter_le (Go.Lib.keeps (sortI (leaves l)).toArray) (List.range (sortI (leaves l)).length)
      simpa using this
    have h2 : (sortI (leaves l)).length = (leaves l).length := by unfold sortI; simp
    have h3 : (leaves l).length ≤ l.length := by
      unfold leaves
      rw [List.length_map]
      exact List.length_filter_le _ _
    omega
  · simp
end Go.Proofs.Ytgldcbcefncjjaa.F
end
section
/- slices.Equal. -/
namespace Go.Proofs.Ytgldcbcefncjjaa.F
open Go.RowKit Go.Proofs.YtgldcbcefncjjaaW.PrintWords Go.Proofs.YtgldcbcefncjjaaW.PrintLast Go.Proofs.YtgldcbcefncjjaaW.PrintMore
set_option linter.unusedVariables false
set_option linter.unusedSimpArgs false
theorem slEq_at (rest : List Int) : ∀ (pre ys : List Int), (pre ++ ys).length ≤ 4611686018427387904 → rest.length = ys.length →
    Ev (fun k => slices_Equal_Lint_int.l0 k (pre ++ rest) (pre ++ ys) ((pre ++ rest).length : Int) (pre.length : Int)) (decide (rest = ys)) := by
  induction rest with
  | nil =>
    intro pre ys hb hl
    obtain rfl : ys = [] := List.length_eq_zero_iff.mp hl.symm
    exact Ev.step (f := fun _ => some true) (fun k => by rw [slices_Equal_Lint_int.l0, if_neg (mid_nlt _)]) (Ev.now _)
  | cons x rest ih =>
    intro pre ys hb hl
    cases ys with
    | nil => simp at hl
    | cons y ys =>
      by_cases e : x = y
      · subst e
        have h := ih (pre ++ [x]) ys (by simpa using hb) (by simpa using hl)
        rw [← mid_cons, ← mid_cons, ← mid_succ pre x (by simp at hb; omega)] at h
        rw [show decide (x :: rest = x :: ys) = decide (rest = ys) by simp]
        exact Ev.step (fun k => by rw [slices_Equal_Lint_int.l0, if_pos (mid_lt _ _ _), if_pos (nn _), if_pos (mid_lt _ _ _), if_pos (mid_lt _ _ _), mid_rd, mid_rd, if_pos rfl]) h
      · rw [show decide (x :: rest = y :: ys) = false by simp [e]]
        exact Ev.step (f := fun _ => some false) (fun k => by rw [slices_Equal_Lint_int.l0, if_pos (mid_lt _ _ _), if_pos (nn _), if_pos (mid_lt _ _ _), if_pos (mid_lt _ _ _), mid_rd, mid_rd, if_neg e]) (Ev.now _)
theorem slEq_ev (l m : List Int) (hl : l.length ≤ 4611686018427387904) : Ev (fun k => slices_Equal_Lint_int.f k l m) (decide (l = m)) := by
  unfold slices_Equal_Lint_int.f
  by_cases e : (l.length : Int) = (m.length : Int)
  · simp only [if_pos e]
    exact slEq_at l [] m (by simp; omega) (by omega)
  · simp only [if_neg e]
    rw [show decide (l = m) = false from decide_eq_false (fun h => e (by rw [h]))]
    exact Ev.now _
end Go.Proofs.Ytgldcbcefncjjaa.F
end
section
/- A force played. -/
namespace Go.Proofs.Ytgldcbcefncjjaa.F
open Go.RowKit Go.Proofs.YtgldcbcefncjjaaW.PrintWords Go.Proofs.YtgldcbcefncjjaaW.PrintLast Go.Proofs.YtgldcbcefncjjaaW.PrintMore
set_option linter.unusedVariables false
set_option linter.unusedSimpArgs false
def playM (l : List IN) : Int → List Int → Int × Bool
  | c, [] => (c, true)
  | c, a :: qs => if 0 ≤ a ∧ a < ((nodeAt l c).f1.length : Int) then playM l (rd (nodeAt l c).f1 a) qs else (0, false)
theorem impl_play_at (l : List IN) (hr : ∀ x ∈ l, ∀ v ∈ x.f1, 0 ≤ v ∧ v < (l.length : Int)) (rest : List Int) : ∀ (pre : List Int) (c : Int), (pre ++ rest).length ≤ 4611686018427387904 → 0 ≤ c → c < (l.length : Int) →
    Ev (fun k => impl_PlayForce.l0 k l c (pre ++ rest) ((pre ++ rest).length : Int) (pre.length : Int)) (playM l c rest) := by
  induction rest with
  | nil =>
    intro pre c hb h0 h1
    refine Ev.step (f := fun _ => some (c, true)) (fun k => ?_) (Ev.now _)
    show impl_PlayForce.l0 (k + 1) l c _ _ _ = _
    rw [impl_PlayForce.l0, if_neg (mid_nlt _)]
  | cons a rest ih =>
    intro pre c hb h0 h1
    by_cases q : 0 ≤ a ∧ a < ((nodeAt l c).f1.length : Int)
    · have hv := hr _ (nodeAt_mem l c h0 h1) _ (rd_mem _ a q.1 q.2)
      have h := ih (pre ++ [a]) (rd (nodeAt l c).f1 a) (by simpa using hb) hv.1 hv.2
      rw [← mid_cons, ← mid_succ pre a (by simp at hb; omega)] at h
      rw [show playM l c (a :: rest) = playM l (rd (nodeAt l c).f1 a) rest by simp only [playM, if_pos q]]
      unfold nodeAt at q
      refine Ev.step (fun k => ?_) h
      show impl_PlayForce.l0 (k + 1) l c _ _ _ = _
      rw [impl_PlayForce.l0, if_pos (mid_lt _ _ _), if_pos (nn _), if_pos (mid_lt _ _ _), mid_rd, if_neg (by omega), if_pos h0, if_pos h1, if_neg (by omega), if_pos q.1, if_pos q.2]
      rfl
    · rw [show playM l c (a :: rest) = (0, false) by simp only [playM, if_neg q]]
      unfold nodeAt at q
      refine Ev.step (f := fun _ => some ((0 : Int), false)) (fun k => ?_) (Ev.now _)
      show impl_PlayForce.l0 (k + 1) l c _ _ _ = _
      rw [impl_PlayForce.l0, if_pos (mid_lt _ _ _), if_pos (nn _), if_pos (mid_lt _ _ _), mid_rd]
      by_cases z : a < 0
      · rw [if_pos z]
      · rw [if_neg z, if_pos h0, if_pos h1, if_pos (by omega)]
theorem impl_play_ev (l : List IN) (qs : List Int) (hl : ∀ x ∈ l, x.f1.length ≤ 4611686018427387904) (ha : qs.length ≤ 4611686018427387904) (h : forceB l = true) : Ev (fun k => impl_PlayForce.f k l qs) (playM l 0 qs) := by
  have E2 := impl_Force_ev l hl
  unfold impl_PlayForce.f
  obtain ⟨⟨h1, h2⟩, hr⟩ := forceB_range l h
  refine Ev.bind E2 ?_
  simp only [h, if_true]
  exact impl_play_at l hr qs [] 0 ha (by omega) (by omega)
end Go.Proofs.Ytgldcbcefncjjaa.F
end
section
/- How deep a force is: the program's. -/
namespace Go.Proofs.Ytgldcbcefncjjaa.F
open Go.RowKit Go.Proofs.YtgldcbcefncjjaaW.PrintWords Go.Proofs.YtgldcbcefncjjaaW.PrintLast Go.Proofs.YtgldcbcefncjjaaW.PrintMore
set_option linter.unusedVariables false
set_option linter.unusedSimpArgs false
theorem impl_kids_at (X : List IN) (i : Nat) (n : Int) (o r : Int) (rest : List Int) : ∀ (pre D : List Int), (pre ++ rest).length ≤ 4611686018427387904 → i < D.length → (∀ v ∈ rest, 0 ≤ v ∧ v < (D.length : Int)) →
    Ev (fun k => impl_DepthOfForce.l0 k (stepD i rest D) (mx o (rd (stepD i rest D) i)) X n (wrap64 ((i : Int) + 1))) r →
    Ev (fun k => impl_DepthOfForce.l1 k D o (i : Int) X n (i : Int) (pre ++ rest) ((pre ++ rest).length : Int) (pre.length : Int)) r := by
  induction rest with
  | nil =>
    intro pre D hb hi hv h
    refine Ev.step (fun k => ?_) h
    show impl_DepthOfForce.l1 (k + 1) _ _ _ _ _ _ _ _ _ = _
    rw [impl_DepthOfForce.l1, if_neg (mid_nlt _), if_pos (nn _), if_pos (by omega)]
    rfl
  | cons v rest ih =>
    intro pre D hb hi hv h
    have hv0 := hv v (by simp)
    have h2 := ih (pre ++ [v]) (D.set v.toNat (wrap64 (rd D i + 1))) (by simpa using hb) (by rw [List.length_set]; exact hi) (by intro w hw; rw [List.length_set]; exact hv w (by simp [hw])) h
    rw [← mid_cons, ← mid_succ pre v (by simp at hb; omega)] at h2
    refine Ev.step (fun k => ?_) h2
    show impl_DepthOfForce.l1 (k + 1) _ _ _ _ _ _ _ _ _ = _
    rw [impl_DepthOfForce.l1, if_pos (mid_lt _ _ _), if_pos (nn _), if_pos (mid_lt _ _ _), if_pos (nn _), if_pos (by omega), mid_rd, if_pos hv0.1, if_pos hv0.2]
theorem impl_depth_at {l : List IN} (T : Tree l) (hx : ∀ x ∈ l, x.f1.length ≤ 1048576) (rest : List IN) : ∀ (pre : List IN) (D : List Int) (o : Int), l = pre ++ rest → D.length = l.length →
    Ev (fun k => impl_DepthOfForce.l0 k D o l (l.length : Int) (pre.length : Int)) (runO (pre.length : Int) rest D o) := by
  induction rest with
  | nil =>
    intro pre D o e hD
    refine Ev.step (f := fun _ => some o) (fun k => ?_) (Ev.now _)
    show impl_DepthOfForce.l0 (k + 1) _ _ _ _ _ = _
    rw [impl_DepthOfForce.l0, if_neg (by rw [e]; simp)]
  | cons x rest ih =>
    intro pre D o e hD
    have hlt : (pre.length : Int) < (l.length : Int) := by rw [e]; exact mid_lt _ _ _
    have hle := T.le
    have h2 := ih (pre ++ [x]) (stepD (pre.length : Int) x.f1 D) (mx o (rd (stepD (pre.length : Int) x.f1 D) (pre.length : Int))) (by rw [e]; simp) (by rw [stepD_len]; exact hD)
    have e2 : (((pre ++ [x]).length : Nat) : Int) = wrap64 ((pre.length : Int) + 1) := (mid_succ pre x (by omega)).symm
    have e3 : wrap64 ((pre.length : Int) + 1) = (pre.length : Int) + 1 := w64_id (by omega) (by omega)
    rw [e2] at h2
    rw [show runO (wrap64 ((pre.length : Int) + 1)) rest (stepD (pre.length : Int) x.f1 D) (mx o (rd (stepD (pre.length : Int) x.f1 D) (pre.length : Int))) = runO (pre.length : Int) (x :: rest) D o by rw [e3]; rfl] at h2
    have hk := impl_kids_at l pre.length (l.length : Int) o _ x.f1 [] D (by have := hx x (by rw [e]; simp); simp; omega) (by omega) (fun v hv => by rw [hD]; exact tree_vs T x (by rw [e]; simp) v hv) h2
    refine Ev.step (fun k => ?_) hk
    show impl_DepthOfForce.l0 (k + 1) _ _ _ _ _ = _
    rw [impl_DepthOfForce.l0, if_pos hlt, if_pos (nn _), if_pos hlt]
    have e4 : rd_T49 l (pre.length : Int) = x := by rw [e]; exact mid_rdIN _ _ _
    rw [e4]
    rfl
theorem impl_depth_ev (l : List IN) (hx : ∀ x ∈ l, x.f1.length ≤ 1048576) (h : forceB l = true) : Ev (fun k => impl_DepthOfForce.f k l) (hgt l l.length 0 : Int) := by
  have hl : ∀ x ∈ l, x.f1.length ≤ 4611686018427387904 := fun x h => by have := hx x h; omega
  have E2 := impl_Force_ev l hl
  unfold impl_DepthOfForce.f
  have T := tree_of l hx h
  have hle := T.le
  refine Ev.bind E2 ?_
  simp only [h, if_true, if_pos (nn l.length), Int.toNat_natCast, if_pos (show l.length ≤ 35184372088832 by omega)]
  have := impl_depth_at T hx l [] (List.replicate l.length 0) 0 rfl (by simp)
  rw [show runO (([] : List IN).length : Int) l (List.replicate l.length 0) 0 = (hgt l l.length 0 : Int) from depth_is T] at this
  exact this
end Go.Proofs.Ytgldcbcefncjjaa.F
end
section
/- A force has one end, or answers that lead to another. -/
namespace Go.Proofs.Ytgldcbcefncjjaa.F
open Go.RowKit Go.Proofs.YtgldcbcefncjjaaW.PrintWords Go.Proofs.YtgldcbcefncjjaaW.PrintLast Go.Proofs.YtgldcbcefncjjaaW.PrintMore
set_option linter.unusedVariables false
set_option linter.unusedSimpArgs false
theorem tryM_no {f : Nat → List Int × Bool} {vs : List Int} : ∀ {i : Int}, (tryM f vs i).2 = false → ∀ v ∈ vs, (f v.toNat).2 = false := by
  induction vs with
  | nil => intro i h v hv; cases hv
  | cons w vs ih =>
    intro i h v hv
    unfold tryM at h
    by_cases c : (f w.toNat).2 = true
    · rw [if_pos c] at h; cases h
    · rw [if_neg c] at h
      rcases List.mem_cons.1 hv with rfl | hv
      · simpa using c
      · exact ih h v hv
theorem tryM_yes {f : Nat → List Int × Bool} {vs : List Int} : ∀ {i : Int}, (tryM f vs i).2 = true → ∃ j : Nat, ∃ hj : j < vs.length, (f (vs[j]).toNat).2 = true ∧ (tryM f vs i).1 = (i + j) :: (f (vs[j]).toNat).1 := by
  induction vs with
  | nil => intro i h; cases h
  | cons w vs ih =>
    intro i h
    unfold tryM at h ⊢
    by_cases c : (f w.toNat).2 = true
    · exact ⟨0, by simp, by simpa using c, by rw [if_pos c]; simp⟩
    · rw [if_neg c] at h ⊢
      obtain ⟨j, hj, h1, h2⟩ := ih h
      exact ⟨j + 1, by simp; omega, by simpa using h1, by rw [h2]; simp; omega⟩
/-- Where there are answers: they lead to another end. -/
theorem wrong_play (l : List IN) (T : Tree l) (o : Int) (d : Nat) : ∀ i, i < l.length → (wrongM l o d i).2 = true → ∃ j, j < l.length ∧ playM l (i : Int) (wrongM l o d i).1 = ((j : Int), true) ∧ (nodeAt l (j : Int)).f1.length = 0 ∧ (nodeAt l (j : Int)).f2 ≠ o := by
  induction d with
  | zero => intro i hi h; cases h
  | succ d ih =>
    intro i hi h
    unfold wrongM at h ⊢
    by_cases c : (rd_T49 l (i : Int)).f1.length = 0
    · rw [if_pos c] at h ⊢
      exact ⟨i, hi, rfl, c, by
        have h' : ((nodeAt l (i : Int)).f2 != o) = true := h
        simpa using h'⟩
    · rw [if_neg c] at h ⊢
      obtain ⟨j, hj, h1, h2⟩ := tryM_yes h
      have hk := kid_range T hi (List.getElem_mem hj : (nodeAt l (i : Int)).f1[j] ∈ (nodeAt l (i : Int)).f1)
      have hk2 : (i : Int) < (rd_T49 l (i : Int)).f1[j] ∧ (rd_T49 l (i : Int)).f1[j] < (l.length : Int) := hk
      obtain ⟨q, q1, q2, q3, q4⟩ := ih _ (by omega) h1
      refine ⟨q, q1, ?_, q3, q4⟩
      rw [h2]
      unfold playM
      have hr : rd (nodeAt l (i : Int)).f1 (0 + (j : Int)) = (rd_T49 l (i : Int)).f1[j] := by
        unfold rd
        rw [show (0 + (j : Int)).toNat = j by omega, List.getD_eq_getElem?_getD, show (nodeAt l (i : Int)).f1 = (rd_T49 l (i : Int)).f1 from rfl, List.getElem?_eq_getElem hj]; rfl
      rw [if_pos ⟨by omega, by show 0 + (j : Int) < ((rd_T49 l (i : Int)).f1.length : Int); omega⟩, hr]
      rw [Int.toNat_of_nonneg (by omega)] at q2
      exact q2
theorem wrong_fuel (l : List IN) (T : Tree l) (o : Int) (d : Nat) : ∀ i, i < l.length → l.length ≤ i + d → ∀ g, d ≤ g → wrongM l o g i = wrongM l o d i := by
  induction d with
  | zero => intro i h1 h2; omega
  | succ d ih =>
    intro i h1 h2 g hg
    obtain ⟨g, rfl⟩ : ∃ q, g = q + 1 := ⟨g - 1, by omega⟩
    unfold wrongM
    by_cases c : (rd_T49 l (i : Int)).f1.length = 0
    · rw [if_pos c, if_pos c]
    · rw [if_neg c, if_neg c]
      have : ∀ (vs : List Int) (a : Int), (∀ v ∈ vs, v ∈ (nodeAt l (i : Int)).f1) → tryM (wrongM l o g) vs a = tryM (wrongM l o d) vs a := by
        intro vs
        induction vs with
        | nil => intro a h; rfl
        | cons v vs ihv =>
          intro a h
          have hk := kid_range T h1 (h v (by simp))
          have e := ih v.toNat (by omega) (by omega) g (by omega)
          unfold tryM
          rw [e, ihv (a + 1) (fun w hw => h w (by simp [hw]))]
      exact this _ _ (fun v hv => hv)
/-- Where there are none: every node leads to the object alone. -/
theorem wrong_none (l : List IN) (T : Tree l) (o : Int) (h0 : (wrongM l o l.length 0).2 = false) : ∀ n v : Nat, v < n → v < l.length → (wrongM l o l.length v).2 = false := by
  intro n
  induction n with
  | zero => intro v h; omega
  | succ n ih =>
    intro v hv hl
    by_cases e : v = 0
    · rw [e]; exact h0
    · obtain ⟨i, hi, hm⟩ := parent T v (by omega) hl
      have h1 := ih i (by omega) (by omega)
      obtain ⟨d, hd⟩ : ∃ d, l.length = d + 1 := ⟨l.length - 1, by have := T.pos; omega⟩
      have h2 := h1
      rw [hd] at h2
      unfold wrongM at h2
      have hc : ¬ (rd_T49 l (i : Int)).f1.length = 0 := by
        have : 0 < (nodeAt l (i : Int)).f1.length := List.length_pos_of_mem hm
        have e2 : (rd_T49 l (i : Int)).f1.length = (nodeAt l (i : Int)).f1.length := rfl
        omega
      rw [if_neg hc] at h2
      have h3 := tryM_no h2 (v : Int) hm
      rw [Int.toNat_natCast] at h3
      rw [wrong_fuel l T o d v hl (by omega) l.length (by omega)]
      exact h3
theorem mem_leaves (l : List IN) (y : Int) : y ∈ leaves l ↔ ∃ j : Nat, j < l.length ∧ (nodeAt l (j : Int)).f1.length = 0 ∧ (nodeAt l (j : Int)).f2 = y := by
  unfold leaves
  rw [List.mem_map]
  constructor
  · rintro ⟨x, hx, rfl⟩
    rw [List.mem_filter] at hx
    obtain ⟨j, hj, rfl⟩ := List.getElem_of_mem hx.1
    exact ⟨j, hj, by rw [nodeAt_nat l j hj]; simpa using hx.2, by rw [nodeAt_nat l j hj]⟩
  · rintro ⟨j, hj, h1, h2⟩
    rw [nodeAt_nat l j hj] at h1 h2
    exact ⟨l[j], List.mem_filter.2 ⟨List.getElem_mem hj, by simpa using h1⟩, h2⟩
theorem mem_ends (l : List IN) (h : forceB l = true) (y : Int) : y ∈ endsR l ↔ y ∈ leaves l := by
  unfold endsR
  rw [if_pos h, compact_mem, sortI_mem]
theorem last_leaf (l : List IN) (T : Tree l) : (nodeAt l ((l.length - 1 : Nat) : Int)).f1.length = 0 := by
  have hp := T.pos
  cases hf : (nodeAt l ((l.length - 1 : Nat) : Int)).f1 with
  | nil => rfl
  | cons v vs =>
    have := kid_range T (i := l.length - 1) (by omega) (v := v) (by rw [hf]; simp)
    omega
/-- One end, or answers to another. -/
theorem one_end (l : List IN) (h : forceB l = true) (T : Tree l) (o : Int) : (endsR l = [o]) ↔ (wrongM l o l.length 0).2 = false := by
  have hp := T.pos
  constructor
  · intro he
    cases hb : (wrongM l o l.length 0).2 with
    | false => rfl
    | true =>
      obtain ⟨j, h1, _, h3, h4⟩ := wrong_play l T o l.length 0 (by omega) hb
      have hm := (mem_ends l h _).2 ((mem_leaves l _).2 ⟨j, h1, h3, rfl⟩)
      rw [he] at hm
      exact absurd (List.mem_singleton.1 hm) h4
  · intro hw
    have all : ∀ y ∈ endsR l, y = o := by
      intro y hy
      obtain ⟨j, hj, h1, h2⟩ := (mem_leaves l y).1 ((mem_ends l h y).1 hy)
      have h3 := wrong_none l T o hw l.length j hj hj
      obtain ⟨d, hd⟩ : ∃ d, l.length = d + 1 := ⟨l.length - 1, by omega⟩
      rw [hd] at h3
      unfold wrongM at h3
      rw [if_pos (show (rd_T49 l (j : Int)).f1.length = 0 from h1)] at h3
      have h4 : ((nodeAt l (j : Int)).f2 != o) = false := h3
      rw [← h2]
      simpa using h4
    have hmem : (nodeAt l ((l.length - 1 : Nat) : Int)).f2 ∈ endsR l := (mem_ends l h _).2 ((mem_leaves l _).2 ⟨l.length - 1, by omega, last_leaf l T, rfl⟩)
    have hasc : (endsR l).Pairwise (· < ·) := by
      unfold endsR
      rw [if_pos h]
      exact compact_asc _ (sortI_sorted _)
    cases he : endsR l with
    | nil => rw [he] at hmem; cases hmem
    | cons a xs =>
      have h1 := all a (by rw [he]; simp)
      cases xs with
      | nil => rw [h1]
      | cons b bs =>
        have h2 := all b (by rw [he]; simp)
        rw [he] at hasc
        have := (List.pairwise_cons.1 hasc).1 b (by simp)
        omega
end Go.Proofs.Ytgldcbcefncjjaa.F
end
section
/- slices.Index and slices.Contains. -/
namespace Go.Proofs.Ytgldcbcefncjjaa.F
open Go.RowKit Go.Proofs.YtgldcbcefncjjaaW.PrintWords Go.Proofs.YtgldcbcefncjjaaW.PrintLast Go.Proofs.YtgldcbcefncjjaaW.PrintMore
set_option linter.unusedVariables false
set_option linter.unusedSimpArgs false
theorem index_at (x : Int) (rest : List Int) : ∀ (pre : List Int), (pre ++ rest).length ≤ 4611686018427387904 →
    ∃ i : Int, Ev (fun k => slices_Index_Lint_int.l0 k (pre ++ rest) x ((pre ++ rest).length : Int) (pre.length : Int)) i ∧ (decide (i ≥ 0) = rest.contains x) ∧ -1 ≤ i ∧ (rest.contains x = true → i < (pre ++ rest).length ∧ rd (pre ++ rest) i = x) := by
  induction rest with
  | nil =>
    intro pre hb
    exact ⟨-1, Ev.step (f := fun _ => some (-1)) (fun k => by rw [slices_Index_Lint_int.l0, if_neg (mid_nlt _)]) (Ev.now _), by simp, by omega, by simp⟩
  | cons y rest ih =>
    intro pre hb
    by_cases e : x = y
    · subst e
      exact ⟨pre.length, Ev.step (f := fun _ => some (pre.length : Int)) (fun k => by rw [slices_Index_Lint_int.l0, if_pos (mid_lt _ _ _), if_pos (nn _), if_pos (mid_lt _ _ _), mid_rd, if_pos rfl]) (Ev.now _), by simp, by omega, fun _ => ⟨mid_lt _ _ _, mid_rd _ _ _⟩⟩
    · obtain ⟨i, h, h1, h2, h3⟩ := ih (pre ++ [y]) (by simpa using hb)
      rw [← mid_cons] at h h3
      have hc : (y :: rest).contains x = rest.contains x := by simp only [List.contains_cons]; rw [show (x == y) = false by simpa using e]; rfl
      exact ⟨i, Ev.step (fun k => by rw [slices_Index_Lint_int.l0, if_pos (mid_lt _ _ _), if_pos (nn _), if_pos (mid_lt _ _ _), mid_rd, if_neg e, mid_succ pre y (by simp at hb; omega)]) h, by rw [hc]; exact h1, h2, by rw [hc]; exact h3⟩
theorem index_ev (l : List Int) (x : Int) (hb : l.length ≤ 4611686018427387904) : ∃ i : Int, Ev (fun k => slices_Index_Lint_int.f k l x) i ∧ (decide (i ≥ 0) = l.contains x) ∧ -1 ≤ i ∧ (l.contains x = true → i < l.length ∧ rd l i = x) := index_at x l [] hb
theorem contains_ev (l : List Int) (x : Int) (hb : l.length ≤ 4611686018427387904) : Ev (fun k => slices_Contains_Lint_int.f k l x) (l.contains x) := by
  obtain ⟨i, h, h1, _⟩ := index_ev l x hb
  unfold slices_Contains_Lint_int.f
  refine Ev.bind h ?_
  rw [h1]
  exact Ev.now _
end Go.Proofs.Ytgldcbcefncjjaa.F
end
section
/- Are some objects fit for a force? The program's. -/
namespace Go.Proofs.Ytgldcbcefncjjaa.F
open Go.RowKit Go.Proofs.YtgldcbcefncjjaaW.PrintWords Go.Proofs.YtgldcbcefncjjaaW.PrintLast Go.Proofs.YtgldcbcefncjjaaW.PrintMore
set_option linter.unusedVariables false
set_option linter.unusedSimpArgs false
def objM : List Int → List Int → Bool
  | _, [] => true
  | pre, x :: xs => decide (0 ≤ x ∧ x ≤ 99) && (!pre.contains x && objM (pre ++ [x]) xs)
def objB (l : List Int) (n w : Int) : Bool := objM [] l && (decide ((l.length : Int) = n) && l.contains w)
theorem mid_take (pre : List Int) (rest : List Int) : (pre ++ rest).take ((pre.length : Int)).toNat = pre := by simp
theorem areObj_at (n w : Int) (rest : List Int) : ∀ (pre : List Int), (pre ++ rest).length ≤ 1048576 →
    Ev (fun k => impl_areObjects.l0 k (pre ++ rest) n w (pre ++ rest) ((pre ++ rest).length : Int) (pre.length : Int)) (objM pre rest && (decide (((pre ++ rest).length : Int) = n) && (pre ++ rest).contains w)) := by
  induction rest with
  | nil =>
    intro pre hb
    by_cases c : ((pre ++ []).length : Int) = n
    · refine Ev.stepb (contains_ev (pre ++ []) w (by omega)) (fun k => by rw [impl_areObjects.l0, if_neg (mid_nlt _), if_pos c]) ?_
      simp only [objM, Bool.true_and, decide_eq_true c]
      exact Ev.now _
    · refine Ev.step (f := fun _ => some false) (fun k => ?_) ?_
      · show impl_areObjects.l0 (k + 1) _ _ _ _ _ _ = _
        rw [impl_areObjects.l0, if_neg (mid_nlt _), if_neg c]
      · simp only [objM, Bool.true_and, decide_eq_false c, Bool.false_and]
        exact Ev.now _
  | cons x rest ih =>
    intro pre hb
    have hp : pre.length ≤ 1048576 := by simp at hb; omega
    by_cases c1 : x < 0
    · refine Ev.step (f := fun _ => some false) (fun k => ?_) ?_
      · show impl_areObjects.l0 (k + 1) _ _ _ _ _ _ = _
        rw [impl_areObjects.l0, if_pos (mid_lt _ _ _), if_pos (nn _), if_pos (mid_lt _ _ _), mid_rd, if_pos c1]
      · simp only [objM, decide_eq_false (show ¬ (0 ≤ x ∧ x ≤ 99) by omega), Bool.false_and]
        exact Ev.now _
    · by_cases c2 : x > 99
      · refine Ev.step (f := fun _ => some false) (fun k => ?_) ?_
        · show impl_areObjects.l0 (k + 1) _ _ _ _ _ _ = _
          rw [impl_areObjects.l0, if_pos (mid_lt _ _ _), if_pos (nn _), if_pos (mid_lt _ _ _), mid_rd, if_neg c1, if_pos c2]
        · simp only [objM, decide_eq_false (show ¬ (0 ≤ x ∧ x ≤ 99) by omega), Bool.false_and]
          exact Ev.now _
      · refine Ev.stepb (contains_ev pre x (by omega)) (fun k => by rw [impl_areObjects.l0, if_pos (mid_lt _ _ _), if_pos (nn _), if_pos (mid_lt _ _ _), mid_rd, if_neg c1, if_neg c2, if_pos (by simp; omega), mid_take]) ?_
        simp only [objM, decide_eq_true (show 0 ≤ x ∧ x ≤ 99 by omega), Bool.true_and]
        by_cases d : pre.contains x = true
        · simp only [d, if_true, Bool.not_true, Bool.false_and]
          exact Ev.now _
        · have d' : pre.contains x = false := by simpa using d
          have h := ih (pre ++ [x]) (by simpa using hb)
          rw [← mid_cons, ← mid_succ pre x (by omega)] at h
          simp only [d', Bool.false_eq_true, if_false, Bool.not_false, Bool.true_and]
          exact h
theorem areObj_ev (l : List Int) (n w : Int) (hb : l.length ≤ 1048576) : Ev (fun k => impl_areObjects.f k l n w) (objB l n w) := areObj_at n w l [] hb
end Go.Proofs.Ytgldcbcefncjjaa.F
end
section
/- The force with four objects: the program's. -/
namespace Go.Proofs.Ytgldcbcefncjjaa.F
open Go.RowKit Go.Proofs.YtgldcbcefncjjaaW.PrintWords Go.Proofs.YtgldcbcefncjjaaW.PrintLast Go.Proofs.YtgldcbcefncjjaaW.PrintMore
set_option linter.unusedVariables false
set_option linter.unusedSimpArgs false
def fourR (l : List Int) (a : Int) : List IN × Bool := if objB l 4 a = true then (fourN a, true) else ([], false)
theorem impl_four_ev (l : List Int) (a : Int) (hb : l.length ≤ 1048576) : Ev (fun k => impl_FourForce.f k l a) (fourR l a) := by
  unfold impl_FourForce.f fourR
  refine Ev.bind (areObj_ev l 4 a hb) ?_
  by_cases c : objB l 4 a = true
  · simp only [if_pos c]; exact Ev.now _
  · simp only [if_neg c]; exact Ev.now _
end Go.Proofs.Ytgldcbcefncjjaa.F
end
section
/- The force with two objects: the program's. -/
namespace Go.Proofs.Ytgldcbcefncjjaa.F
open Go.RowKit Go.Proofs.YtgldcbcefncjjaaW.PrintWords Go.Proofs.YtgldcbcefncjjaaW.PrintLast Go.Proofs.YtgldcbcefncjjaaW.PrintMore
set_option linter.unusedVariables false
set_option linter.unusedSimpArgs false
def sayN (w x : Int) : IN := ⟨if x = w then (⟨#[121, 111, 117, 114, 115]⟩ : ByteArray) else (⟨#[112, 117, 116, 32, 105, 116, 32, 97, 119, 97, 121]⟩ : ByteArray), [], w⟩
theorem impl_pair_at (w : Int) (rest : List Int) : ∀ (pre : List Int) (acc : List IN), (pre ++ rest).length ≤ 1048576 → acc.length = pre.length + 1 →
    Ev (fun k => impl_PairForce.l0 k w acc (pre ++ rest) (pre.length : Int)) (acc ++ rest.map (sayN w), true) := by
  induction rest with
  | nil =>
    intro pre acc hb ha
    refine Ev.step (f := fun _ => some (acc ++ [], true)) (fun k => ?_) (Ev.now _)
    show impl_PairForce.l0 (k + 1) _ _ _ _ = _
    rw [impl_PairForce.l0, if_neg (mid_nlt _), List.append_nil]
  | cons x rest ih =>
    intro pre acc hb ha
    have hp : pre.length ≤ 1048576 := by simp at hb; omega
    have h := ih (pre ++ [x]) (acc ++ [sayN w x]) (by simpa using hb) (by simpa using ha)
    rw [← mid_cons, ← mid_succ pre x (by omega)] at h
    rw [List.map_cons, show acc ++ sayN w x :: rest.map (sayN w) = acc ++ [sayN w x] ++ rest.map (sayN w) by simp]
    refine Ev.step (fun k => ?_) h
    show impl_PairForce.l0 (k + 1) _ _ _ _ = _
    rw [impl_PairForce.l0, if_pos (mid_lt _ _ _), if_pos (nn _), if_pos (by omega), mid_rd]
    rfl
def pairR (l : List Int) (a : Int) : List IN × Bool := if objB l 2 a = true then (pairN ++ l.map (sayN a), true) else ([], false)
theorem impl_pair_ev (l : List Int) (a : Int) (hb : l.length ≤ 1048576) : Ev (fun k => impl_PairForce.f k l a) (pairR l a) := by
  unfold impl_PairForce.f pairR
  refine Ev.bind (areObj_ev l 2 a hb) ?_
  by_cases c : objB l 2 a = true
  · simp only [if_pos c]; exact impl_pair_at a l [] pairN hb rfl
  · simp only [if_neg c]; exact Ev.now _
end Go.Proofs.Ytgldcbcefncjjaa.F
end
section
/- The forces with two and four objects end with the wanted object whatever is answered. -/
namespace Go.Proofs.Ytgldcbcefncjjaa.Pure
open Go.RowKit Go.Proofs.Ytgldcbcefncjjaa.F Go.Proofs.YtgldcbcefncjjaaW.PrintWords Go.Proofs.YtgldcbcefncjjaaW.PrintLast Go.Proofs.YtgldcbcefncjjaaW.PrintMore
set_option linter.unusedVariables false
set_option linter.unusedSimpArgs false
def eqvC (a b : List IN) (w : Int) : Bool := forceB a && (forceB b && (!(wrongM a w a.length 0).2 && (!(wrongM b (w + 20) b.length 0).2 && (decide (hgt a a.length 0 = 2) && (decide (hgt b b.length 0 = 1) && ((a.all fun x => decide (x.f1.length ≤ 2)) && (b.all fun x => decide (x.f1.length ≤ 2))))))))
def plyC (a : List IN) (w : Int) (q : List Int) : Bool := (playM a 0 q).2 && (decide (0 ≤ (playM a 0 q).1) && (decide ((playM a 0 q).1 < (a.length : Int)) && (decide ((rd_T49 a (playM a 0 q).1).f2 = w) && decide ((rd_T49 a (playM a 0 q).1).f1.length = 0))))
theorem eqv_all : ∀ p0 w : Fin 4, eqvC (fourN (w.1 : Int)) (pairN ++ [(p0.1 : Int), (w.1 : Int) + 20].map (sayN ((w.1 : Int) + 20))) (w.1 : Int) = true := by decide +kernel
theorem ply_all : ∀ w : Fin 4, plyC (fourN (w.1 : Int)) (w.1 : Int) [0, 0] = true ∧ plyC (fourN (w.1 : Int)) (w.1 : Int) [0, 1] = true ∧ plyC (fourN (w.1 : Int)) (w.1 : Int) [1, 0] = true ∧ plyC (fourN (w.1 : Int)) (w.1 : Int) [1, 1] = true := by decide +kernel
theorem obj_all : ∀ a b c d w : Fin 4, [a, b, c, d].Nodup → objB [(a.1 : Int), (b.1 : Int), (c.1 : Int), (d.1 : Int)] 4 (w.1 : Int) = true ∧ objB [(a.1 : Int), (b.1 : Int), (c.1 : Int), (d.1 : Int)] 2 (w.1 : Int) = false ∧ objB [(a.1 : Int), (b.1 : Int), (c.1 : Int), (d.1 : Int)] 4 9 = false ∧ objB [(a.1 : Int), (w.1 : Int) + 20] 2 ((w.1 : Int) + 20) = true := by decide +kernel
theorem isForced_ev (l : List IN) (o : Int) (h : forceB l = true) (hb : l.length ≤ 1048576) (hx : ∀ x ∈ l, x.f1.length ≤ 1048576) (hw : (wrongM l o l.length 0).2 = false) : Ev (fun k => impl_IsForced.f k l o) true := by
  have T := tree_of l hx h
  have e := (one_end l h T o).2 hw
  have hE := impl_ends_ev l hb (fun x hx' => by have := hx x hx'; omega)
  unfold impl_IsForced.f
  refine Ev.bind hE ?_
  have := slEq_ev (endsR l) [o] (by have := endsR_len l hb; omega)
  rw [decide_eq_true e] at this
  exact Ev.bind this (Ev.now _)
theorem ply_step (w : Int) (a b : List IN) (i : Int) (q0 q1 : Int) (h0 : 0 ≤ i) (h4 : i < 4) (e0 : Int.tdiv i 2 = q0) (e1 : Int.tmod i 2 = q1) (g0 : 0 ≤ q0) (g1 : q0 ≤ 1) (hf : forceB a = true) (hx : ∀ x ∈ a, x.f1.length ≤ 1048576) (hc : plyC a w [q0, q1] = true) (h : Ev (fun k => laws_FnEquivocal.l0 k w a b (i + 1)) true) : Ev (fun k => laws_FnEquivocal.l0 k w a b i) true := by
  unfold plyC at hc
  simp only [Bool.and_eq_true, decide_eq_true_eq] at hc
  obtain ⟨c1, c2, c3, c4, c5⟩ := hc
  have hP := impl_play_ev a [q0, q1] (fun x hx' => by have := hx x hx'; omega) (by simp) hf
  generalize playM a 0 [q0, q1] = R at hP c1 c2 c3 c4 c5
  have hw : wrap64 q0 = q0 := w64_id (by omega) (by omega)
  have hw2 : wrap64 (i + 1) = i + 1 := w64_id (by omega) (by omega)
  refine Ev.stepb hP (fun k => by show laws_FnEquivocal.l0 (k + 1) w a b i = _; rw [laws_FnEquivocal.l0, if_pos h4, e0, e1, hw]) ?_
  simp only [if_pos c1, if_neg (show ¬ R.1 < 0 by omega), if_neg (show ¬ R.1 ≥ (a.length : Int) by omega), if_pos c2, if_pos c3, if_pos c4, if_pos (show ((rd_T49 a R.1).f1.length : Int) = 0 by omega), hw2]
  exact h
theorem FnEquivocal : laws_FnEquivocal.Pure := by
  intro c _ _ _
  by_cases hbig : (c.length : Int) > 1048576
  · exact ⟨0, by unfold laws_FnEquivocal.f; rw [if_pos hbig]⟩
  · have hb : c.length ≤ 1048576 := by omega
    obtain ⟨p, hM, hperm⟩ := perm_ev c 3 4 hb (by omega) (by omega) (by omega) (by omega)
    obtain ⟨v, hN, v0, v1⟩ := num_ev c 20 hb (by omega) (by omega)
    have hl : p.length = 4 := by rw [hperm.length_eq, seqFrom_length]; rfl
    have hmem : ∀ x ∈ p, ∃ f : Fin 4, x = (f.1 : Int) := by
      intro x hx
      have := (mem_seqFrom 4 0 x).1 (hperm.mem_iff.1 hx)
      exact ⟨⟨x.toNat, by omega⟩, by simp; omega⟩
    have hnd : p.Nodup := hperm.nodup_iff.2 (nodup_seqFrom 4 0)
    obtain ⟨x0, x1, x2, x3, rfl⟩ : ∃ a b c d, p = [a, b, c, d] := by
      match p, hl with
      | [a, b, c, d], _ => exact ⟨a, b, c, d, rfl⟩
    obtain ⟨a, rfl⟩ := hmem x0 (by simp)
    obtain ⟨b, rfl⟩ := hmem x1 (by simp)
    obtain ⟨d, rfl⟩ := hmem x2 (by simp)
    obtain ⟨e, rfl⟩ := hmem x3 (by simp)
    have hnd2 : [a, b, d, e].Nodup := by
      have h1 : ([a, b, d, e].map (fun f : Fin 4 => (f.1 : Int))).Nodup := hnd
      exact List.Pairwise.of_map (fun f : Fin 4 => (f.1 : Int)) (fun x y h e => h (by rw [e])) h1
    obtain ⟨j, hj⟩ : ∃ j : Int, j = Int.tmod v 4 := ⟨_, rfl⟩
    have hj0 : 0 ≤ j ∧ j < 4 := by
      rw [hj, Int.tmod_eq_emod_of_nonneg v0]
      omega
    obtain ⟨w, hw⟩ : ∃ w : Fin 4, rd [(a.1 : Int), (b.1 : Int), (d.1 : Int), (e.1 : Int)] j = (w.1 : Int) := by
      have : rd [(a.1 : Int), (b.1 : Int), (d.1 : Int), (e.1 : Int)] j ∈ [(a.1 : Int), (b.1 : Int), (d.1 : Int), (e.1 : Int)] := rd_mem _ _ hj0.1 (by simp; omega)
      exact hmem _ this
    obtain ⟨o1, o2, o3, o4⟩ := obj_all a b d e w hnd2
    have hR0 : rd [(a.1 : Int), (b.1 : Int), (d.1 : Int), (e.1 : Int)] 0 = (a.1 : Int) := rfl
    have hw20 : wrap64 ((w.1 : Int) + 20) = (w.1 : Int) + 20 := w64_id (by omega) (by omega)
    have F1 := impl_four_ev [(a.1 : Int), (b.1 : Int), (d.1 : Int), (e.1 : Int)] (w.1 : Int) (by simp)
    have F2 := impl_pair_ev [(a.1 : Int), (w.1 : Int) + 20] ((w.1 : Int) + 20) (by simp)
    have F3 := impl_pair_ev [(a.1 : Int), (b.1 : Int), (d.1 : Int), (e.1 : Int)] (w.1 : Int) (by simp)
    have F4 := impl_four_ev [(a.1 : Int), (b.1 : Int), (d.1 : Int), (e.1 : Int)] 9 (by simp)
    unfold fourR at F1 F4
    unfold pairR at F2 F3
    simp only [o1, o2, o3, o4, if_true, if_false, Bool.false_eq_true] at F1 F2 F3 F4
    have hE := eqv_all a w
    obtain ⟨A, hA⟩ : ∃ A, A = fourN (w.1 : Int) := ⟨_, rfl⟩
    obtain ⟨B, hB⟩ : ∃ B, B = pairN ++ [(a.1 : Int), (w.1 : Int) + 20].map (sayN ((w.1 : Int) + 20)) := ⟨_, rfl⟩
    have hP := ply_all w
    have hAl : A.length = 7 := by rw [hA]; rfl
    have hBl : B.length = 3 := by rw [hB]; rfl
    rw [← hA] at F1 hE hP
    rw [← hB] at F2 hE
    unfold eqvC at hE
    simp only [Bool.and_eq_true, Bool.not_eq_true', decide_eq_true_eq, List.all_eq_true] at hE
    obtain ⟨f1, f2, w1, w2, d1, d2, xa, xb⟩ := hE
    have hxa : ∀ x ∈ A, x.f1.length ≤ 1048576 := fun x hx => by have := xa x hx; omega
    have hxb : ∀ x ∈ B, x.f1.length ≤ 1048576 := fun x hx => by have := xb x hx; omega
    have I1 := isForced_ev A (w.1 : Int) f1 (by omega) hxa w1
    have I2 := isForced_ev B ((w.1 : Int) + 20) f2 (by omega) hxb w2
    have G1 := impl_Force_ev A (fun x hx => by have := hxa x hx; omega)
    have G2 := impl_Force_ev B (fun x hx => by have := hxb x hx; omega)
    rw [f1] at G1
    rw [f2] at G2
    have D1 := impl_depth_ev A hxa f1
    have D2 := impl_depth_ev B hxb f2
    rw [d1] at D1
    rw [d2] at D2
    have hend : Ev (fun k => laws_FnEquivocal.l0 k (w.1 : Int) A B 4) true := by
      refine Ev.stepb D1 (fun k => by show laws_FnEquivocal.l0 (k + 1) _ A B 4 = _; rw [laws_FnEquivocal.l0, if_neg (by omega)]) ?_
      simp only [if_pos (show ((2 : Nat) : Int) = 2 from rfl)]
      exact Ev.bind D2 (Ev.now _)
    obtain ⟨p1, p2, p3, p4⟩ := hP
    have hloop : Ev (fun k => laws_FnEquivocal.l0 k (w.1 : Int) A B 0) true :=
      ply_step _ A B 0 0 0 (by omega) (by omega) (by decide) (by decide) (by omega) (by omega) f1 hxa p1
      (ply_step _ A B 1 0 1 (by omega) (by omega) (by decide) (by decide) (by omega) (by omega) f1 hxa p2
      (ply_step _ A B 2 1 0 (by omega) (by omega) (by decide) (by decide) (by omega) (by omega) f1 hxa p3
      (ply_step _ A B 3 1 1 (by omega) (by omega) (by decide) (by decide) (by omega) (by omega) f1 hxa p4 hend)))
    have hj0' : Ev (fun k => laws_FnEquivocal.j0 k (w.1 : Int) A B false) true := by
      refine Ev.step (fun k => ?_) hloop
      show laws_FnEquivocal.j0 (k + 1) _ A B false = _
      rw [laws_FnEquivocal.j0, if_neg (by simp)]
    have main : Ev (fun k => laws_FnEquivocal.f k c) true := by
      unfold laws_FnEquivocal.f
      simp only [if_neg hbig]
      refine Ev.bind hM (Ev.bind hN ?_)
      simp only [← hj, if_pos hj0.1, if_pos (show j < (([(a.1 : Int), (b.1 : Int), (d.1 : Int), (e.1 : Int)] : List Int).length : Int) by simp; omega), hw, hR0, hw20, if_pos (show 0 < (([(a.1 : Int), (b.1 : Int), (d.1 : Int), (e.1 : Int)] : List Int).length : Int) by simp)]
      refine Ev.bind F1 (Ev.bind F2 (Ev.bind F3 (Ev.bind F4 ?_)))
      simp only [if_true, Bool.false_eq_true, if_false]
      refine Ev.bind G1 ?_
      simp only [if_true]
      refine Ev.bind G2 ?_
      simp only [if_true]
      refine Ev.bind I1 ?_
      simp only [if_true]
      refine Ev.bind I2 ?_
      exact hj0'
    exact main.imp fun K hK => hK K (Nat.le_refl _)
end Go.Proofs.Ytgldcbcefncjjaa.Pure
end
