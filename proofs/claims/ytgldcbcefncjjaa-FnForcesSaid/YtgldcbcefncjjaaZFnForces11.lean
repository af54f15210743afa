import Derived.Test.YtgldcbcefncjjaaZFnForces4
import Derived.Test.YtgldcbcefncjjaaZFnForces10
import Derived.Test.YtgldcbcefncjjaaZFnForces5
import Derived.Test.YtgldcbcefncjjaaZFnForces6
import Derived.Test.YtgldcbcefncjjaaZFnForces8
import Derived.Test.YtgldcbcefncjjaaZFnForces9
section
/- Laid by a program of this claim's own. What the Go function does, as a Lean function, and the proof that the Go code does just that; Lean checks it. -/
namespace Go.Proofs.Ytgldcbcefncjjaa.F
open Go.RowKit Go.Proofs.YtgldcbcefncjjaaW.PrintWords Go.Proofs.YtgldcbcefncjjaaW.PrintLast Go.Proofs.YtgldcbcefncjjaaW.PrintMore
attribute [local go_sem] max2_int min2_int max_two min_two max_three min_three max_four min_four   -- for this text's walks alone
set_option linter.unusedVariables false
set_option linter.unusedSimpArgs false
/-! ### spec_l13Wrong: function 58 -/
mutual
def spec_l13Wrong.l0 : Nat → List (S49) → Int → List Int → Int → Int → Option (List Int × Bool)
  | 0, _, _, _, _, _ => none
  | k + 1, x0, x2, x27, x28, x29 => if x29 < x28 then (if 0 ≤ x29 then (if x29 < (x27.length : Int) then ((spec_l13Wrong.f k x0 (rd x27 x29) x2).bind fun bt186 => (if bt186.2 = true then ((some (([x29] : List Int) : List Int)).bind fun y190 => (if y190.length + bt186.1.length < 17592186044416 then (some ((y190 ++ bt186.1), true)) else (none))) else (spec_l13Wrong.l0 k x0 x2 x27 x28 (wrap64 (x29 + 1))))) else (none)) else (none)) else (some (([] : List Int), false))
def spec_l13Wrong.f : Nat → List (S49) → Int → Int → Option (List Int × Bool)
  | 0, _, _, _ => none
  | k + 1, l0, a1, a2 => if 0 ≤ a1 then (if a1 < (l0.length : Int) then (if (((rd_T49 l0 a1).f1).length : Int) = 0 then (some ((([] : List Int)), (((rd_T49 l0 a1).f2) != a2))) else (spec_l13Wrong.l0 k l0 a2 ((rd_T49 l0 a1).f1) (((rd_T49 l0 a1).f1).length : Int) 0)) else (none)) else (none)
end
end Go.Proofs.Ytgldcbcefncjjaa.F
end
section
/- The least answers that lead to another object: the program's function and the reference's are one. -/
namespace Go.Proofs.Ytgldcbcefncjjaa.F
open Go.RowKit Go.Proofs.YtgldcbcefncjjaaW.PrintWords Go.Proofs.YtgldcbcefncjjaaW.PrintLast Go.Proofs.YtgldcbcefncjjaaW.PrintMore
set_option linter.unusedVariables false
set_option linter.unusedSimpArgs false
theorem answers_eq (k : Nat) : (∀ x0 x2 x26 x27 x28, impl_answersFrom.l0 k x0 x2 x26 x27 x28 = spec_l13Wrong.l0 k x0 x2 x26 x27 x28) ∧ (∀ l a o, impl_answersFrom.f k l a o = spec_l13Wrong.f k l a o) := by
  induction k with
  | zero => exact ⟨fun _ _ _ _ _ => rfl, fun _ _ _ => rfl⟩
  | succ k ih =>
    obtain ⟨h1, h2⟩ := ih
    refine ⟨fun x0 x2 x26 x27 x28 => ?_, fun l a o => ?_⟩
    · unfold impl_answersFrom.l0 spec_l13Wrong.l0
      simp only [h1, h2]
    · unfold impl_answersFrom.f spec_l13Wrong.f
      simp only [h1]
def tryM (f : Nat → List Int × Bool) : List Int → Int → List Int × Bool
  | [], _ => ([], false)
  | v :: vs, i => if (f v.toNat).2 = true then (i :: (f v.toNat).1, true) else tryM f vs (i + 1)
/-- The least answers from a node on to another object. -/
def wrongM (l : List IN) (o : Int) : Nat → Nat → List Int × Bool
  | 0, _ => ([], false)
  | d + 1, i => if (rd_T49 l (i : Int)).f1.length = 0 then ([], (rd_T49 l (i : Int)).f2 != o) else tryM (wrongM l o d) (rd_T49 l (i : Int)).f1 0
theorem tryM_len (f : Nat → List Int × Bool) (d : Nat) (hf : ∀ i, (f i).1.length ≤ d) (vs : List Int) : ∀ i, (tryM f vs i).1.length ≤ d + 1 := by
  induction vs with
  | nil => intro i; simp [tryM]
  | cons v vs ih =>
    intro i
    unfold tryM
    split
    · have := hf v.toNat
      simp only [List.length_cons]
      omega
    · exact ih (i + 1)
theorem wrongM_len (l : List IN) (o : Int) (d : Nat) : ∀ i, (wrongM l o d i).1.length ≤ d := by
  induction d with
  | zero => intro i; simp [wrongM]
  | succ d ih =>
    intro i
    unfold wrongM
    split
    · simp
    · exact tryM_len _ d ih _ _
theorem try_at (l : List IN) (o : Int) (d : Nat) (hd : d ≤ 1048576) (xs : List Int) (hx : xs.length ≤ 1048576) (vs : List Int) : ∀ pre, xs = pre ++ vs → (∀ v ∈ vs, 0 ≤ v ∧ Ev (fun k => spec_l13Wrong.f k l v o) (wrongM l o d v.toNat)) →
    Ev (fun k => spec_l13Wrong.l0 k l o xs (xs.length : Int) (pre.length : Int)) (tryM (wrongM l o d) vs (pre.length : Int)) := by
  induction vs with
  | nil =>
    intro pre e h
    subst e
    refine Ev.step (f := fun _ => some (([] : List Int), false)) (fun k => ?_) (Ev.now _)
    show spec_l13Wrong.l0 (k + 1) _ _ _ _ _ = _
    rw [spec_l13Wrong.l0, if_neg (mid_nlt _)]
  | cons v vs ih =>
    intro pre e h
    have hp : pre.length ≤ 1048576 := by rw [e] at hx; simp at hx; omega
    have h2 := ih (pre ++ [v]) (by rw [e]; simp) (fun w hw => h w (by simp [hw]))
    rw [← mid_succ pre v (by omega)] at h2
    obtain ⟨hv, hE⟩ := h v (by simp)
    subst e
    refine Ev.stepb hE (fun k => by rw [spec_l13Wrong.l0, if_pos (mid_lt _ _ _), if_pos (nn _), if_pos (mid_lt _ _ _), mid_rd]) ?_
    unfold tryM
    have hlen := wrongM_len l o d v.toNat
    by_cases c : (wrongM l o d v.toNat).2 = true
    · simp only [if_pos c, Option.bind_some, if_pos (show ([(pre.length : Int)] : List Int).length + (wrongM l o d v.toNat).1.length < 17592186044416 by simp; omega)]
      exact Ev.now _
    · simp only [if_neg c]
      have hw : wrap64 ((pre.length : Int) + 1) = (pre.length : Int) + 1 := w64_id (by omega) (by omega)
      rw [hw] at h2 ⊢
      exact h2
theorem wrong_at (l : List IN) (T : Tree l) (hx : ∀ x ∈ l, x.f1.length ≤ 1048576) (o : Int) (d : Nat) : d ≤ 1048576 → ∀ i, i < l.length → l.length ≤ i + d → Ev (fun k => spec_l13Wrong.f k l (i : Int) o) (wrongM l o d i) := by
  induction d with
  | zero => intro _ i h1 h2; omega
  | succ d ih =>
    intro hd i h1 h2
    obtain ⟨x, hxe⟩ : ∃ x, x = l[i] := ⟨_, rfl⟩
    have hsp : l = l.take i ++ x :: l.drop (i + 1) := by rw [hxe, List.getElem_cons_drop, List.take_append_drop]
    have hrd : rd_T49 l (i : Int) = x := by
      unfold rd_T49
      rw [Int.toNat_natCast, List.getD_eq_getElem?_getD, List.getElem?_eq_getElem h1, hxe]; rfl
    have hmem : x ∈ l := by rw [hxe]; exact List.getElem_mem h1
    have hup := T.up _ _ _ hsp
    have htl : (l.take i).length = i := by simp; omega
    rw [htl] at hup
    unfold wrongM
    rw [hrd]
    by_cases c : x.f1.length = 0
    · rw [if_pos c]
      refine Ev.step (f := fun _ => some (([] : List Int), x.f2 != o)) (fun k => ?_) (Ev.now _)
      show spec_l13Wrong.f (k + 1) _ _ _ = _
      rw [spec_l13Wrong.f, if_pos (nn _), if_pos (by omega), hrd, if_pos (by omega)]
    · rw [if_neg c]
      have h3 := try_at l o d (by omega) x.f1 (hx x hmem) x.f1 [] rfl (fun v hv => by
        have := hup v hv
        have hv0 : 0 ≤ v := by omega
        refine ⟨hv0, ?_⟩
        have h4 := ih (by omega) v.toNat (by omega) (by omega)
        rwa [Int.toNat_of_nonneg hv0] at h4)
      refine Ev.step (fun k => ?_) h3
      show spec_l13Wrong.f (k + 1) _ _ _ = _
      rw [spec_l13Wrong.f, if_pos (nn _), if_pos (by omega), hrd, if_neg (by omega)]
      rfl
/-- What both answer. -/
def answersR (l : List IN) (o : Int) : List Int × Bool := if forceB l = true then wrongM l o l.length 0 else ([], false)
theorem impl_answers_ev (l : List IN) (o : Int) (hx : ∀ x ∈ l, x.f1.length ≤ 1048576) : Ev (fun k => impl_AnswersTo.f k l o) (answersR l o) := by
  unfold impl_AnswersTo.f answersR
  refine Ev.bind (impl_Force_ev l (fun x h => by have := hx x h; omega)) ?_
  by_cases c : forceB l = true
  · have T := tree_of l hx c
    have h1 := T.pos
    have h2 := T.le
    simp only [if_pos c]
    have h3 := wrong_at l T hx o l.length (by omega) 0 (by omega) (by omega)
    have h4 : Ev (fun k => impl_answersFrom.f k l 0 o) (wrongM l o l.length 0) := by
      have e : (fun k => impl_answersFrom.f k l 0 o) = fun k => spec_l13Wrong.f k l 0 o := by
        funext k
        exact (answers_eq k).2 l 0 o
      rw [e]
      exact h3
    exact Ev.bind h4 (Ev.now _)
  · simp only [if_neg c]
    exact Ev.now _
end Go.Proofs.Ytgldcbcefncjjaa.F
end
section
/- Laid by a program of this claim's own. What the Go function does, as a Lean function, and the proof that the Go code does just that; Lean checks it. -/
namespace Go.Proofs.Ytgldcbcefncjjaa.F
open Go.RowKit Go.Proofs.YtgldcbcefncjjaaW.PrintWords Go.Proofs.YtgldcbcefncjjaaW.PrintLast Go.Proofs.YtgldcbcefncjjaaW.PrintMore
attribute [local go_sem] max2_int min2_int max_two min_two max_three min_three max_four min_four   -- for this text's walks alone
set_option linter.unusedVariables false
set_option linter.unusedSimpArgs false
/-! ### spec_l13Sorted: function 62 -/
mutual
def spec_l13Sorted.l0 : Nat → List Int → List Int → Int → Int → Option (List Int)
  | 0, _, _, _, _ => none
  | k + 1, x3, x8, x9, x10 => if x10 < x9 then (if 0 ≤ x10 then (if x10 < (x8.length : Int) then (if x3.length < 17592186044416 then ((some (x3 ++ [0] : List Int)).bind fun y252 => (spec_l13Sorted.l1 k y252 (rd x8 x10) (wrap64 ((y252.length : Int) - 1)) x8 x9 x10)) else (none)) else (none)) else (none)) else (some x3)
def spec_l13Sorted.l1 : Nat → List Int → Int → Int → List Int → Int → Int → Option (List Int)
  | 0, _, _, _, _, _, _ => none
  | k + 1, x3, x5, x6, x8, x9, x10 => if x6 > 0 then (if 0 ≤ (wrap64 (x6 - 1)) then (if (wrap64 (x6 - 1)) < (x3.length : Int) then (if (rd x3 (wrap64 (x6 - 1))) > x5 then (if 0 ≤ x6 then (if x6 < (x3.length : Int) then (spec_l13Sorted.l1 k (x3.set (x6 : Int).toNat (rd x3 (wrap64 (x6 - 1)))) x5 (wrap64 (x6 - 1)) x8 x9 x10) else (none)) else (none)) else (if 0 ≤ x6 then (if x6 < (x3.length : Int) then (spec_l13Sorted.l0 k (x3.set (x6 : Int).toNat x5) x8 x9 (wrap64 (x10 + 1))) else (none)) else (none))) else (none)) else (none)) else (if 0 ≤ x6 then (if x6 < (x3.length : Int) then (spec_l13Sorted.l0 k (x3.set (x6 : Int).toNat x5) x8 x9 (wrap64 (x10 + 1))) else (none)) else (none))
end
end Go.Proofs.Ytgldcbcefncjjaa.F
end
section
/- The ends of a force: sorted, each once. -/
namespace Go.Proofs.Ytgldcbcefncjjaa.F
open Go.RowKit Go.Proofs.YtgldcbcefncjjaaW.PrintWords Go.Proofs.YtgldcbcefncjjaaW.PrintLast Go.Proofs.YtgldcbcefncjjaaW.PrintMore
set_option linter.unusedVariables false
set_option linter.unusedSimpArgs false
/-- The objects at a force's ends. -/
def leaves (l : List IN) : List Int := (l.filter fun x => decide (x.f1.length = 0)).map fun x => x.f2
theorem leaves_yes (x : IN) (l : List IN) (h : x.f1.length = 0) : leaves (x :: l) = x.f2 :: leaves l := by
  unfold leaves
  rw [List.filter_cons_of_pos (by simpa using h), List.map_cons]
theorem leaves_no (x : IN) (l : List IN) (h : ¬ x.f1.length = 0) : leaves (x :: l) = leaves l := by
  unfold leaves
  rw [List.filter_cons_of_neg (by simpa using h)]
open Go.Lib in
theorem impl_ends_at (rest : List IN) : ∀ (pre : List IN) (acc : List Int), (pre ++ rest).length ≤ 1048576 → acc.length ≤ pre.length →
    Ev (fun k => impl_EndsOf.l0 k acc (pre ++ rest) ((pre ++ rest).length : Int) (pre.length : Int)) (compact (sortI (acc ++ leaves rest))) := by
  induction rest with
  | nil =>
    intro pre acc hb ha
    refine Ev.step (f := fun _ => some (compact (sortI (acc ++ leaves [])))) (fun k => ?_) (Ev.now _)
    show impl_EndsOf.l0 (k + 1) _ _ _ _ = _
    rw [impl_EndsOf.l0, if_neg (mid_nlt _), if_pos (by simp at hb; omega), show acc ++ leaves [] = acc by simp [leaves]]
  | cons x rest ih =>
    intro pre acc hb ha
    have hp : pre.length ≤ 1048576 := by simp at hb; omega
    by_cases c : x.f1.length = 0
    · have h := ih (pre ++ [x]) (acc ++ [x.f2]) (by simpa using hb) (by simpa using ha)
      rw [← mid_cons, ← mid_succ pre x (by omega)] at h
      rw [leaves_yes x rest c, show acc ++ x.f2 :: leaves rest = acc ++ [x.f2] ++ leaves rest by simp]
      refine Ev.step (fun k => ?_) h
      show impl_EndsOf.l0 (k + 1) _ _ _ _ = _
      rw [impl_EndsOf.l0, if_pos (mid_lt _ _ _), if_pos (nn _), if_pos (mid_lt _ _ _), mid_rdIN, if_pos (by omega), if_pos (by omega)]
    · have h := ih (pre ++ [x]) acc (by simpa using hb) (by simp; omega)
      rw [← mid_cons, ← mid_succ pre x (by omega)] at h
      rw [leaves_no x rest c]
      refine Ev.step (fun k => ?_) h
      show impl_EndsOf.l0 (k + 1) _ _ _ _ = _
      rw [impl_EndsOf.l0, if_pos (mid_lt _ _ _), if_pos (nn _), if_pos (mid_lt _ _ _), mid_rdIN, if_neg (by omega)]
/-- What both answer. -/
def endsR (l : List IN) : List Int := if forceB l = true then Go.Lib.compact (sortI (leaves l)) else []
theorem impl_ends_ev (l : List IN) (hb : l.length ≤ 1048576) (hx : ∀ x ∈ l, x.f1.length ≤ 4611686018427387904) : Ev (fun k => impl_EndsOf.f k l) (endsR l) := by
  unfold impl_EndsOf.f endsR
  refine Ev.bind (impl_Force_ev l hx) ?_
  by_cases c : forceB l = true
  · simp only [if_pos c]
    exact impl_ends_at l [] [] hb (Nat.le_refl _)
  · simp only [if_neg c]
    exact Ev.now _
theorem endsR_len (l : List IN) (hb : l.length ≤ 1048576) : (endsR l).length ≤ 1048576 := by
  unfold endsR
  split
  · have h1 : (Go.Lib.compact (sortI (leaves l))).length ≤ (sortI (leaves l)).length := by
      unfold Go.Lib.compact Go.Lib.compactUpTo
      rw [List.length_map]
      have := List.length_filter_le (Go.Lib.keeps (sortI (leaves l)).toArray) (List.range (sortI (leaves l)).length)
      simpa using this
    have h2 : (sortI (leaves l)).length = (leaves l).length := by unfold sortI; simp
    have h3 : (leaves l).length ≤ l.length := by
      unfold leaves
      rw [List.length_map]
      exact List.length_filter_le _ _
    omega
  · simp
end Go.Proofs.Ytgldcbcefncjjaa.F
end
section
/- slices.Equal. -/
namespace Go.Proofs.Ytgldcbcefncjjaa.F
open Go.RowKit Go.Proofs.YtgldcbcefncjjaaW.PrintWords Go.Proofs.YtgldcbcefncjjaaW.PrintLast Go.Proofs.YtgldcbcefncjjaaW.PrintMore
set_option linter.unusedVariables false
set_option linter.unusedSimpArgs false
theorem slEq_at (rest : List Int) : ∀ (pre ys : List Int), (pre ++ ys).length ≤ 4611686018427387904 → rest.length = ys.length →
    Ev (fun k => slices_Equal_Lint_int.l0 k (pre ++ rest) (pre ++ ys) ((pre ++ rest).length : Int) (pre.length : Int)) (decide (rest = ys)) := by
  induction rest with
  | nil =>
    intro pre ys hb hl
    obtain rfl : ys = [] := List.length_eq_zero_iff.mp hl.symm
    exact Ev.step (f := fun _ => some true) (fun k => by rw [slices_Equal_Lint_int.l0, if_neg (mid_nlt _)]) (Ev.now _)
  | cons x rest ih =>
    intro pre ys hb hl
    cases ys with
    | nil => simp at hl
    | cons y ys =>
      by_cases e : x = y
      · subst e
        have h := ih (pre ++ [x]) ys (by simpa using hb) (by simpa using hl)
        rw [← mid_cons, ← mid_cons, ← mid_succ pre x (by simp at hb; omega)] at h
        rw [show decide (x :: rest = x :: ys) = decide (rest = ys) by simp]
        exact Ev.step (fun k => by rw [slices_Equal_Lint_int.l0, if_pos (mid_lt _ _ _), if_pos (nn _), if_pos (mid_lt _ _ _), if_pos (mid_lt _ _ _), mid_rd, mid_rd, if_pos rfl]) h
      · rw [show decide (x :: rest = y :: ys) = false by simp [e]]
        exact Ev.step (f := fun _ => some false) (fun k => by rw [slices_Equal_Lint_int.l0, if_pos (mid_lt _ _ _), if_pos (nn _), if_pos (mid_lt _ _ _), if_pos (mid_lt _ _ _), mid_rd, mid_rd, if_neg e]) (Ev.now _)
theorem slEq_ev (l m : List Int) (hl : l.length ≤ 4611686018427387904) : Ev (fun k => slices_Equal_Lint_int.f k l m) (decide (l = m)) := by
  unfold slices_Equal_Lint_int.f
  by_cases e : (l.length : Int) = (m.length : Int)
  · simp only [if_pos e]
    exact slEq_at l [] m (by simp; omega) (by omega)
  · simp only [if_neg e]
    rw [show decide (l = m) = false from decide_eq_false (fun h => e (by rw [h]))]
    exact Ev.now _
end Go.Proofs.Ytgldcbcefncjjaa.F
end
section
/- The laws' own comparisons. -/
namespace Go.Proofs.Ytgldcbcefncjjaa.F
open Go.RowKit Go.Proofs.YtgldcbcefncjjaaW.PrintWords Go.Proofs.YtgldcbcefncjjaaW.PrintLast Go.Proofs.YtgldcbcefncjjaaW.PrintMore
set_option linter.unusedVariables false
set_option linter.unusedSimpArgs false
theorem lsame_at (rest : List Int) : ∀ (pre ys : List Int), (pre ++ ys).length ≤ 4611686018427387904 → rest.length = ys.length →
    Ev (fun k => laws_same.l0 k (pre ++ ys) (pre ++ rest) ((pre ++ rest).length : Int) (pre.length : Int)) (decide (rest = ys)) := by
  induction rest with
  | nil =>
    intro pre ys hb hl
    obtain rfl : ys = [] := List.eq_nil_of_length_eq_zero hl.symm
    exact Ev.step (f := fun _ => some true) (fun k => by rw [laws_same.l0, if_neg (mid_nlt _)]) (Ev.now _)
  | cons x rest ih =>
    intro pre ys hb hl
    cases ys with
    | nil => simp at hl
    | cons y ys =>
      by_cases e : x = y
      · subst e
        have h := ih (pre ++ [x]) ys (by simpa using hb) (by simpa using hl)
        rw [← mid_cons, ← mid_cons, ← mid_succ pre x (by simp at hb; omega)] at h
        rw [show decide (x :: rest = x :: ys) = decide (rest = ys) by simp]
        exact Ev.step (fun k => by rw [laws_same.l0, if_pos (mid_lt _ _ _), if_pos (nn _), if_pos (mid_lt _ _ _), if_pos (mid_lt _ _ _), mid_rd, mid_rd, if_pos rfl]) h
      · rw [show decide (x :: rest = y :: ys) = false by simp [e]]
        exact Ev.step (f := fun _ => some false) (fun k => by rw [laws_same.l0, if_pos (mid_lt _ _ _), if_pos (nn _), if_pos (mid_lt _ _ _), if_pos (mid_lt _ _ _), mid_rd, mid_rd, if_neg e]) (Ev.now _)
theorem lsame_ev (l m : List Int) (hl : l.length ≤ 4611686018427387904) : Ev (fun k => laws_same.f k l m) (decide (l = m)) := by
  unfold laws_same.f
  by_cases e : (l.length : Int) = (m.length : Int)
  · simp only [if_pos e]
    exact lsame_at l [] m (by simp; omega) (by omega)
  · simp only [if_neg e]
    rw [show decide (l = m) = false from decide_eq_false (fun h => e (by rw [h]))]
    exact Ev.now _
theorem lhas_at (x : Int) (rest : List Int) : ∀ (pre : List Int), (pre ++ rest).length ≤ 4611686018427387904 →
    Ev (fun k => laws_has.l0 k x (pre ++ rest) ((pre ++ rest).length : Int) (pre.length : Int)) (rest.contains x) := by
  induction rest with
  | nil =>
    intro pre hb
    exact Ev.step (f := fun _ => some false) (fun k => by rw [laws_has.l0, if_neg (mid_nlt _)]) (Ev.now _)
  | cons y rest ih =>
    intro pre hb
    by_cases e : y = x
    · subst e
      rw [show (y :: rest).contains y = true by simp]
      exact Ev.step (f := fun _ => some true) (fun k => by rw [laws_has.l0, if_pos (mid_lt _ _ _), if_pos (nn _), if_pos (mid_lt _ _ _), mid_rd, if_pos rfl]) (Ev.now _)
    · have h := ih (pre ++ [y]) (by simpa using hb)
      rw [← mid_cons, ← mid_succ pre y (by simp at hb; omega)] at h
      rw [show (y :: rest).contains x = rest.contains x by simp only [List.contains_cons]; rw [show (x == y) = false by simpa using fun h => e h.symm]; rfl]
      exact Ev.step (fun k => by rw [laws_has.l0, if_pos (mid_lt _ _ _), if_pos (nn _), if_pos (mid_lt _ _ _), mid_rd, if_neg e]) h
theorem lhas_ev (l : List Int) (x : Int) (hl : l.length ≤ 4611686018427387904) : Ev (fun k => laws_has.f k l x) (l.contains x) := lhas_at x l [] hl
end Go.Proofs.Ytgldcbcefncjjaa.F
end
section
/- A force played. -/
namespace Go.Proofs.Ytgldcbcefncjjaa.F
open Go.RowKit Go.Proofs.YtgldcbcefncjjaaW.PrintWords Go.Proofs.YtgldcbcefncjjaaW.PrintLast Go.Proofs.YtgldcbcefncjjaaW.PrintMore
set_option linter.unusedVariables false
set_option linter.unusedSimpArgs false
def playM (l : List IN) : Int → List Int → Int × Bool
  | c, [] => (c, true)
  | c, a :: qs => if 0 ≤ a ∧ a < ((nodeAt l c).f1.length : Int) then playM l (rd (nodeAt l c).f1 a) qs else (0, false)
theorem impl_play_at (l : List IN) (hr : ∀ x ∈ l, ∀ v ∈ x.f1, 0 ≤ v ∧ v < (l.length : Int)) (rest : List Int) : ∀ (pre : List Int) (c : Int), (pre ++ rest).length ≤ 4611686018427387904 → 0 ≤ c → c < (l.length : Int) →
    Ev (fun k => impl_PlayForce.l0 k l c (pre ++ rest) ((pre ++ rest).length : Int) (pre.length : Int)) (playM l c rest) := by
  induction rest with
  | nil =>
    intro pre c hb h0 h1
    refine Ev.step (f := fun _ => some (c, true)) (fun k => ?_) (Ev.now _)
    show impl_PlayForce.l0 (k + 1) l c _ _ _ = _
    rw [impl_PlayForce.l0, if_neg (mid_nlt _)]
  | cons a rest ih =>
    intro pre c hb h0 h1
    by_cases q : 0 ≤ a ∧ a < ((nodeAt l c).f1.length : Int)
    · have hv := hr _ (nodeAt_mem l c h0 h1) _ (rd_mem _ a q.1 q.2)
      have h := ih (pre ++ [a]) (rd (nodeAt l c).f1 a) (by simpa using hb) hv.1 hv.2
      rw [← mid_cons, ← mid_succ pre a (by simp at hb; omega)] at h
      rw [show playM l c (a :: rest) = playM l (rd (nodeAt l c).f1 a) rest by simp only [playM, if_pos q]]
      unfold nodeAt at q
      refine Ev.step (fun k => ?_) h
      show impl_PlayForce.l0 (k + 1) l c _ _ _ = _
      rw [impl_PlayForce.l0, if_pos (mid_lt _ _ _), if_pos (nn _), if_pos (mid_lt _ _ _), mid_rd, if_neg (by omega), if_pos h0, if_pos h1, if_neg (by omega), if_pos q.1, if_pos q.2]
      rfl
    · rw [show playM l c (a :: rest) = (0, false) by simp only [playM, if_neg q]]
      unfold nodeAt at q
      refine Ev.step (f := fun _ => some ((0 : Int), false)) (fun k => ?_) (Ev.now _)
      show impl_PlayForce.l0 (k + 1) l c _ _ _ = _
      rw [impl_PlayForce.l0, if_pos (mid_lt _ _ _), if_pos (nn _), if_pos (mid_lt _ _ _), mid_rd]
      by_cases z : a < 0
      · rw [if_pos z]
      · rw [if_neg z, if_pos h0, if_pos h1, if_pos (by omega)]
theorem impl_play_ev (l : List IN) (qs : List Int) (hl : ∀ x ∈ l, x.f1.length ≤ 4611686018427387904) (ha : qs.length ≤ 4611686018427387904) (h : forceB l = true) : Ev (fun k => impl_PlayForce.f k l qs) (playM l 0 qs) := by
  have E2 := impl_Force_ev l hl
  unfold impl_PlayForce.f
  obtain ⟨⟨h1, h2⟩, hr⟩ := forceB_range l h
  refine Ev.bind E2 ?_
  simp only [h, if_true]
  exact impl_play_at l hr qs [] 0 ha (by omega) (by omega)
end Go.Proofs.Ytgldcbcefncjjaa.F
end
section
/- How deep a force is: the program's. -/
namespace Go.Proofs.Ytgldcbcefncjjaa.F
open Go.RowKit Go.Proofs.YtgldcbcefncjjaaW.PrintWords Go.Proofs.YtgldcbcefncjjaaW.PrintLast Go.Proofs.YtgldcbcefncjjaaW.PrintMore
set_option linter.unusedVariables false
set_option linter.unusedSimpArgs false
theorem impl_kids_at (X : List IN) (i : Nat) (n : Int) (o r : Int) (rest : List Int) : ∀ (pre D : List Int), (pre ++ rest).length ≤ 4611686018427387904 → i < D.length → (∀ v ∈ rest, 0 ≤ v ∧ v < (D.length : Int)) →
    Ev (fun k => impl_DepthOfForce.l0 k (stepD i rest D) (mx o (rd (stepD i rest D) i)) X n (wrap64 ((i : Int) + 1))) r →
    Ev (fun k => impl_DepthOfForce.l1 k D o (i : Int) X n (i : Int) (pre ++ rest) ((pre ++ rest).length : Int) (pre.length : Int)) r := by
  induction rest with
  | nil =>
    intro pre D hb hi hv h
    refine Ev.step (fun k => ?_) h
    show impl_DepthOfForce.l1 (k + 1) _ _ _ _ _ _ _ _ _ = _
    rw [impl_DepthOfForce.l1, if_neg (mid_nlt _), if_pos (nn _), if_pos (by omega)]
    rfl
  | cons v rest ih =>
    intro pre D hb hi hv h
    have hv0 := hv v (by simp)
    have h2 := ih (pre ++ [v]) (D.set v.toNat (wrap64 (rd D i + 1))) (by simpa using hb) (by rw [List.length_set]; exact hi) (by intro w hw; rw [List.length_set]; exact hv w (by simp [hw])) h
    rw [← mid_cons, ← mid_succ pre v (by simp at hb; omega)] at h2
    refine Ev.step (fun k => ?_) h2
    show impl_DepthOfForce.l1 (k + 1) _ _ _ _ _ _ _ _ _ = _
    rw [impl_DepthOfForce.l1, if_pos (mid_lt _ _ _), if_pos (nn _), if_pos (mid_lt _ _ _), if_pos (nn _), if_pos (by omega), mid_rd, if_pos hv0.1, if_pos hv0.2]
theorem impl_depth_at {l : List IN} (T : Tree l) (hx : ∀ x ∈ l, x.f1.length ≤ 1048576) (rest : List IN) : ∀ (pre : List IN) (D : List Int) (o : Int), l = pre ++ rest → D.length = l.length →
    Ev (fun k => impl_DepthOfForce.l0 k D o l (l.length : Int) (pre.length : Int)) (runO (pre.length : Int) rest D o) := by
  induction rest with
  | nil =>
    intro pre D o e hD
    refine Ev.step (f := fun _ => some o) (fun k => ?_) (Ev.now _)
    show impl_DepthOfForce.l0 (k + 1) _ _ _ _ _ = _
    rw [impl_DepthOfForce.l0, if_neg (by rw [e]; simp)]
  | cons x rest ih =>
    intro pre D o e hD
    have hlt : (pre.length : Int) < (l.length : Int) := by rw [e]; exact mid_lt _ _ _
    have hle := T.le
    have h2 := ih (pre ++ [x]) (stepD (pre.length : Int) x.f1 D) (mx o (rd (stepD (pre.length : Int) x.f1 D) (pre.length : Int))) (by rw [e]; simp) (by rw [stepD_len]; exact hD)
    have e2 : (((pre ++ [x]).length : Nat) : Int) = wrap64 ((pre.length : Int) + 1) := (mid_succ pre x (by omega)).symm
    have e3 : wrap64 ((pre.length : Int) + 1) = (pre.length : Int) + 1 := w64_id (by omega) (by omega)
    rw [e2] at h2
    rw [show runO (wrap64 ((pre.length : Int) + 1)) rest (stepD (pre.length : Int) x.f1 D) (mx o (rd (stepD (pre.length : Int) x.f1 D) (pre.length : Int))) = runO (pre.length : Int) (x :: rest) D o by rw [e3]; rfl] at h2
    have hk := impl_kids_at l pre.length (l.length : Int) o _ x.f1 [] D (by have := hx x (by rw [e]; simp); simp; omega) (by omega) (fun v hv => by rw [hD]; exact tree_vs T x (by rw [e]; simp) v hv) h2
    refine Ev.step (fun k => ?_) hk
    show impl_DepthOfForce.l0 (k + 1) _ _ _ _ _ = _
    rw [impl_DepthOfForce.l0, if_pos hlt, if_pos (nn _), if_pos hlt]
    have e4 : rd_T49 l (pre.length : Int) = x := by rw [e]; exact mid_rdIN _ _ _
    rw [e4]
    rfl
theorem impl_depth_ev (l : List IN) (hx : ∀ x ∈ l, x.f1.length ≤ 1048576) (h : forceB l = true) : Ev (fun k => impl_DepthOfForce.f k l) (hgt l l.length 0 : Int) := by
  have hl : ∀ x ∈ l, x.f1.length ≤ 4611686018427387904 := fun x h => by have := hx x h; omega
  have E2 := impl_Force_ev l hl
  unfold impl_DepthOfForce.f
  have T := tree_of l hx h
  have hle := T.le
  refine Ev.bind E2 ?_
  simp only [h, if_true, if_pos (nn l.length), Int.toNat_natCast, if_pos (show l.length ≤ 35184372088832 by omega)]
  have := impl_depth_at T hx l [] (List.replicate l.length 0) 0 rfl (by simp)
  rw [show runO (([] : List IN).length : Int) l (List.replicate l.length 0) 0 = (hgt l l.length 0 : Int) from depth_is T] at this
  exact this
end Go.Proofs.Ytgldcbcefncjjaa.F
end
section
/- A force has one end, or answers are returned that lead to another one. -/
namespace Go.Proofs.Ytgldcbcefncjjaa.Pure
open Go.RowKit Go.Proofs.Ytgldcbcefncjjaa.F Go.Proofs.YtgldcbcefncjjaaW.PrintWords Go.Proofs.YtgldcbcefncjjaaW.PrintLast Go.Proofs.YtgldcbcefncjjaaW.PrintMore
set_option linter.unusedVariables false
set_option linter.unusedSimpArgs false
theorem tryM_no {f : Nat → List Int × Bool} {vs : List Int} : ∀ {i : Int}, (tryM f vs i).2 = false → ∀ v ∈ vs, (f v.toNat).2 = false := by
  induction vs with
  | nil => intro i h v hv; cases hv
  | cons w vs ih =>
    intro i h v hv
    unfold tryM at h
    by_cases c : (f w.toNat).2 = true
    · rw [if_pos c] at h; cases h
    · rw [if_neg c] at h
      rcases List.mem_cons.1 hv with rfl | hv
      · simpa using c
      · exact ih h v hv
theorem tryM_yes {f : Nat → List Int × Bool} {vs : List Int} : ∀ {i : Int}, (tryM f vs i).2 = true → ∃ j : Nat, ∃ hj : j < vs.length, (f (vs[j]).toNat).2 = true ∧ (tryM f vs i).1 = (i + j) :: (f (vs[j]).toNat).1 := by
  induction vs with
  | nil => intro i h; cases h
  | cons w vs ih =>
    intro i h
    unfold tryM at h ⊢
    by_cases c : (f w.toNat).2 = true
    · exact ⟨0, by simp, by simpa using c, by rw [if_pos c]; simp⟩
    · rw [if_neg c] at h ⊢
      obtain ⟨j, hj, h1, h2⟩ := ih h
      exact ⟨j + 1, by simp; omega, by simpa using h1, by rw [h2]; simp; omega⟩
/-- Where there are answers: they lead to another end. -/
theorem wrong_play (l : List IN) (T : Tree l) (o : Int) (d : Nat) : ∀ i, i < l.length → (Go.Proofs.Ytgldcbcefncjjaa.F.wrongM l o d i).2 = true → ∃ j, j < l.length ∧ playM l (i : Int) (wrongM l o d i).1 = ((j : Int), true) ∧ (nodeAt l (j : Int)).f1.length = 0 ∧ (nodeAt l (j : Int)).f2 ≠ o := by
  induction d with
  | zero => intro i hi h; cases h
  | succ d ih =>
    intro i hi h
    unfold wrongM at h ⊢
    by_cases c : (rd_T49 l (i : Int)).f1.length = 0
    · rw [if_pos c] at h ⊢
      exact ⟨i, hi, rfl, c, by
        have h' : ((nodeAt l (i : Int)).f2 != o) = true := h
        simpa using h'⟩
    · rw [if_neg c] at h ⊢
      obtain ⟨j, hj, h1, h2⟩ := tryM_yes h
      have hk := kid_range T hi (List.getElem_mem hj : (nodeAt l (i : Int)).f1[j] ∈ (nodeAt l (i : Int)).f1)
      have hk2 : (i : Int) < (rd_T49 l (i : Int)).f1[j] ∧ (rd_T49 l (i : Int)).f1[j] < (l.length : Int) := hk
      obtain ⟨q, q1, q2, q3, q4⟩ := ih _ (by omega) h1
      refine ⟨q, q1, ?_, q3, q4⟩
      rw [h2]
      unfold playM
      have hr : rd (nodeAt l (i : Int)).f1 (0 + (j : Int)) = (rd_T49 l (i : Int)).f1[j] := by
        unfold rd
        rw [show (0 + (j : Int)).toNat = j by omega, List.getD_eq_getElem?_getD, show (nodeAt l (i : Int)).f1 = (rd_T49 l (i : Int)).f1 from rfl, List.getElem?_eq_getElem hj]; rfl
      rw [if_pos ⟨by omega, by show 0 + (j : Int) < ((rd_T49 l (i : Int)).f1.length : Int); omega⟩, hr]
      rw [Int.toNat_of_nonneg (by omega)] at q2
      exact q2
theorem wrong_short (l : List IN) (o : Int) (d : Nat) : ∀ i, (wrongM l o d i).1.length ≤ hgt l d i := by
  induction d with
  | zero => intro i; simp [wrongM]
  | succ d ih =>
    intro i
    unfold wrongM hgt
    by_cases c : (rd_T49 l (i : Int)).f1.length = 0
    · rw [if_pos c]; simp
    · rw [if_neg c]
      by_cases h : (tryM (wrongM l o d) (rd_T49 l (i : Int)).f1 0).2 = true
      · obtain ⟨j, hj, h1, h2⟩ := tryM_yes h
        rw [h2]
        have h3 := (foldl_max_ge ((nodeAt l (i : Int)).f1.map fun v => 1 + hgt l d v.toNat) 0).2 (1 + hgt l d ((rd_T49 l (i : Int)).f1[j]).toNat) (List.mem_map.2 ⟨(rd_T49 l (i : Int)).f1[j], List.getElem_mem hj, rfl⟩)
        have h4 := ih ((rd_T49 l (i : Int)).f1[j]).toNat
        simp only [List.length_cons]
        omega
      · have e : (tryM (wrongM l o d) (rd_T49 l (i : Int)).f1 0).1 = [] := by
          have : ∀ (vs : List Int) (i : Int), (tryM (wrongM l o d) vs i).2 ≠ true → (tryM (wrongM l o d) vs i).1 = [] := by
            intro vs
            induction vs with
            | nil => intro i h; rfl
            | cons v vs ih =>
              intro i h
              unfold tryM at h ⊢
              by_cases c : (wrongM l o d v.toNat).2 = true
              · rw [if_pos c] at h; exact absurd rfl h
              · rw [if_neg c] at h ⊢; exact ih _ h
          exact this _ _ h
        rw [e]
        simp
theorem wrong_fuel (l : List IN) (T : Tree l) (o : Int) (d : Nat) : ∀ i, i < l.length → l.length ≤ i + d → ∀ g, d ≤ g → wrongM l o g i = wrongM l o d i := by
  induction d with
  | zero => intro i h1 h2; omega
  | succ d ih =>
    intro i h1 h2 g hg
    obtain ⟨g, rfl⟩ : ∃ q, g = q + 1 := ⟨g - 1, by omega⟩
    unfold wrongM
    by_cases c : (rd_T49 l (i : Int)).f1.length = 0
    · rw [if_pos c, if_pos c]
    · rw [if_neg c, if_neg c]
      have : ∀ (vs : List Int) (a : Int), (∀ v ∈ vs, v ∈ (nodeAt l (i : Int)).f1) → tryM (wrongM l o g) vs a = tryM (wrongM l o d) vs a := by
        intro vs
        induction vs with
        | nil => intro a h; rfl
        | cons v vs ihv =>
          intro a h
          have hk := kid_range T h1 (h v (by simp))
          have e := ih v.toNat (by omega) (by omega) g (by omega)
          unfold tryM
          rw [e, ihv (a + 1) (fun w hw => h w (by simp [hw]))]
      exact this _ _ (fun v hv => hv)
/-- Where there are none: every node leads to the object alone. -/
theorem wrong_none (l : List IN) (T : Tree l) (o : Int) (h0 : (wrongM l o l.length 0).2 = false) : ∀ n v : Nat, v < n → v < l.length → (wrongM l o l.length v).2 = false := by
  intro n
  induction n with
  | zero => intro v h; omega
  | succ n ih =>
    intro v hv hl
    by_cases e : v = 0
    · rw [e]; exact h0
    · obtain ⟨i, hi, hm⟩ := parent T v (by omega) hl
      have h1 := ih i (by omega) (by omega)
      obtain ⟨d, hd⟩ : ∃ d, l.length = d + 1 := ⟨l.length - 1, by have := T.pos; omega⟩
      have h2 := h1
      rw [hd] at h2
      unfold wrongM at h2
      have hc : ¬ (rd_T49 l (i : Int)).f1.length = 0 := by
        have : 0 < (nodeAt l (i : Int)).f1.length := List.length_pos_of_mem hm
        have e2 : (rd_T49 l (i : Int)).f1.length = (nodeAt l (i : Int)).f1.length := rfl
        omega
      rw [if_neg hc] at h2
      have h3 := tryM_no h2 (v : Int) hm
      rw [Int.toNat_natCast] at h3
      rw [wrong_fuel l T o d v hl (by omega) l.length (by omega)]
      exact h3
theorem mem_leaves (l : List IN) (y : Int) : y ∈ leaves l ↔ ∃ j : Nat, j < l.length ∧ (nodeAt l (j : Int)).f1.length = 0 ∧ (nodeAt l (j : Int)).f2 = y := by
  unfold leaves
  rw [List.mem_map]
  constructor
  · rintro ⟨x, hx, rfl⟩
    rw [List.mem_filter] at hx
    obtain ⟨j, hj, rfl⟩ := List.getElem_of_mem hx.1
    exact ⟨j, hj, by rw [nodeAt_nat l j hj]; simpa using hx.2, by rw [nodeAt_nat l j hj]⟩
  · rintro ⟨j, hj, h1, h2⟩
    rw [nodeAt_nat l j hj] at h1 h2
    exact ⟨l[j], List.mem_filter.2 ⟨List.getElem_mem hj, by simpa using h1⟩, h2⟩
theorem mem_ends (l : List IN) (h : forceB l = true) (y : Int) : y ∈ endsR l ↔ y ∈ leaves l := by
  unfold endsR
  rw [if_pos h, compact_mem, sortI_mem]
theorem last_leaf (l : List IN) (T : Tree l) : (nodeAt l ((l.length - 1 : Nat) : Int)).f1.length = 0 := by
  have hp := T.pos
  cases hf : (nodeAt l ((l.length - 1 : Nat) : Int)).f1 with
  | nil => rfl
  | cons v vs =>
    have := kid_range T (i := l.length - 1) (by omega) (v := v) (by rw [hf]; simp)
    omega
/-- One end, or answers to another. -/
theorem one_end (l : List IN) (h : forceB l = true) (T : Tree l) (o : Int) : (endsR l = [o]) ↔ (wrongM l o l.length 0).2 = false := by
  have hp := T.pos
  constructor
  · intro he
    cases hb : (wrongM l o l.length 0).2 with
    | false => rfl
    | true =>
      obtain ⟨j, h1, _, h3, h4⟩ := wrong_play l T o l.length 0 (by omega) hb
      have hm := (mem_ends l h _).2 ((mem_leaves l _).2 ⟨j, h1, h3, rfl⟩)
      rw [he] at hm
      exact absurd (List.mem_singleton.1 hm) h4
  · intro hw
    have all : ∀ y ∈ endsR l, y = o := by
      intro y hy
      obtain ⟨j, hj, h1, h2⟩ := (mem_leaves l y).1 ((mem_ends l h y).1 hy)
      have h3 := wrong_none l T o hw l.length j hj hj
      obtain ⟨d, hd⟩ : ∃ d, l.length = d + 1 := ⟨l.length - 1, by omega⟩
      rw [hd] at h3
      unfold wrongM at h3
      rw [if_pos (show (rd_T49 l (j : Int)).f1.length = 0 from h1)] at h3
      have h4 : ((nodeAt l (j : Int)).f2 != o) = false := h3
      rw [← h2]
      simpa using h4
    have hmem : (nodeAt l ((l.length - 1 : Nat) : Int)).f2 ∈ endsR l := (mem_ends l h _).2 ((mem_leaves l _).2 ⟨l.length - 1, by omega, last_leaf l T, rfl⟩)
    have hasc : (endsR l).Pairwise (· < ·) := by
      unfold endsR
      rw [if_pos h]
      exact compact_asc _ (sortI_sorted _)
    cases he : endsR l with
    | nil => rw [he] at hmem; cases hmem
    | cons a xs =>
      have h1 := all a (by rw [he]; simp)
      cases xs with
      | nil => rw [h1]
      | cons b bs =>
        have h2 := all b (by rw [he]; simp)
        rw [he] at hasc
        have := (List.pairwise_cons.1 hasc).1 b (by simp)
        omega
theorem forces_end (l : List IN) (h : forceB l = true) (T : Tree l) (hx : ∀ x ∈ l, x.f1.length ≤ 1048576) (o : Int) : Ev (fun k => laws_FnForces.j0 k l o (wrongM l o l.length 0).1 (wrongM l o l.length 0).2 (endsR l) false) true := by
  have hp := T.pos
  have hle := T.le
  have hlen := wrongM_len l o l.length 0
  cases hb : (wrongM l o l.length 0).2 with
  | false =>
    refine Ev.step (f := fun _ => some true) (fun k => ?_) (Ev.now _)
    show laws_FnForces.j0 (k + 1) _ _ _ _ _ _ = _
    rw [laws_FnForces.j0, if_neg (by simp), if_neg (by simp)]
  | true =>
    obtain ⟨j, h1, h2, h3, h4⟩ := wrong_play l T o l.length 0 (by omega) hb
    have hP := impl_play_ev l (wrongM l o l.length 0).1 (fun x hx' => by have := hx x hx'; omega) (by omega) h
    have h2' : playM l 0 (wrongM l o l.length 0).1 = ((j : Int), true) := h2
    rw [h2'] at hP
    have hm : (nodeAt l (j : Int)).f2 ∈ endsR l := (mem_ends l h _).2 ((mem_leaves l _).2 ⟨j, h1, h3, rfl⟩)
    have hE := endsR_len l (by omega)
    have hH := lhas_ev (endsR l) (nodeAt l (j : Int)).f2 (by omega)
    rw [show (endsR l).contains (nodeAt l (j : Int)).f2 = true by simpa using hm] at hH
    refine Ev.stepb hP (fun k => by show laws_FnForces.j0 (k + 1) _ _ _ _ _ _ = _; rw [laws_FnForces.j0, if_neg (by simp), if_pos rfl]) ?_
    have e : rd_T49 l (j : Int) = nodeAt l (j : Int) := rfl
    simp only [e, if_true, if_pos (show (j : Int) ≥ 0 by omega), if_pos (show (j : Int) < (l.length : Int) by omega), if_pos (show (0 : Int) ≤ (j : Int) by omega), if_pos (show ((nodeAt l (j : Int)).f1.length : Int) = 0 by omega), if_neg h4]
    exact Ev.bind hH (Ev.now _)
theorem FnForces : laws_FnForces.Pure := by
  intro c _ _ _
  by_cases hbig : (c.length : Int) > 1048576
  · exact ⟨0, by unfold laws_FnForces.f; rw [if_pos hbig]⟩
  · have hb : c.length ≤ 1048576 := by omega
    obtain ⟨l, hM, h, hle, hx⟩ := makeForce_ev c hb
    obtain ⟨v, hN, v0, v1⟩ := num_ev c 60 hb (by omega) (by omega)
    have T := tree_of l hx h
    have hp := T.pos
    obtain ⟨o, ho⟩ : ∃ o, o = Int.tmod v 3 := ⟨_, rfl⟩
    have hA := impl_answers_ev l o hx
    have hAe : answersR l o = wrongM l o l.length 0 := by unfold answersR; rw [if_pos h]
    rw [hAe] at hA
    have hE := impl_ends_ev l (by omega) (fun x hx' => by have := hx x hx'; omega)
    have hEl := endsR_len l (by omega)
    have hFo := impl_Force_ev l (fun x hx' => by have := hx x hx'; omega)
    rw [h] at hFo
    have hI : Ev (fun k => impl_IsForced.f k l o) (decide (endsR l = [o])) := by
      unfold impl_IsForced.f
      exact Ev.bind hE (Ev.bind (slEq_ev _ _ (by omega)) (Ev.now _))
    have hS := lsame_ev (endsR l) [o] (by omega)
    have hD := impl_depth_ev l hx h
    have hj := forces_end l h T hx o
    have hne : ¬ ((endsR l).length : Int) = 0 := by
      have hm : (nodeAt l ((l.length - 1 : Nat) : Int)).f2 ∈ endsR l := (mem_ends l h _).2 ((mem_leaves l _).2 ⟨l.length - 1, by omega, last_leaf l T, rfl⟩)
      have := List.length_pos_of_mem hm
      omega
    have hone := one_end l h T o
    have h1 : (decide (endsR l = [o]) == (wrongM l o l.length 0).2) = false := by
      cases hw : (wrongM l o l.length 0).2 with
      | false => rw [decide_eq_true (hone.2 hw)]; rfl
      | true => rw [decide_eq_false (fun e => by have := hone.1 e; rw [hw] at this; cases this)]; rfl
    have h2 : ((decide (endsR l = [o])) != (decide (endsR l = [o]))) = false := bne_self_eq_false _
    have h3 : decide (((wrongM l o l.length 0).1.length : Int) > (hgt l l.length 0 : Int)) = false := decide_eq_false (by have := wrong_short l o l.length 0; omega)
    have main : Ev (fun k => laws_FnForces.f k c) true := by
      unfold laws_FnForces.f
      simp only [if_neg hbig]
      refine Ev.bind hM (Ev.bind hN ?_)
      simp only [← ho]
      refine Ev.bind hA (Ev.bind hE (Ev.bind hFo ?_))
      simp only [if_true, if_neg hne]
      refine Ev.bind hI ?_
      simp only [h1, Bool.false_eq_true, if_false]
      refine Ev.bind hI (Ev.bind hS ?_)
      simp only [h2, Bool.false_eq_true, if_false]
      refine Ev.bind hD ?_
      simp only [h3]
      exact hj
    exact main.imp fun K hK => hK K (Nat.le_refl _)
end Go.Proofs.Ytgldcbcefncjjaa.Pure
end
