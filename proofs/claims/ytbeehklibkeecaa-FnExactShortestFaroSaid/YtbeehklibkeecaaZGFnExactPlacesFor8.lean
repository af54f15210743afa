import Derived.Test.YtbeehklibkeecaaZGFnExactPlacesFor6
import Derived.Test.YtbeehklibkeecaaZGFnExactPlacesFor7
import Derived.Test.YtbeehklibkeecaaZGFnExactPlacesFor4
import Derived.Test.YtbeehklibkeecaaZGFnExactPlacesFor5
section
/- Lists put together, and lists in reverse order. -/
namespace Go.Proofs.Ytbeehklibkeecaa.F
open Go.RowKit Go.Proofs.YtbeehklibkeecaaW.PrintWords Go.Proofs.YtbeehklibkeecaaW.PrintLast Go.Proofs.YtbeehklibkeecaaW.PrintMore
set_option linter.unusedVariables false
set_option linter.unusedSimpArgs false
def lens (l : List (List Int)) : Nat := (l.map List.length).sum
theorem lens_cons (x : List Int) (l : List (List Int)) : lens (x :: l) = x.length + lens l := by simp [lens]
theorem mid_rdLL (pre : List (List Int)) (x : List Int) (rest : List (List Int)) : rd_L1 (pre ++ x :: rest) (pre.length : Int) = x := by
  unfold rd_L1
  simp
theorem concat_l1 (rest : List (List Int)) : ∀ (pre : List (List Int)) (acc : List Int), (pre ++ rest).length ≤ 4611686018427387904 → acc.length + lens rest < 17592186044416 →
    Ev (fun k => slices_Concat_Lint_int.l1 k acc (pre ++ rest) ((pre ++ rest).length : Int) (pre.length : Int)) (acc ++ rest.flatten) := by
  induction rest with
  | nil =>
    intro pre acc hb hl
    rw [show acc ++ ([] : List (List Int)).flatten = acc by simp]
    refine Ev.step (f := fun _ => some acc) (fun k => ?_) (Ev.now _)
    show slices_Concat_Lint_int.l1 (k + 1) _ _ _ _ = _
    rw [slices_Concat_Lint_int.l1, if_neg (mid_nlt _)]
  | cons x rest ih =>
    intro pre acc hb hl
    rw [lens_cons] at hl
    have h := ih (pre ++ [x]) (acc ++ x) (by simpa using hb) (by rw [List.length_append]; omega)
    rw [← mid_cons, ← mid_succ pre x (by simp at hb; omega)] at h
    rw [show acc ++ (x :: rest).flatten = acc ++ x ++ rest.flatten by simp]
    refine Ev.step (fun k => ?_) h
    show slices_Concat_Lint_int.l1 (k + 1) _ _ _ _ = _
    rw [slices_Concat_Lint_int.l1, if_pos (mid_lt _ _ _), if_pos (nn _), if_pos (mid_lt _ _ _), mid_rdLL, if_pos (by omega)]
theorem concat_l0 (X : List (List Int)) (hX : X.length ≤ 4611686018427387904) (hl : lens X < 17592186044416) (rest : List (List Int)) : ∀ (pre : List (List Int)) (s : Nat), (pre ++ rest).length ≤ 4611686018427387904 → s + lens rest < 17592186044416 →
    Ev (fun k => slices_Concat_Lint_int.l0 k X (s : Int) (pre ++ rest) ((pre ++ rest).length : Int) (pre.length : Int)) X.flatten := by
  induction rest with
  | nil =>
    intro pre s hb hs
    have h := concat_l1 X [] [] hX (by simpa using hl)
    have hg : slices_Grow_Lint_int__nil.f (s : Int) = some [] := by
      unfold slices_Grow_Lint_int__nil.f
      rw [if_pos (nn _), if_pos (by omega)]
    refine Ev.step (fun k => ?_) h
    show slices_Concat_Lint_int.l0 (k + 1) _ _ _ _ _ = _
    rw [slices_Concat_Lint_int.l0, if_neg (mid_nlt _), hg]
    rfl
  | cons x rest ih =>
    intro pre s hb hs
    rw [lens_cons] at hs
    have h := ih (pre ++ [x]) (s + x.length) (by simpa using hb) (by omega)
    rw [← mid_cons, ← mid_succ pre x (by simp at hb; omega)] at h
    have hw : wrap64 ((s : Int) + (x.length : Int)) = ((s + x.length : Nat) : Int) := by rw [w64_id (by omega) (by omega)]; omega
    refine Ev.step (fun k => ?_) h
    show slices_Concat_Lint_int.l0 (k + 1) _ _ _ _ _ = _
    rw [slices_Concat_Lint_int.l0, if_pos (mid_lt _ _ _), if_pos (nn _), if_pos (mid_lt _ _ _), mid_rdLL, hw, if_neg (by omega)]
theorem concat_ev (X : List (List Int)) (hX : X.length ≤ 4611686018427387904) (hl : lens X < 17592186044416) : Ev (fun k => slices_Concat_Lint_int.f k X) X.flatten := concat_l0 X hX hl X [] 0 hX (by omega)
end Go.Proofs.Ytbeehklibkeecaa.F
end
section
/- Putting piles together: both functions make the same order. -/
namespace Go.Proofs.Ytbeehklibkeecaa.F
open Go.RowKit Go.Proofs.YtbeehklibkeecaaW.PrintWords Go.Proofs.YtbeehklibkeecaaW.PrintLast Go.Proofs.YtbeehklibkeecaaW.PrintMore
set_option linter.unusedVariables false
set_option linter.unusedSimpArgs false
theorem del_getD (l : List (List Int)) (c m : Nat) (hc : c < l.length) : (l.take c ++ l.drop (c + 1)).getD m [] = l.getD (if m < c then m else m + 1) [] := by
  rw [List.getD_eq_getElem?_getD, List.getD_eq_getElem?_getD, List.getElem?_append]
  simp only [List.length_take, Nat.min_eq_left (Nat.le_of_lt hc)]
  by_cases h : m < c
  · rw [if_pos h, if_pos h, List.getElem?_take, if_pos h]
  · rw [if_neg h, if_neg h, List.getElem?_drop, show c + 1 + (m - c) = m + 1 by omega]
theorem getD_len {l : List (List Int)} (hb : ∀ x ∈ l, x.length ≤ 1048576) (i : Nat) : (l.getD i []).length ≤ 1048576 := by
  rw [List.getD_eq_getElem?_getD]
  cases h : l[i]? with
  | none => simp
  | some x => exact hb x (List.mem_of_getElem? h)
/-- Where the next pile is read. -/
def atP (c m : Nat) : Nat := if m ≤ c then m else m + 1
theorem gather_step (l : List (List Int)) (c p m pos : Nat) (out : List Int) (hc : c < l.length) (hn : l.length ≤ 4) (hm : m + 1 < l.length) (hpos : pos < l.length) (hne : pos ≠ p) (hb : ∀ x ∈ l, x.length ≤ 1048576) (ho : out.length ≤ 4194304) (k : Nat) :
    spec_l14Gather.l0 (k + 1) l c p out (atP c m) pos = spec_l14Gather.l0 k l c p (out ++ (l.take c ++ l.drop (c + 1)).getD m []) (atP c (m + 1)) ((pos + 1 : Nat) : Int) := by
  rw [del_getD l c m hc]
  have w1 : ∀ q : Nat, q ≤ 8 → wrap64 ((q : Int) + 1) = ((q + 1 : Nat) : Int) := fun q hq => by rw [w64_id (by omega) (by omega)]; rfl
  have hl := getD_len hb
  have aL : ∀ q, q ≤ c → atP c q = q := fun q h => if_pos h
  have aG : ∀ q, ¬ q ≤ c → atP c q = q + 1 := fun q h => if_neg h
  by_cases e : m = c
  · subst e
    rw [aL m (Nat.le_refl _), aG (m + 1) (by omega), if_neg (Nat.lt_irrefl _)]
    conv => lhs; rw [spec_l14Gather.l0]
    rw [if_pos (by omega), if_neg (by omega), if_pos rfl, w1 m (by omega), if_pos (by omega), if_pos (by omega)]
    have e1 : rd_L1 l ((m + 1 : Nat) : Int) = l.getD (m + 1) [] := rfl
    rw [e1, if_pos (by have := hl (m + 1); omega), w1 (m + 1) (by omega), w1 pos (by omega)]
  · by_cases h : m < c
    · rw [aL m (by omega), aL (m + 1) (by omega), if_pos h]
      conv => lhs; rw [spec_l14Gather.l0]
      rw [if_pos (by omega), if_neg (by omega), if_neg (by omega), if_pos (by omega), if_pos (by omega)]
      have e1 : rd_L1 l (m : Int) = l.getD m [] := rfl
      rw [e1, if_pos (by have := hl m; omega), w1 m (by omega), w1 pos (by omega)]
    · rw [aG m (by omega), aG (m + 1) (by omega), if_neg h]
      conv => lhs; rw [spec_l14Gather.l0]
      rw [if_pos (by omega), if_neg (by omega), if_neg (by omega), if_pos (by omega), if_pos (by omega)]
      have e1 : rd_L1 l ((m + 1 : Nat) : Int) = l.getD (m + 1) [] := rfl
      rw [e1, if_pos (by have := hl (m + 1); omega), w1 (m + 1) (by omega), w1 pos (by omega)]
theorem drop_getD (D : List (List Int)) (m : Nat) (h : m < D.length) : D.drop m = D.getD m [] :: D.drop (m + 1) := by
  rw [List.drop_eq_getElem_cons h, List.getD_eq_getElem?_getD, List.getElem?_eq_getElem h]; rfl
theorem gather_after (l : List (List Int)) (c p : Nat) (hc : c < l.length) (hn : l.length ≤ 4) (hb : ∀ x ∈ l, x.length ≤ 1048576) (q : Nat) : ∀ (m : Nat) (out : List Int), m + 1 + q = l.length → p < m + 1 → out.length ≤ (m + 1) * 1048576 →
    Ev (fun k => spec_l14Gather.l0 k l c p out (atP c m) ((m + 1 : Nat) : Int)) (out ++ ((l.take c ++ l.drop (c + 1)).drop m).flatten) := by
  have hD : (l.take c ++ l.drop (c + 1)).length = l.length - 1 := by simp; omega
  induction q with
  | zero =>
    intro m out hm hp ho
    rw [List.drop_of_length_le (by omega), List.flatten_nil, List.append_nil]
    refine Ev.step (f := fun _ => some out) (fun k => ?_) (Ev.now _)
    show spec_l14Gather.l0 (k + 1) _ _ _ _ _ _ = _
    rw [spec_l14Gather.l0, if_neg (by omega)]
  | succ q ih =>
    intro m out hm hp ho
    rw [drop_getD _ m (by omega), List.flatten_cons, ← List.append_assoc]
    have hl : ((l.take c ++ l.drop (c + 1)).getD m []).length ≤ 1048576 := by rw [del_getD l c m hc]; exact getD_len hb _
    refine Ev.step (fun k => ?_) (ih (m + 1) _ (by omega) (by omega) (by rw [List.length_append]; omega))
    exact gather_step l c p m (m + 1) out hc hn (by omega) (by omega) (by omega) hb (by omega) k
theorem gather_before (l : List (List Int)) (c p : Nat) (hc : c < l.length) (hp : p < l.length) (hn : l.length ≤ 4) (hb : ∀ x ∈ l, x.length ≤ 1048576) (q : Nat) : ∀ (m : Nat) (out : List Int), m + q = p → out.length ≤ m * 1048576 →
    Ev (fun k => spec_l14Gather.l0 k l c p out (atP c m) (m : Int)) (out ++ (((l.take c ++ l.drop (c + 1)).take p).drop m).flatten ++ l.getD c [] ++ ((l.take c ++ l.drop (c + 1)).drop p).flatten) := by
  have hD : (l.take c ++ l.drop (c + 1)).length = l.length - 1 := by simp; omega
  have w1 : ∀ q : Nat, q ≤ 8 → wrap64 ((q : Int) + 1) = ((q + 1 : Nat) : Int) := fun q hq => by rw [w64_id (by omega) (by omega)]; rfl
  induction q with
  | zero =>
    intro m out hm ho
    obtain rfl : m = p := by omega
    rw [List.drop_of_length_le (by simp; omega), List.flatten_nil, List.append_nil]
    have hl : (l.getD c []).length ≤ 1048576 := getD_len hb _
    refine Ev.step (fun k => ?_) (gather_after l c m hc hn hb (l.length - m - 1) m (out ++ l.getD c []) (by omega) (by omega) (by rw [List.length_append]; omega))
    show spec_l14Gather.l0 (k + 1) _ _ _ _ _ _ = _
    conv => lhs; rw [spec_l14Gather.l0]
    have e1 : rd_L1 l (c : Int) = l.getD c [] := rfl
    rw [if_pos (by omega), if_pos rfl, if_pos (by omega), if_pos (by omega), e1, if_pos (by omega), w1 m (by omega)]
  | succ q ih =>
    intro m out hm ho
    have hl : ((l.take c ++ l.drop (c + 1)).getD m []).length ≤ 1048576 := by rw [del_getD l c m hc]; exact getD_len hb _
    have e2 : ((l.take c ++ l.drop (c + 1)).take p).drop m = (l.take c ++ l.drop (c + 1)).getD m [] :: ((l.take c ++ l.drop (c + 1)).take p).drop (m + 1) := by
      rw [drop_getD _ m (by simp; omega)]
      congr 1
      rw [List.getD_eq_getElem?_getD, List.getD_eq_getElem?_getD, List.getElem?_take, if_pos (by omega)]
    rw [e2, List.flatten_cons, ← List.append_assoc out]
    refine Ev.step (fun k => ?_) (ih (m + 1) _ (by omega) (by rw [List.length_append]; omega))
    exact gather_step l c p m m out hc hn (by omega) (by omega) (by omega) hb (by omega) k
theorem ordAt_flat (l : List (List Int)) (c p : Nat) (hc : c < l.length) : (ordAt l c p).flatten = ((l.take c ++ l.drop (c + 1)).take p).flatten ++ l.getD c [] ++ ((l.take c ++ l.drop (c + 1)).drop p).flatten := by
  unfold ordAt
  rw [List.flatten_append, List.flatten_append, List.getD_eq_getElem?_getD, List.getElem?_eq_getElem hc]
  simp
theorem l14Gather_ev (l : List (List Int)) (c p : Nat) (hc : c < l.length) (hp : p < l.length) (hn : l.length ≤ 4) (hb : ∀ x ∈ l, x.length ≤ 1048576) : Ev (fun k => spec_l14Gather.f k l c p) (ordAt l c p).flatten := by
  have h := gather_before l c p hc hp hn hb p 0 [] (by omega) (by simp)
  rw [ordAt_flat l c p hc]
  have e : atP c 0 = 0 := by unfold atP; simp
  rw [e, List.nil_append, List.drop_zero] at h
  exact h
/-- What both functions make. -/
def gatherB (l : List (List Int)) (a b : Int) : List Int × Bool :=
  if 2 ≤ l.length ∧ l.length ≤ 4 ∧ 0 ≤ a ∧ a < (l.length : Int) ∧ 0 ≤ b ∧ b < (l.length : Int) then (if packetB (ordAt l a.toNat b.toNat).flatten then ((ordAt l a.toNat b.toNat).flatten, true) else ([], false)) else ([], false)
theorem ordAt_lens {l : List (List Int)} (c p : Nat) (hn : l.length ≤ 4) (hc : c < l.length) (hb : ∀ x ∈ l, x.length ≤ 1048576) : lens (ordAt l c p) ≤ 4194304 := by
  have key : ∀ m : List (List Int), (∀ x ∈ m, x.length ≤ 1048576) → lens m ≤ m.length * 1048576 := by
    intro m
    induction m with
    | nil => intro _; simp [lens]
    | cons x m ih =>
      intro h
      rw [lens_cons, List.length_cons]
      have h1 := h x List.mem_cons_self
      have h2 := ih (fun y hy => h y (List.mem_cons_of_mem _ hy))
      omega
  have h := key (ordAt l c p) (fun x hx => hb x (ordAt_mem hx))
  rw [ordAt_length l c p hc] at h
  omega
theorem impl_gather_ev (l : List (List Int)) (a b : Int) (hb : ∀ x ∈ l, x.length ≤ 1048576) (hw : ∀ x ∈ l, ∀ y ∈ x, -9223372036854775808 ≤ y) : Ev (fun k => impl_GatherPiles.f k l a b) (gatherB l a b) := by
  unfold impl_GatherPiles.f gatherB
  by_cases h : 2 ≤ l.length ∧ l.length ≤ 4 ∧ 0 ≤ a ∧ a < (l.length : Int) ∧ 0 ≤ b ∧ b < (l.length : Int)
  · simp only [if_pos h]
    have hlen := ordAt_lens (l := l) a.toNat b.toNat h.2.1 (by omega) hb
    have hfl : (ordAt l a.toNat b.toNat).flatten.length = lens (ordAt l a.toNat b.toNat) := by simp [lens, List.length_flatten]
    refine Ev.bind (concat_ev (ordAt l a.toNat b.toNat) (by rw [ordAt_length _ _ _ (by omega)]; omega) (by omega)) ?_
    refine Ev.bind (impl_PacketOk_ev _ (by omega) (fun x hx => by
      obtain ⟨y, hy, hxy⟩ := List.mem_flatten.1 hx
      exact hw y (ordAt_mem hy) x hxy)) ?_
    exact Ev.now _
  · simp only [if_neg h]
    exact Ev.now _
theorem spec_gather_ev (l : List (List Int)) (a b : Int) (hb : ∀ x ∈ l, x.length ≤ 1048576) (hl : l.length ≤ 4611686018427387904) : Ev (fun k => spec_GatherPiles.f k l a b) (gatherB l a b) := by
  have hj : ∀ x : Bool, x = true → Ev (fun k => spec_GatherPiles.j0 k l a b x) ([], false) := fun x hx => by
    subst hx
    exact Ev.step (f := fun _ => some ([], false)) (fun k => by rw [spec_GatherPiles.j0, if_pos rfl]) (Ev.now _)
  have w1 : wrap64 ((l.length : Int) - 1) = (l.length : Int) - 1 := w64_id (by omega) (by omega)
  unfold spec_GatherPiles.f gatherB
  simp only [l01In_eq, Option.bind_some, w1]
  by_cases h1 : 2 ≤ (l.length : Int) ∧ (l.length : Int) ≤ 4
  · simp only [decide_eq_true h1, if_true]
    by_cases h2 : 0 ≤ a ∧ a ≤ (l.length : Int) - 1
    · simp only [decide_eq_true h2, if_true]
      by_cases h3 : 0 ≤ b ∧ b ≤ (l.length : Int) - 1
      · rw [if_pos (by omega)]
        simp only [decide_eq_true h3, Bool.not_true]
        obtain ⟨c, rfl⟩ := Int.eq_ofNat_of_zero_le h2.1
        obtain ⟨p, rfl⟩ := Int.eq_ofNat_of_zero_le h3.1
        have E := l14Gather_ev l c p (by omega) (by omega) (by omega) hb
        refine Ev.step (fun k => by rw [spec_GatherPiles.j0, if_neg (by decide)]) ?_
        refine Ev.bind E (Ev.bind (spec_PacketOk_ev _) ?_)
        by_cases hp : packetB (ordAt l c p).flatten = true
        · simp only [hp, if_true, Int.toNat_natCast]
          exact Ev.now _
        · simp only [Int.toNat_natCast, if_neg hp]
          exact Ev.now _
      · rw [if_neg (by omega)]
        exact hj _ (by simp only [decide_eq_false h3, Bool.not_false])
    · rw [if_neg (by omega)]
      simp only [decide_eq_false h2, Bool.false_eq_true, if_false]
      exact hj _ rfl
  · rw [if_neg (by omega)]
    simp only [decide_eq_false h1, Bool.false_eq_true, if_false]
    exact hj _ rfl
end Go.Proofs.Ytbeehklibkeecaa.F
end
section
/- Where a card stands. -/
namespace Go.Proofs.Ytbeehklibkeecaa.F
open Go.RowKit Go.Proofs.YtbeehklibkeecaaW.PrintWords Go.Proofs.YtbeehklibkeecaaW.PrintLast Go.Proofs.YtbeehklibkeecaaW.PrintMore
set_option linter.unusedVariables false
set_option linter.unusedSimpArgs false
def hasCard (q : List Int) (c : Int) : Bool := q.any fun y => cardOf y == c
theorem posOf_at (c : Int) (hc : 0 ≤ c) (rest : List Int) : ∀ (pre : List Int), (pre ++ rest).length ≤ 4611686018427387904 →
    Ev (fun k => spec_PositionOf.l0 k c (pre ++ rest) ((pre ++ rest).length : Int) (pre.length : Int)) (idxFrom (fun x => cardOf x == c) rest (pre.length : Int)) := by
  induction rest with
  | nil =>
    intro pre hb
    refine Ev.step (f := fun _ => some (-1)) (fun k => ?_) (Ev.now _)
    show spec_PositionOf.l0 (k + 1) c _ _ _ = _
    rw [spec_PositionOf.l0, if_neg (mid_nlt _)]
  | cons x rest ih =>
    intro pre hb
    by_cases e : cardOf x = c
    · rw [show idxFrom (fun x => cardOf x == c) (x :: rest) (pre.length : Int) = (pre.length : Int) by simp [idxFrom, e]]
      refine Ev.step (f := fun _ => some (pre.length : Int)) (fun k => ?_) (Ev.now _)
      show spec_PositionOf.l0 (k + 1) c _ _ _ = _
      rw [spec_PositionOf.l0, if_pos (mid_lt _ _ _), if_pos (nn _), if_pos (mid_lt _ _ _), mid_rd, spec_CardOf_eq, Option.bind_some, if_pos e, if_pos hc]
    · have h := ih (pre ++ [x]) (by simpa using hb)
      rw [← mid_cons, ← mid_succ pre x (by simp at hb; omega)] at h
      rw [show idxFrom (fun x => cardOf x == c) (x :: rest) (pre.length : Int) = idxFrom (fun x => cardOf x == c) rest (wrap64 ((pre.length : Int) + 1)) by simp [idxFrom, e]; rw [w64_nat _ (by simp at hb; omega)]; simp]
      refine Ev.step (fun k => ?_) h
      show spec_PositionOf.l0 (k + 1) c _ _ _ = _
      rw [spec_PositionOf.l0, if_pos (mid_lt _ _ _), if_pos (nn _), if_pos (mid_lt _ _ _), mid_rd, spec_CardOf_eq, Option.bind_some, if_neg e]
theorem posOf_ev (q : List Int) (c : Int) (hc : 0 ≤ c) (hb : q.length ≤ 4611686018427387904) : Ev (fun k => spec_PositionOf.f k q c) (idxFrom (fun x => cardOf x == c) q 0) := posOf_at c hc q [] hb
theorem idx_lt (c : Int) (q : List Int) : ∀ i : Int, 0 ≤ i → decide (idxFrom (fun x => cardOf x == c) q i < 0) = !hasCard q c := by
  induction q with
  | nil => intro i hi; simp [idxFrom, hasCard]
  | cons x q ih =>
    intro i hi
    by_cases e : cardOf x = c
    · have h1 : idxFrom (fun x => cardOf x == c) (x :: q) i = i := by simp [idxFrom, e]
      have h2 : hasCard (x :: q) c = true := by simp [hasCard, e]
      rw [h1, h2, decide_eq_false (by omega)]
      rfl
    · have h1 : idxFrom (fun x => cardOf x == c) (x :: q) i = idxFrom (fun x => cardOf x == c) q (i + 1) := by simp [idxFrom, e]
      have h2 : hasCard (x :: q) c = hasCard q c := by simp [hasCard, e]
      rw [h1, h2]
      exact ih (i + 1) (by omega)
theorem impl_pos_eq (q : List Int) (c : Int) (hc : 0 ≤ c) (hq : ∀ x ∈ q, -9223372036854775808 ≤ x) : impl_PositionOf.f q c = some (idxFrom (fun x => cardOf x == c) q 0) := by
  unfold impl_PositionOf.f
  rw [if_neg (by omega)]
  have aux : ∀ (l : List Int) (i : Int), (∀ x ∈ l, -9223372036854775808 ≤ x) → idxFrom (fun x => impl_CardOf.f x == some c) l i = idxFrom (fun x => cardOf x == c) l i := by
    intro l
    induction l with
    | nil => intro i _; rfl
    | cons x xs ih =>
      intro i h
      have hx := impl_CardOf_eq x (h x (by simp))
      have h2 := ih (i + 1) (fun y hy => h y (by simp [hy]))
      simp only [idxFrom, hx, h2]
      rfl
  rw [aux q 0 hq]
end Go.Proofs.Ytbeehklibkeecaa.F
end
section
/- One round of piles: both functions do the same. -/
namespace Go.Proofs.Ytbeehklibkeecaa.F
open Go.RowKit Go.Proofs.YtbeehklibkeecaaW.PrintWords Go.Proofs.YtbeehklibkeecaaW.PrintLast Go.Proofs.YtbeehklibkeecaaW.PrintMore
set_option linter.unusedVariables false
set_option linter.unusedSimpArgs false
theorem dealt_mem (l : List Int) (p : Int) (h : pilesB (l.length : Int) p = true) : ∃ r, dealtR l p r ∧ (∀ y ∈ r, ∀ x ∈ y, x ∈ l) ∧ (r.length : Int) = p := by
  unfold pilesB at h
  simp only [Bool.and_eq_true, decide_eq_true_eq, beq_iff_eq] at h
  obtain ⟨⟨h1, h2, h3, h4⟩, h5⟩ := h
  obtain ⟨q, rfl⟩ := Int.eq_ofNat_of_zero_le (show 0 ≤ p by omega)
  rw [← Int.ofNat_tmod] at h5
  have hq : q = 2 ∨ q = 3 ∨ q = 4 := by omega
  have h6 : l.length % q = 0 := by exact_mod_cast h5
  rcases hq with rfl | rfl | rfl
  · have hn : l.length = 2 ∨ l.length = 4 ∨ l.length = 6 ∨ l.length = 8 ∨ l.length = 10 ∨ l.length = 12 := by omega
    rcases hn with hn | hn | hn | hn | hn | hn
    · obtain ⟨x0, x1, rfl⟩ := len_2 l hn
      exact ⟨_, deal_2_2 x0 x1, by simp, rfl⟩
    · obtain ⟨x0, x1, x2, x3, rfl⟩ := len_4 l hn
      exact ⟨_, deal_4_2 x0 x1 x2 x3, by simp, rfl⟩
    · obtain ⟨x0, x1, x2, x3, x4, x5, rfl⟩ := len_6 l hn
      exact ⟨_, deal_6_2 x0 x1 x2 x3 x4 x5, by simp, rfl⟩
    · obtain ⟨x0, x1, x2, x3, x4, x5, x6, x7, rfl⟩ := len_8 l hn
      exact ⟨_, deal_8_2 x0 x1 x2 x3 x4 x5 x6 x7, by simp, rfl⟩
    · obtain ⟨x0, x1, x2, x3, x4, x5, x6, x7, x8, x9, rfl⟩ := len_10 l hn
      exact ⟨_, deal_10_2 x0 x1 x2 x3 x4 x5 x6 x7 x8 x9, by simp, rfl⟩
    · obtain ⟨x0, x1, x2, x3, x4, x5, x6, x7, x8, x9, x10, x11, rfl⟩ := len_12 l hn
      exact ⟨_, deal_12_2 x0 x1 x2 x3 x4 x5 x6 x7 x8 x9 x10 x11, by simp, rfl⟩
  · have hn : l.length = 3 ∨ l.length = 6 ∨ l.length = 9 ∨ l.length = 12 := by omega
    rcases hn with hn | hn | hn | hn
    · obtain ⟨x0, x1, x2, rfl⟩ := len_3 l hn
      exact ⟨_, deal_3_3 x0 x1 x2, by simp, rfl⟩
    · obtain ⟨x0, x1, x2, x3, x4, x5, rfl⟩ := len_6 l hn
      exact ⟨_, deal_6_3 x0 x1 x2 x3 x4 x5, by simp, rfl⟩
    · obtain ⟨x0, x1, x2, x3, x4, x5, x6, x7, x8, rfl⟩ := len_9 l hn
      exact ⟨_, deal_9_3 x0 x1 x2 x3 x4 x5 x6 x7 x8, by simp, rfl⟩
    · obtain ⟨x0, x1, x2, x3, x4, x5, x6, x7, x8, x9, x10, x11, rfl⟩ := len_12 l hn
      exact ⟨_, deal_12_3 x0 x1 x2 x3 x4 x5 x6 x7 x8 x9 x10 x11, by simp, rfl⟩
  · have hn : l.length = 4 ∨ l.length = 8 ∨ l.length = 12 := by omega
    rcases hn with hn | hn | hn
    · obtain ⟨x0, x1, x2, x3, rfl⟩ := len_4 l hn
      exact ⟨_, deal_4_4 x0 x1 x2 x3, by simp, rfl⟩
    · obtain ⟨x0, x1, x2, x3, x4, x5, x6, x7, rfl⟩ := len_8 l hn
      exact ⟨_, deal_8_4 x0 x1 x2 x3 x4 x5 x6 x7, by simp, rfl⟩
    · obtain ⟨x0, x1, x2, x3, x4, x5, x6, x7, x8, x9, x10, x11, rfl⟩ := len_12 l hn
      exact ⟨_, deal_12_4 x0 x1 x2 x3 x4 x5 x6 x7 x8 x9 x10 x11, by simp, rfl⟩
theorem piles_ex (l : List Int) (a : Int) (hb : l.length ≤ 1048576) (hw : ∀ x ∈ l, -9223372036854775808 ≤ x) : ∃ r : List (List Int), Ev (fun k => spec_PilesOf.f k l a) r ∧ Ev (fun k => impl_PilesOf.f k l a) r ∧ r.length ≤ 12 ∧ (∀ y ∈ r, y.length ≤ 12) ∧ (∀ y ∈ r, ∀ x ∈ y, x ∈ l) ∧ (r = [] ∨ (r.length : Int) = a) := by
  have E2 := spec_PacketOk_ev l
  have E3 := impl_PacketOk_ev l (by omega) hw
  by_cases h : packetB l = true ∧ pilesB (l.length : Int) a = true
  · obtain ⟨r, hd, hmem, hlen⟩ := dealt_mem l a h.2
    obtain ⟨d1, d2, d3, d4, d5⟩ := hd
    have D1 : Ev (fun k => spec_l14Piles.f k l a) r := Ev.at_ 60 (fun k hk => by obtain ⟨m, rfl⟩ := Nat.exists_eq_add_of_le' hk; exact d1 m)
    have D2 : Ev (fun k => impl_PilesOf.j0 k l a false) r := Ev.at_ 60 (fun k hk => by obtain ⟨m, rfl⟩ := Nat.exists_eq_add_of_le' hk; exact d2 m)
    refine ⟨r, ?_, ?_, d3, d4, hmem, .inr hlen⟩
    · unfold spec_PilesOf.f
      refine Ev.bind E2 ?_
      simp only [h.1, if_true, spec_PilesOk_eq, h.2, Option.bind_some]
      exact Ev.bind D1 (Ev.now _)
    · unfold impl_PilesOf.f
      refine Ev.bind E3 ?_
      simp only [h.1, if_true, impl_PilesOk_eq, h.2, Option.bind_some, Bool.not_true]
      exact D2
  · refine ⟨[], ?_, ?_, by decide, by simp, by simp, .inl rfl⟩
    · unfold spec_PilesOf.f
      refine Ev.bind E2 ?_
      simp only [spec_PilesOk_eq, Option.bind_some]
      by_cases h1 : packetB l = true
      · have h2 : pilesB (l.length : Int) a = false := by simpa [h1] using h
        simp only [h1, h2, if_true, Bool.false_eq_true, if_false]
        exact Ev.now _
      · simp only [h1, if_false]
        exact Ev.now _
    · have hj : Ev (fun k => impl_PilesOf.j0 k l a true) [] := Ev.at_ 1 (fun k hk => by obtain ⟨m, rfl⟩ := Nat.exists_eq_add_of_le' hk; rfl)
      unfold impl_PilesOf.f
      refine Ev.bind E3 ?_
      simp only [impl_PilesOk_eq, Option.bind_some]
      by_cases h1 : packetB l = true
      · have h2 : pilesB (l.length : Int) a = false := by simpa [h1] using h
        simp only [h1, h2, if_true, Bool.not_false]
        exact hj
      · simp only [h1, if_false]
        exact hj
/-- Where card c stands in q; -1: nowhere. -/
def posB (q : List Int) (c : Int) : Int := if c < 0 then -1 else idxFrom (fun x => cardOf x == c) q 0
theorem posNeg_at (c : Int) (hc : c < 0) (rest : List Int) : ∀ (pre : List Int), (pre ++ rest).length ≤ 4611686018427387904 →
    Ev (fun k => spec_PositionOf.l0 k c (pre ++ rest) ((pre ++ rest).length : Int) (pre.length : Int)) (-1) := by
  induction rest with
  | nil =>
    intro pre hb
    refine Ev.step (f := fun _ => some (-1)) (fun k => ?_) (Ev.now _)
    show spec_PositionOf.l0 (k + 1) c _ _ _ = _
    rw [spec_PositionOf.l0, if_neg (mid_nlt _)]
  | cons x rest ih =>
    intro pre hb
    have h := ih (pre ++ [x]) (by simpa using hb)
    rw [← mid_cons, ← mid_succ pre x (by simp at hb; omega)] at h
    refine Ev.step (fun k => ?_) h
    show spec_PositionOf.l0 (k + 1) c _ _ _ = _
    rw [spec_PositionOf.l0, if_pos (mid_lt _ _ _), if_pos (nn _), if_pos (mid_lt _ _ _), mid_rd, spec_CardOf_eq, Option.bind_some]
    by_cases e : cardOf x = c
    · rw [if_pos e, if_neg (by omega)]
    · rw [if_neg e]
theorem spec_posB (q : List Int) (c : Int) (hb : q.length ≤ 4611686018427387904) : Ev (fun k => spec_PositionOf.f k q c) (posB q c) := by
  unfold posB
  by_cases h : c < 0
  · rw [if_pos h]; exact posNeg_at c h q [] hb
  · rw [if_neg h]; exact posOf_ev q c (by omega) hb
theorem impl_posB (q : List Int) (c : Int) (hq : ∀ x ∈ q, -9223372036854775808 ≤ x) : impl_PositionOf.f q c = some (posB q c) := by
  unfold posB
  by_cases h : c < 0
  · rw [if_pos h]; unfold impl_PositionOf.f; rw [if_pos h]
  · rw [if_neg h]; exact impl_pos_eq q c (by omega) hq
theorem pileHas_eq (q : List Int) (c : Int) (hq : ∀ x ∈ q, -9223372036854775808 ≤ x) : pileHas c q = decide (0 ≤ posB q c) := by
  unfold pileHas
  rw [impl_posB q c hq]
def roundB (list : List (List Int)) (c p : Int) (rest : List (List Int)) (i : Int) : List Int × Bool := if idxFromL (pileHas c) rest i < 0 then ([], false) else gatherB list (idxFromL (pileHas c) rest i) p
theorem spec_round_at (list : List (List Int)) (c p : Int) (hb : ∀ x ∈ list, x.length ≤ 1048576) (hw : ∀ x ∈ list, ∀ y ∈ x, -9223372036854775808 ≤ y) (rest : List (List Int)) : ∀ pre, list = pre ++ rest → list.length ≤ 4611686018427387904 →
    Ev (fun k => spec_PileRound.l0 k c p list list (list.length : Int) (pre.length : Int)) (roundB list c p rest (pre.length : Int)) := by
  induction rest with
  | nil =>
    intro pre he hl
    refine Ev.step (f := fun _ => some ([], false)) (fun k => ?_) (Ev.now _)
    show spec_PileRound.l0 (k + 1) _ _ _ _ _ _ = _
    rw [spec_PileRound.l0, if_neg (by rw [he]; exact mid_nlt _)]
  | cons x rest ih =>
    intro pre he hl
    have hx : x ∈ list := by rw [he]; simp
    have hrd : rd_L1 list (pre.length : Int) = x := by rw [he]; exact mid_rdLL pre x rest
    have E := spec_posB x c (by have := hb x hx; omega)
    have hlt : (pre.length : Int) < (list.length : Int) := by rw [he]; simp; omega
    have hph := pileHas_eq x c (hw x hx)
    by_cases h : posB x c ≥ 0
    · have hp : pileHas c x = true := by rw [hph]; exact decide_eq_true h
      have hi : idxFromL (pileHas c) (x :: rest) (pre.length : Int) = (pre.length : Int) := by unfold idxFromL; rw [if_pos hp]
      unfold roundB
      rw [hi, if_neg (by omega)]
      refine Ev.stepb E (fun k => by
        show spec_PileRound.l0 (k + 1) _ _ _ _ _ _ = _
        rw [spec_PileRound.l0, if_pos hlt, if_pos (nn _), if_pos hlt, hrd]) ?_
      simp only [if_pos h]
      exact Ev.bind (spec_gather_ev list _ p hb hl) (Ev.now _)
    · have hp : ¬ pileHas c x = true := by rw [hph, decide_eq_false (by omega)]; decide
      have hi : idxFromL (pileHas c) (x :: rest) (pre.length : Int) = idxFromL (pileHas c) rest ((pre.length : Int) + 1) := by conv => lhs; unfold idxFromL
                                                                                                                               rw [if_neg hp]
      have hih := ih (pre ++ [x]) (by rw [he]; simp) hl
      have e1 : wrap64 ((pre.length : Int) + 1) = ((pre ++ [x]).length : Int) := by rw [w64_id (by omega) (by omega)]; simp
      have e2 : ((pre ++ [x]).length : Int) = (pre.length : Int) + 1 := by simp
      unfold roundB
      rw [hi, ← e2]
      refine Ev.stepb E (fun k => by
        show spec_PileRound.l0 (k + 1) _ _ _ _ _ _ = _
        rw [spec_PileRound.l0, if_pos hlt, if_pos (nn _), if_pos hlt, hrd]) ?_
      simp only [if_neg h, e1]
      exact hih
/-- Both functions make the same round. -/
theorem round_ex (l : List Int) (a c p : Int) (hb : l.length ≤ 1048576) (hw : ∀ x ∈ l, -9223372036854775808 ≤ x) :
    ∃ r : List (List Int), Ev (fun k => spec_PileRound.f k l a c p) (roundB r c p r 0) ∧ Ev (fun k => impl_PileRound.f k l a c p) (roundB r c p r 0) ∧ (r = [] ∨ (r.length : Int) = a) ∧ (∀ y ∈ r, ∀ x ∈ y, x ∈ l) := by
  obtain ⟨r, h1, h2, h3, h4, h5, h6⟩ := piles_ex l a hb hw
  have b1 : ∀ x ∈ r, x.length ≤ 1048576 := fun x hx => by have := h4 x hx; omega
  have b2 : ∀ x ∈ r, ∀ y ∈ x, -9223372036854775808 ≤ y := fun x hx y hy => hw y (h5 x hx y hy)
  refine ⟨r, ?_, ?_, h6, h5⟩
  · unfold spec_PileRound.f
    exact Ev.bind h1 (spec_round_at r c p b1 b2 r [] rfl (by omega))
  · unfold impl_PileRound.f
    refine Ev.bind h2 ?_
    unfold roundB
    by_cases h : idxFromL (pileHas c) r 0 < 0
    · simp only [if_pos h]; exact Ev.now _
    · simp only [if_neg h]; exact impl_gather_ev r _ p b1 b2
theorem gatherB_len (l : List (List Int)) (a b : Int) : (gatherB l a b).1.length ≤ 12 := by
  unfold gatherB
  split
  · split
    · exact packetB_len (by assumption)
    · simp
  · simp
theorem roundB_len (list : List (List Int)) (c p : Int) (rest : List (List Int)) (i : Int) : (roundB list c p rest i).1.length ≤ 12 := by
  unfold roundB
  split
  · simp
  · exact gatherB_len _ _ _
end Go.Proofs.Ytbeehklibkeecaa.F
end
section
/- Where a card lies behind one round: both functions tell the same. -/
namespace Go.Proofs.Ytbeehklibkeecaa.F
open Go.RowKit Go.Proofs.YtbeehklibkeecaaW.PrintWords Go.Proofs.YtbeehklibkeecaaW.PrintLast Go.Proofs.YtbeehklibkeecaaW.PrintMore
set_option linter.unusedVariables false
set_option linter.unusedSimpArgs false
theorem upTo_ev (n : Int) (h0 : 0 ≤ n) (h1 : n ≤ 12) : Ev (fun k => impl_upTo.f k n) (seqFrom 0 n.toNat) ∧ Ev (fun k => spec_NewPacket.f k n) (seqFrom 0 n.toNat) := by
  have h : n = 0 ∨ n = 1 ∨ n = 2 ∨ n = 3 ∨ n = 4 ∨ n = 5 ∨ n = 6 ∨ n = 7 ∨ n = 8 ∨ n = 9 ∨ n = 10 ∨ n = 11 ∨ n = 12 := by omega
  rcases h with rfl | rfl | rfl | rfl | rfl | rfl | rfl | rfl | rfl | rfl | rfl | rfl | rfl
  all_goals exact ⟨Ev.at_ 20 (fun k hk => by obtain ⟨m, rfl⟩ := Nat.exists_eq_add_of_le' hk; kernel_rfl), Ev.at_ 20 (fun k hk => by obtain ⟨m, rfl⟩ := Nat.exists_eq_add_of_le' hk; kernel_rfl)⟩
theorem seqFrom_mem (n : Nat) : ∀ a x : Int, x ∈ seqFrom a n → a ≤ x ∧ x < a + n := by
  induction n with
  | zero => intro a x h; simp [seqFrom] at h
  | succ n ih =>
    intro a x h
    simp only [seqFrom, List.mem_cons] at h
    rcases h with rfl | h
    · omega
    · have := ih (a + 1) x h; omega
theorem index_idx (x : Int) (rest : List Int) : ∀ (pre : List Int), (pre ++ rest).length ≤ 4611686018427387904 →
    Ev (fun k => slices_Index_Lint_int.l0 k (pre ++ rest) x ((pre ++ rest).length : Int) (pre.length : Int)) (idxFrom (fun y => y == x) rest (pre.length : Int)) := by
  induction rest with
  | nil =>
    intro pre hb
    refine Ev.step (f := fun _ => some (-1)) (fun k => ?_) (Ev.now _)
    show slices_Index_Lint_int.l0 (k + 1) _ _ _ _ = _
    rw [slices_Index_Lint_int.l0, if_neg (mid_nlt _)]
  | cons y rest ih =>
    intro pre hb
    by_cases e : x = y
    · rw [show idxFrom (fun y => y == x) (y :: rest) (pre.length : Int) = (pre.length : Int) by simp [idxFrom, e]]
      refine Ev.step (f := fun _ => some (pre.length : Int)) (fun k => ?_) (Ev.now _)
      show slices_Index_Lint_int.l0 (k + 1) _ _ _ _ = _
      rw [slices_Index_Lint_int.l0, if_pos (mid_lt _ _ _), if_pos (nn _), if_pos (mid_lt _ _ _), mid_rd, if_pos e]
    · have h := ih (pre ++ [y]) (by simpa using hb)
      rw [← mid_cons, ← mid_succ pre y (by simp at hb; omega)] at h
      rw [show idxFrom (fun y => y == x) (y :: rest) (pre.length : Int) = idxFrom (fun y => y == x) rest (wrap64 ((pre.length : Int) + 1)) by simp [idxFrom, Ne.symm e]; rw [w64_nat _ (by simp at hb; omega)]; simp]
      refine Ev.step (fun k => ?_) h
      show slices_Index_Lint_int.l0 (k + 1) _ _ _ _ = _
      rw [slices_Index_Lint_int.l0, if_pos (mid_lt _ _ _), if_pos (nn _), if_pos (mid_lt _ _ _), mid_rd, if_neg e]
theorem idxFrom_congr (p q : Int → Bool) (l : List Int) : ∀ i, (∀ x ∈ l, p x = q x) → idxFrom p l i = idxFrom q l i := by
  induction l with
  | nil => intro i _; rfl
  | cons x l ih =>
    intro i h
    unfold idxFrom
    rw [h x List.mem_cons_self, ih (i + 1) (fun y hy => h y (List.mem_cons_of_mem _ hy))]
theorem cardOf_self (x : Int) (h0 : 0 ≤ x) (h1 : x < 12) : cardOf x = x := by
  have h : x = 0 ∨ x = 1 ∨ x = 2 ∨ x = 3 ∨ x = 4 ∨ x = 5 ∨ x = 6 ∨ x = 7 ∨ x = 8 ∨ x = 9 ∨ x = 10 ∨ x = 11 := by omega
  rcases h with rfl | rfl | rfl | rfl | rfl | rfl | rfl | rfl | rfl | rfl | rfl | rfl <;> decide +kernel
theorem gatherB_mem {l : List (List Int)} {a b : Int} {x : Int} (h : x ∈ (gatherB l a b).1) : ∃ y ∈ l, x ∈ y := by
  unfold gatherB at h
  split at h
  · split at h
    · obtain ⟨y, hy, hxy⟩ := List.mem_flatten.1 h
      exact ⟨y, ordAt_mem hy, hxy⟩
    · simp at h
  · simp at h
theorem gatherB_fst (l : List (List Int)) (a b : Int) (h : (gatherB l a b).2 = false) : (gatherB l a b).1 = [] := by
  unfold gatherB at h ⊢
  split at h
  · split at h
    · cases h
    · rename_i h1 h2; rw [if_pos h1, if_neg h2]
  · rename_i h1; rw [if_neg h1]
theorem pilesB_iff (n p : Int) : pilesB n p = true ↔ (2 ≤ p ∧ p ≤ 4 ∧ p ≤ n ∧ n ≤ 12) ∧ Int.tmod n p = 0 := by
  unfold pilesB
  simp only [Bool.and_eq_true, decide_eq_true_eq, beq_iff_eq]
theorem roundB_mem {l : List (List Int)} {c p : Int} {x : Int} (h : x ∈ (roundB l c p l 0).1) : ∃ y ∈ l, x ∈ y := by
  unfold roundB at h
  split at h
  · simp at h
  · exact gatherB_mem h
theorem roundB_fst (l : List (List Int)) (c p : Int) (h : (roundB l c p l 0).2 = false) : (roundB l c p l 0).1 = [] := by
  unfold roundB at h ⊢
  split at h
  · rename_i h1; rw [if_pos h1]
  · rename_i h1; rw [if_neg h1]; exact gatherB_fst _ _ _ h
theorem roundB_out (l : List (List Int)) (c p : Int) (h : ¬ (0 ≤ p ∧ p < (l.length : Int))) : (roundB l c p l 0).1 = [] := by
  unfold roundB
  split
  · rfl
  · unfold gatherB
    rw [if_neg (by omega)]
/-- What both functions tell. -/
theorem indexAfter_ex (n p i q : Int) (hn : -9223372036854775808 ≤ n ∧ n ≤ 9223372036854775807) (hp : -9223372036854775808 ≤ p ∧ p ≤ 9223372036854775807) : ∃ r : Int, Ev (fun k => spec_IndexAfter.f k n p i q) r ∧ Ev (fun k => impl_IndexAfter.f k n p i q) r := by
  have sj : ∀ x, x = true → Ev (fun k => spec_IndexAfter.j0 k n p i q x) (-1) := fun x hx => by
    subst hx
    exact Ev.step (f := fun _ => some (-1)) (fun k => by rw [spec_IndexAfter.j0, if_pos rfl]) (Ev.now _)
  have ij : ∀ x, x = true → Ev (fun k => impl_IndexAfter.j0 k n p i q x) (-1) := fun x hx => by
    subst hx
    exact Ev.step (f := fun _ => some (-1)) (fun k => by rw [impl_IndexAfter.j0, if_pos rfl]) (Ev.now _)
  by_cases c1 : pilesB n p = true
  · have hc1 := (pilesB_iff n p).1 c1
    obtain ⟨⟨h1, h2, h3, h4⟩, h5⟩ := hc1
    have w1 : wrap64 (n - 1) = n - 1 := w64_id (by omega) (by omega)
    have w2 : wrap64 (p - 1) = p - 1 := w64_id (by omega) (by omega)
    by_cases c2 : 0 ≤ i ∧ i ≤ n - 1
    · obtain ⟨u1, u2⟩ := upTo_ev n (by omega) (by omega)
      have hmem := seqFrom_mem n.toNat 0
      have hsl := seqFrom_length n.toNat 0
      generalize seqFrom 0 n.toNat = l at u1 u2 hmem hsl
      obtain ⟨r, e1, e2, e3, e4⟩ := round_ex l p i q (by omega) (fun x hx => by have := hmem x hx; omega)
      have hlen := roundB_len r i q r 0
      have hx : ∀ x ∈ (roundB r i q r 0).1, 0 ≤ x ∧ x < 12 := fun x hx => by
        obtain ⟨y, hy, hxy⟩ := roundB_mem hx
        have := hmem x (e4 y hy x hxy)
        omega
      have hcg : posB (roundB r i q r 0).1 i = idxFrom (fun y => y == i) (roundB r i q r 0).1 0 := by
        unfold posB
        rw [if_neg (by omega)]
        exact idxFrom_congr _ _ _ _ (fun x hx' => by rw [cardOf_self x (hx x hx').1 (hx x hx').2])
      have hout : ¬ (0 ≤ q ∧ q ≤ p - 1) → (roundB r i q r 0).1 = [] := fun hq => by
        rcases e3 with rfl | e3
        · exact roundB_out _ _ _ (by simp)
        · exact roundB_out _ _ _ (by omega)
      have hf := roundB_fst r i q
      generalize roundB r i q r 0 = R at e1 e2 hlen hx hcg hout hf
      refine ⟨idxFrom (fun y => y == i) R.1 0, ?_, ?_⟩
      · unfold spec_IndexAfter.f
        simp only [spec_PilesOk_eq, c1, Option.bind_some, if_true, l01In_eq, w1, w2, decide_eq_true c2]
        by_cases c3 : 0 ≤ q ∧ q ≤ p - 1
        · simp only [decide_eq_true c3, Bool.not_true]
          refine Ev.step (fun k => by rw [spec_IndexAfter.j0, if_neg (by decide)]) ?_
          refine Ev.bind u2 (Ev.bind e1 ?_)
          rw [← hcg]
          exact Ev.bind (spec_posB R.1 i (by omega)) (Ev.now _)
        · rw [hout c3]
          exact sj _ (by simp only [decide_eq_false c3, Bool.not_false])
      · unfold impl_IndexAfter.f
        simp only [impl_PilesOk_eq, c1, Option.bind_some, if_true]
        simp only [if_neg (show ¬ i < 0 by omega), decide_eq_false (show ¬ i ≥ n by omega)]
        refine Ev.step (fun k => by rw [impl_IndexAfter.j0, if_neg (by decide)]) ?_
        refine Ev.bind u1 (Ev.bind e2 ?_)
        cases hb : R.2 with
        | true =>
          simp only [if_true]
          exact Ev.bind (index_idx i R.1 [] (by simp; omega)) (Ev.now _)
        | false =>
          rw [hf hb]
          simp only [Bool.false_eq_true, if_false]
          exact Ev.now _
    · refine ⟨-1, ?_, ?_⟩
      · unfold spec_IndexAfter.f
        simp only [spec_PilesOk_eq, c1, Option.bind_some, if_true, l01In_eq, w1, decide_eq_false c2, Bool.false_eq_true, if_false]
        exact sj _ rfl
      · unfold impl_IndexAfter.f
        simp only [impl_PilesOk_eq, c1, Option.bind_some, if_true]
        by_cases c3 : i < 0
        · simp only [if_pos c3]; exact ij _ rfl
        · simp only [if_neg c3]; exact ij _ (decide_eq_true (by omega))
  · refine ⟨-1, ?_, ?_⟩
    · unfold spec_IndexAfter.f
      simp only [spec_PilesOk_eq, Bool.eq_false_iff.mpr c1, Option.bind_some, Bool.false_eq_true, if_false]
      exact sj _ rfl
    · unfold impl_IndexAfter.f
      simp only [impl_PilesOk_eq, Bool.eq_false_iff.mpr c1, Option.bind_some, Bool.false_eq_true, if_false]
      exact ij _ rfl
end Go.Proofs.Ytbeehklibkeecaa.F
end
