import Derived.Test.YtbeehklibkeecaaZFnRounds9
import Derived.Test.YtbeehklibkeecaaZFnRounds4
import Derived.Test.YtbeehklibkeecaaZFnRounds5
import Derived.Test.YtbeehklibkeecaaZFnRounds6
import Derived.Test.YtbeehklibkeecaaZFnRounds7
section
/- Putting piles together: both functions make the same order. -/
namespace Go.Proofs.Ytbeehklibkeecaa.F
open Go.RowKit Go.Proofs.YtbeehklibkeecaaW.PrintWords Go.Proofs.YtbeehklibkeecaaW.PrintLast Go.Proofs.YtbeehklibkeecaaW.PrintMore
set_option linter.unusedVariables false
set_option linter.unusedSimpArgs false
theorem del_getD (l : List (List Int)) (c m : Nat) (hc : c < l.length) : (l.take c ++ l.drop (c + 1)).getD m [] = l.getD (if m < c then m else m + 1) [] := by
  rw [List.getD_eq_getElem?_getD, List.getD_eq_getElem?_getD, List.getElem?_append]
  simp only [List.length_take, Nat.min_eq_left (Nat.le_of_lt hc)]
  by_cases h : m < c
  · rw [if_pos h, if_pos h, List.getElem?_take, if_pos h]
  · rw [if_neg h, if_neg h, List.getElem?_drop, show c + 1 + (m - c) = m + 1 by omega]
theorem getD_len {l : List (List Int)} (hb : ∀ x ∈ l, x.length ≤ 1048576) (i : Nat) : (l.getD i []).length ≤ 1048576 := by
  rw [List.getD_eq_getElem?_getD]
  cases h : l[i]? with
  | none => simp
  | some x => exact hb x (List.mem_of_getElem? h)
/-- Where the next pile is read. -/
def atP (c m : Nat) : Nat := if m ≤ c then m else m + 1
theorem gather_step (l : List (List Int)) (c p m pos : Nat) (out : List Int) (hc : c < l.length) (hn : l.length ≤ 4) (hm : m + 1 < l.length) (hpos : pos < l.length) (hne : pos ≠ p) (hb : ∀ x ∈ l, x.length ≤ 1048576) (ho : out.length ≤ 4194304) (k : Nat) :
    spec_l14Gather.l0 (k + 1) l c p out (atP c m) pos = spec_l14Gather.l0 k l c p (out ++ (l.take c ++ l.drop (c + 1)).getD m []) (atP c (m + 1)) ((pos + 1 : Nat) : Int) := by
  rw [del_getD l c m hc]
  have w1 : ∀ q : Nat, q ≤ 8 → wrap64 ((q : Int) + 1) = ((q + 1 : Nat) : Int) := fun q hq => by rw [w64_id (by omega) (by omega)]; rfl
  have hl := getD_len hb
  have aL : ∀ q, q ≤ c → atP c q = q := fun q h => if_pos h
  have aG : ∀ q, ¬ q ≤ c → atP c q = q + 1 := fun q h => if_neg h
  by_cases e : m = c
  · subst e
    rw [aL m (Nat.le_refl _), aG (m + 1) (by omega), if_neg (Nat.lt_irrefl _)]
    conv => lhs; rw [spec_l14Gather.l0]
    rw [if_pos (by omega), if_neg (by omega), if_pos rfl, w1 m (by omega), if_pos (by omega), if_pos (by omega)]
    have e1 : rd_L1 l ((m + 1 : Nat) : Int) = l.getD (m + 1) [] := rfl
    rw [e1, if_pos (by have := hl (m + 1); omega), w1 (m + 1) (by omega), w1 pos (by omega)]
  · by_cases h : m < c
    · rw [aL m (by omega), aL (m + 1) (by omega), if_pos h]
      conv => lhs; rw [spec_l14Gather.l0]
      rw [if_pos (by omega), if_neg (by omega), if_neg (by omega), if_pos (by omega), if_pos (by omega)]
      have e1 : rd_L1 l (m : Int) = l.getD m [] := rfl
      rw [e1, if_pos (by have := hl m; omega), w1 m (by omega), w1 pos (by omega)]
    · rw [aG m (by omega), aG (m + 1) (by omega), if_neg h]
      conv => lhs; rw [spec_l14Gather.l0]
      rw [if_pos (by omega), if_neg (by omega), if_neg (by omega), if_pos (by omega), if_pos (by omega)]
      have e1 : rd_L1 l ((m + 1 : Nat) : Int) = l.getD (m + 1) [] := rfl
      rw [e1, if_pos (by have := hl (m + 1); omega), w1 (m + 1) (by omega), w1 pos (by omega)]
theorem drop_getD (D : List (List Int)) (m : Nat) (h : m < D.length) : D.drop m = D.getD m [] :: D.drop (m + 1) := by
  rw [List.drop_eq_getElem_cons h, List.getD_eq_getElem?_getD, List.getElem?_eq_getElem h]; rfl
theorem gather_after (l : List (List Int)) (c p : Nat) (hc : c < l.length) (hn : l.length ≤ 4) (hb : ∀ x ∈ l, x.length ≤ 1048576) (q : Nat) : ∀ (m : Nat) (out : List Int), m + 1 + q = l.length → p < m + 1 → out.length ≤ (m + 1) * 1048576 →
    Ev (fun k => spec_l14Gather.l0 k l c p out (atP c m) ((m + 1 : Nat) : Int)) (out ++ ((l.take c ++ l.drop (c + 1)).drop m).flatten) := by
  have hD : (l.take c ++ l.drop (c + 1)).length = l.length - 1 := by simp; omega
  induction q with
  | zero =>
    intro m out hm hp ho
    rw [List.drop_of_length_le (by omega), List.flatten_nil, List.append_nil]
    refine Ev.step (f := fun _ => some out) (fun k => ?_) (Ev.now _)
    show spec_l14Gather.l0 (k + 1) _ _ _ _ _ _ = _
    rw [spec_l14Gather.l0, if_neg (by omega)]
  | succ q ih =>
    intro m out hm hp ho
    rw [drop_getD _ m (by omega), List.flatten_cons, ← List.append_assoc]
    have hl : ((l.take c ++ l.drop (c + 1)).getD m []).length ≤ 1048576 := by rw [del_getD l c m hc]; exact getD_len hb _
    refine Ev.step (fun k => ?_) (ih (m + 1) _ (by omega) (by omega) (by rw [List.length_append]; omega))
    exact gather_step l c p m (m + 1) out hc hn (by omega) (by omega) (by omega) hb (by omega) k
theorem gather_before (l : List (List Int)) (c p : Nat) (hc : c < l.length) (hp : p < l.length) (hn : l.length ≤ 4) (hb : ∀ x ∈ l, x.length ≤ 1048576) (q : Nat) : ∀ (m : Nat) (out : List Int), m + q = p → out.length ≤ m * 1048576 →
    Ev (fun k => spec_l14Gather.l0 k l c p out (atP c m) (m : Int)) (out ++ (((l.take c ++ l.drop (c + 1)).take p).drop m).flatten ++ l.getD c [] ++ ((l.take c ++ l.drop (c + 1)).drop p).flatten) := by
  have hD : (l.take c ++ l.drop (c + 1)).length = l.length - 1 := by simp; omega
  have w1 : ∀ q : Nat, q ≤ 8 → wrap64 ((q : Int) + 1) = ((q + 1 : Nat) : Int) := fun q hq => by rw [w64_id (by omega) (by omega)]; rfl
  induction q with
  | zero =>
    intro m out hm ho
    obtain rfl : m = p := by omega
    rw [List.drop_of_length_le (by simp; omega), List.flatten_nil, List.append_nil]
    have hl : (l.getD c []).length ≤ 1048576 := getD_len hb _
    refine Ev.step (fun k => ?_) (gather_after l c m hc hn hb (l.length - m - 1) m (out ++ l.getD c []) (by omega) (by omega) (by rw [List.length_append]; omega))
    show spec_l14Gather.l0 (k + 1) _ _ _ _ _ _ = _
    conv => lhs; rw [spec_l14Gather.l0]
    have e1 : rd_L1 l (c : Int) = l.getD c [] := rfl
    rw [if_pos (by omega), if_pos rfl, if_pos (by omega), if_pos (by omega), e1, if_pos (by omega), w1 m (by omega)]
  | succ q ih =>
    intro m out hm ho
    have hl : ((l.take c ++ l.drop (c + 1)).getD m []).length ≤ 1048576 := by rw [del_getD l c m hc]; exact getD_len hb _
    have e2 : ((l.take c ++ l.drop (c + 1)).take p).drop m = (l.take c ++ l.drop (c + 1)).getD m [] :: ((l.take c ++ l.drop (c + 1)).take p).drop (m + 1) := by
      rw [drop_getD _ m (by simp; omega)]
      congr 1
      rw [List.getD_eq_getElem?_getD, List.getD_eq_getElem?_getD, List.getElem?_take, if_pos (by omega)]
    rw [e2, List.flatten_cons, ← List.append_assoc out]
    refine Ev.step (fun k => ?_) (ih (m + 1) _ (by omega) (by rw [List.length_append]; omega))
    exact gather_step l c p m m out hc hn (by omega) (by omega) (by omega) hb (by omega) k
theorem ordAt_flat (l : List (List Int)) (c p : Nat) (hc : c < l.length) : (ordAt l c p).flatten = ((l.take c ++ l.drop (c + 1)).take p).flatten ++ l.getD c [] ++ ((l.take c ++ l.drop (c + 1)).drop p).flatten := by
  unfold ordAt
  rw [List.flatten_append, List.flatten_append, List.getD_eq_getElem?_getD, List.getElem?_eq_getElem hc]
  simp
theorem l14Gather_ev (l : List (List Int)) (c p : Nat) (hc : c < l.length) (hp : p < l.length) (hn : l.length ≤ 4) (hb : ∀ x ∈ l, x.length ≤ 1048576) : Ev (fun k => spec_l14Gather.f k l c p) (ordAt l c p).flatten := by
  have h := gather_before l c p hc hp hn hb p 0 [] (by omega) (by simp)
  rw [ordAt_flat l c p hc]
  have e : atP c 0 = 0 := by unfold atP; simp
  rw [e, List.nil_append, List.drop_zero] at h
  exact h
/-- What both functions make. -/
def gatherB (l : List (List Int)) (a b : Int) : List Int × Bool :=
  if 2 ≤ l.length ∧ l.length ≤ 4 ∧ 0 ≤ a ∧ a < (l.length : Int) ∧ 0 ≤ b ∧ b < (l.length : Int) then (if packetB (ordAt l a.toNat b.toNat).flatten then ((ordAt l a.toNat b.toNat).flatten, true) else ([], false)) else ([], false)
theorem ordAt_lens {l : List (List Int)} (c p : Nat) (hn : l.length ≤ 4) (hc : c < l.length) (hb : ∀ x ∈ l, x.length ≤ 1048576) : lens (ordAt l c p) ≤ 4194304 := by
  have key : ∀ m : List (List Int), (∀ x ∈ m, x.length ≤ 1048576) → lens m ≤ m.length * 1048576 := by
    intro m
    induction m with
    | nil => intro _; simp [lens]
    | cons x m ih =>
      intro h
      rw [lens_cons, List.length_cons]
      have h1 := h x List.mem_cons_self
      have h2 := ih (fun y hy => h y (List.mem_cons_of_mem _ hy))
      omega
  have h := key (ordAt l c p) (fun x hx => hb x (ordAt_mem hx))
  rw [ordAt_length l c p hc] at h
  omega
theorem impl_gather_ev (l : List (List Int)) (a b : Int) (hb : ∀ x ∈ l, x.length ≤ 1048576) (hw : ∀ x ∈ l, ∀ y ∈ x, -9223372036854775808 ≤ y) : Ev (fun k => impl_GatherPiles.f k l a b) (gatherB l a b) := by
  unfold impl_GatherPiles.f gatherB
  by_cases h : 2 ≤ l.length ∧ l.length ≤ 4 ∧ 0 ≤ a ∧ a < (l.length : Int) ∧ 0 ≤ b ∧ b < (l.length : Int)
  · simp only [if_pos h]
    have hlen := ordAt_lens (l := l) a.toNat b.toNat h.2.1 (by omega) hb
    have hfl : (ordAt l a.toNat b.toNat).flatten.length = lens (ordAt l a.toNat b.toNat) := by simp [lens, List.length_flatten]
    refine Ev.bind (concat_ev (ordAt l a.toNat b.toNat) (by rw [ordAt_length _ _ _ (by omega)]; omega) (by omega)) ?_
    refine Ev.bind (impl_PacketOk_ev _ (by omega) (fun x hx => by
      obtain ⟨y, hy, hxy⟩ := List.mem_flatten.1 hx
      exact hw y (ordAt_mem hy) x hxy)) ?_
    exact Ev.now _
  · simp only [if_neg h]
    exact Ev.now _
theorem spec_gather_ev (l : List (List Int)) (a b : Int) (hb : ∀ x ∈ l, x.length ≤ 1048576) (hl : l.length ≤ 4611686018427387904) : Ev (fun k => spec_GatherPiles.f k l a b) (gatherB l a b) := by
  have hj : ∀ x : Bool, x = true → Ev (fun k => spec_GatherPiles.j0 k l a b x) ([], false) := fun x hx => by
    subst hx
    exact Ev.step (f := fun _ => some ([], false)) (fun k => by rw [spec_GatherPiles.j0, if_pos rfl]) (Ev.now _)
  have w1 : wrap64 ((l.length : Int) - 1) = (l.length : Int) - 1 := w64_id (by omega) (by omega)
  unfold spec_GatherPiles.f gatherB
  simp only [l01In_eq, Option.bind_some, w1]
  by_cases h1 : 2 ≤ (l.length : Int) ∧ (l.length : Int) ≤ 4
  · simp only [decide_eq_true h1, if_true]
    by_cases h2 : 0 ≤ a ∧ a ≤ (l.length : Int) - 1
    · simp only [decide_eq_true h2, if_true]
      by_cases h3 : 0 ≤ b ∧ b ≤ (l.length : Int) - 1
      · rw [if_pos (by omega)]
        simp only [decide_eq_true h3, Bool.not_true]
        obtain ⟨c, rfl⟩ := Int.eq_ofNat_of_zero_le h2.1
        obtain ⟨p, rfl⟩ := Int.eq_ofNat_of_zero_le h3.1
        have E := l14Gather_ev l c p (by omega) (by omega) (by omega) hb
        refine Ev.step (fun k => by rw [spec_GatherPiles.j0, if_neg (by decide)]) ?_
        refine Ev.bind E (Ev.bind (spec_PacketOk_ev _) ?_)
        by_cases hp : packetB (ordAt l c p).flatten = true
        · simp only [hp, if_true, Int.toNat_natCast]
          exact Ev.now _
        · simp only [Int.toNat_natCast, if_neg hp]
          exact Ev.now _
      · rw [if_neg (by omega)]
        exact hj _ (by simp only [decide_eq_false h3, Bool.not_false])
    · rw [if_neg (by omega)]
      simp only [decide_eq_false h2, Bool.false_eq_true, if_false]
      exact hj _ rfl
  · rw [if_neg (by omega)]
    simp only [decide_eq_false h1, Bool.false_eq_true, if_false]
    exact hj _ rfl
end Go.Proofs.Ytbeehklibkeecaa.F
end
section
/- Where a card stands. -/
namespace Go.Proofs.Ytbeehklibkeecaa.F
open Go.RowKit Go.Proofs.YtbeehklibkeecaaW.PrintWords Go.Proofs.YtbeehklibkeecaaW.PrintLast Go.Proofs.YtbeehklibkeecaaW.PrintMore
set_option linter.unusedVariables false
set_option linter.unusedSimpArgs false
def hasCard (q : List Int) (c : Int) : Bool := q.any fun y => cardOf y == c
theorem posOf_at (c : Int) (hc : 0 ≤ c) (rest : List Int) : ∀ (pre : List Int), (pre ++ rest).length ≤ 4611686018427387904 →
    Ev (fun k => spec_PositionOf.l0 k c (pre ++ rest) ((pre ++ rest).length : Int) (pre.length : Int)) (idxFrom (fun x => cardOf x == c) rest (pre.length : Int)) := by
  induction rest with
  | nil =>
    intro pre hb
    refine Ev.step (f := fun _ => some (-1)) (fun k => ?_) (Ev.now _)
    show spec_PositionOf.l0 (k + 1) c _ _ _ = _
    rw [spec_PositionOf.l0, if_neg (mid_nlt _)]
  | cons x rest ih =>
    intro pre hb
    by_cases e : cardOf x = c
    · rw [show idxFrom (fun x => cardOf x == c) (x :: rest) (pre.length : Int) = (pre.length : Int) by simp [idxFrom, e]]
      refine Ev.step (f := fun _ => some (pre.length : Int)) (fun k => ?_) (Ev.now _)
      show spec_PositionOf.l0 (k + 1) c _ _ _ = _
      rw [spec_PositionOf.l0, if_pos (mid_lt _ _ _), if_pos (nn _), if_pos (mid_lt _ _ _), mid_rd, spec_CardOf_eq, Option.bind_some, if_pos e, if_pos hc]
    · have h := ih (pre ++ [x]) (by simpa using hb)
      rw [← mid_cons, ← mid_succ pre x (by simp at hb; omega)] at h
      rw [show idxFrom (fun x => cardOf x == c) (x :: rest) (pre.length : Int) = idxFrom (fun x => cardOf x == c) rest (wrap64 ((pre.length : Int) + 1)) by simp [idxFrom, e]; rw [w64_nat _ (by simp at hb; omega)]; simp]
      refine Ev.step (fun k => ?_) h
      show spec_PositionOf.l0 (k + 1) c _ _ _ = _
      rw [spec_PositionOf.l0, if_pos (mid_lt _ _ _), if_pos (nn _), if_pos (mid_lt _ _ _), mid_rd, spec_CardOf_eq, Option.bind_some, if_neg e]
theorem posOf_ev (q : List Int) (c : Int) (hc : 0 ≤ c) (hb : q.length ≤ 4611686018427387904) : Ev (fun k => spec_PositionOf.f k q c) (idxFrom (fun x => cardOf x == c) q 0) := posOf_at c hc q [] hb
theorem idx_lt (c : Int) (q : List Int) : ∀ i : Int, 0 ≤ i → decide (idxFrom (fun x => cardOf x == c) q i < 0) = !hasCard q c := by
  induction q with
  | nil => intro i hi; simp [idxFrom, hasCard]
  | cons x q ih =>
    intro i hi
    by_cases e : cardOf x = c
    · have h1 : idxFrom (fun x => cardOf x == c) (x :: q) i = i := by simp [idxFrom, e]
      have h2 : hasCard (x :: q) c = true := by simp [hasCard, e]
      rw [h1, h2, decide_eq_false (by omega)]
      rfl
    · have h1 : idxFrom (fun x => cardOf x == c) (x :: q) i = idxFrom (fun x => cardOf x == c) q (i + 1) := by simp [idxFrom, e]
      have h2 : hasCard (x :: q) c = hasCard q c := by simp [hasCard, e]
      rw [h1, h2]
      exact ih (i + 1) (by omega)
theorem impl_pos_eq (q : List Int) (c : Int) (hc : 0 ≤ c) (hq : ∀ x ∈ q, -9223372036854775808 ≤ x) : impl_PositionOf.f q c = some (idxFrom (fun x => cardOf x == c) q 0) := by
  unfold impl_PositionOf.f
  rw [if_neg (by omega)]
  have aux : ∀ (l : List Int) (i : Int), (∀ x ∈ l, -9223372036854775808 ≤ x) → idxFrom (fun x => impl_CardOf.f x == some c) l i = idxFrom (fun x => cardOf x == c) l i := by
    intro l
    induction l with
    | nil => intro i _; rfl
    | cons x xs ih =>
      intro i h
      have hx := impl_CardOf_eq x (h x (by simp))
      have h2 := ih (i + 1) (fun y hy => h y (by simp [hy]))
      simp only [idxFrom, hx, h2]
      rfl
  rw [aux q 0 hq]
end Go.Proofs.Ytbeehklibkeecaa.F
end
section
/- One round of piles: both functions do the same. -/
namespace Go.Proofs.Ytbeehklibkeecaa.F
open Go.RowKit Go.Proofs.YtbeehklibkeecaaW.PrintWords Go.Proofs.YtbeehklibkeecaaW.PrintLast Go.Proofs.YtbeehklibkeecaaW.PrintMore
set_option linter.unusedVariables false
set_option linter.unusedSimpArgs false
theorem dealt_mem (l : List Int) (p : Int) (h : pilesB (l.length : Int) p = true) : ∃ r, dealtR l p r ∧ (∀ y ∈ r, ∀ x ∈ y, x ∈ l) ∧ (r.length : Int) = p := by
  unfold pilesB at h
  simp only [Bool.and_eq_true, decide_eq_true_eq, beq_iff_eq] at h
  obtain ⟨⟨h1, h2, h3, h4⟩, h5⟩ := h
  obtain ⟨q, rfl⟩ := Int.eq_ofNat_of_zero_le (show 0 ≤ p by omega)
  rw [← Int.ofNat_tmod] at h5
  have hq : q = 2 ∨ q = 3 ∨ q = 4 := by omega
  have h6 : l.length % q = 0 := by exact_mod_cast h5
  rcases hq with rfl | rfl | rfl
  · have hn : l.length = 2 ∨ l.length = 4 ∨ l.length = 6 ∨ l.length = 8 ∨ l.length = 10 ∨ l.length = 12 := by omega
    rcases hn with hn | hn | hn | hn | hn | hn
    · obtain ⟨x0, x1, rfl⟩ := len_2 l hn
      exact ⟨_, deal_2_2 x0 x1, by simp, rfl⟩
    · obtain ⟨x0, x1, x2, x3, rfl⟩ := len_4 l hn
      exact ⟨_, deal_4_2 x0 x1 x2 x3, by simp, rfl⟩
    · obtain ⟨x0, x1, x2, x3, x4, x5, rfl⟩ := len_6 l hn
      exact ⟨_, deal_6_2 x0 x1 x2 x3 x4 x5, by simp, rfl⟩
    · obtain ⟨x0, x1, x2, x3, x4, x5, x6, x7, rfl⟩ := len_8 l hn
      exact ⟨_, deal_8_2 x0 x1 x2 x3 x4 x5 x6 x7, by simp, rfl⟩
    · obtain ⟨x0, x1, x2, x3, x4, x5, x6, x7, x8, x9, rfl⟩ := len_10 l hn
      exact ⟨_, deal_10_2 x0 x1 x2 x3 x4 x5 x6 x7 x8 x9, by simp, rfl⟩
    · obtain ⟨x0, x1, x2, x3, x4, x5, x6, x7, x8, x9, x10, x11, rfl⟩ := len_12 l hn
      exact ⟨_, deal_12_2 x0 x1 x2 x3 x4 x5 x6 x7 x8 x9 x10 x11, by simp, rfl⟩
  · have hn : l.length = 3 ∨ l.length = 6 ∨ l.length = 9 ∨ l.length = 12 := by omega
    rcases hn with hn | hn | hn | hn
    · obtain ⟨x0, x1, x2, rfl⟩ := len_3 l hn
      exact ⟨_, deal_3_3 x0 x1 x2, by simp, rfl⟩
    · obtain ⟨x0, x1, x2, x3, x4, x5, rfl⟩ := len_6 l hn
      exact ⟨_, deal_6_3 x0 x1 x2 x3 x4 x5, by simp, rfl⟩
    · obtain ⟨x0, x1, x2, x3, x4, x5, x6, x7, x8, rfl⟩ := len_9 l hn
      exact ⟨_, deal_9_3 x0 x1 x2 x3 x4 x5 x6 x7 x8, by simp, rfl⟩
    · obtain ⟨x0, x1, x2, x3, x4, x5, x6, x7, x8, x9, x10, x11, rfl⟩ := len_12 l hn
      exact ⟨_, deal_12_3 x0 x1 x2 x3 x4 x5 x6 x7 x8 x9 x10 x11, by simp, rfl⟩
  · have hn : l.length = 4 ∨ l.length = 8 ∨ l.length = 12 := by omega
    rcases hn with hn | hn | hn
    · obtain ⟨x0, x1, x2, x3, rfl⟩ := len_4 l hn
      exact ⟨_, deal_4_4 x0 x1 x2 x3, by simp, rfl⟩
    · obtain ⟨x0, x1, x2, x3, x4, x5, x6, x7, rfl⟩ := len_8 l hn
      exact ⟨_, deal_8_4 x0 x1 x2 x3 x4 x5 x6 x7, by simp, rfl⟩
    · obtain ⟨x0, x1, x2, x3, x4, x5, x6, x7, x8, x9, x10, x11, rfl⟩ := len_12 l hn
      exact ⟨_, deal_12_4 x0 x1 x2 x3 x4 x5 x6 x7 x8 x9 x10 x11, by simp, rfl⟩
theorem piles_ex (l : List Int) (a : Int) (hb : l.length ≤ 1048576) (hw : ∀ x ∈ l, -9223372036854775808 ≤ x) : ∃ r : List (List Int), Ev (fun k => spec_PilesOf.f k l a) r ∧ Ev (fun k => impl_PilesOf.f k l a) r ∧ r.length ≤ 12 ∧ (∀ y ∈ r, y.length ≤ 12) ∧ (∀ y ∈ r, ∀ x ∈ y, x ∈ l) ∧ (r = [] ∨ (r.length : Int) = a) := by
  have E2 := spec_PacketOk_ev l
  have E3 := impl_PacketOk_ev l (by omega) hw
  by_cases h : packetB l = true ∧ pilesB (l.length : Int) a = true
  · obtain ⟨r, hd, hmem, hlen⟩ := dealt_mem l a h.2
    obtain ⟨d1, d2, d3, d4, d5⟩ := hd
    have D1 : Ev (fun k => spec_l14Piles.f k l a) r := Ev.at_ 60 (fun k hk => by obtain ⟨m, rfl⟩ := Nat.exists_eq_add_of_le' hk; exact d1 m)
    have D2 : Ev (fun k => impl_PilesOf.j0 k l a false) r := Ev.at_ 60 (fun k hk => by obtain ⟨m, rfl⟩ := Nat.exists_eq_add_of_le' hk; exact d2 m)
    refine ⟨r, ?_, ?_, d3, d4, hmem, .inr hlen⟩
    · unfold spec_PilesOf.f
      refine Ev.bind E2 ?_
      simp only [h.1, if_true, spec_PilesOk_eq, h.2, Option.bind_some]
      exact Ev.bind D1 (Ev.now _)
    · unfold impl_PilesOf.f
      refine Ev.bind E3 ?_
      simp only [h.1, if_true, impl_PilesOk_eq, h.2, Option.bind_some, Bool.not_true]
      exact D2
  · refine ⟨[], ?_, ?_, by decide, by simp, by simp, .inl rfl⟩
    · unfold spec_PilesOf.f
      refine Ev.bind E2 ?_
      simp only [spec_PilesOk_eq, Option.bind_some]
      by_cases h1 : packetB l = true
      · have h2 : pilesB (l.length : Int) a = false := by simpa [h1] using h
        simp only [h1, h2, if_true, Bool.false_eq_true, if_false]
        exact Ev.now _
      · simp only [h1, if_false]
        exact Ev.now _
    · have hj : Ev (fun k => impl_PilesOf.j0 k l a true) [] := Ev.at_ 1 (fun k hk => by obtain ⟨m, rfl⟩ := Nat.exists_eq_add_of_le' hk; rfl)
      unfold impl_PilesOf.f
      refine Ev.bind E3 ?_
      simp only [impl_PilesOk_eq, Option.bind_some]
      by_cases h1 : packetB l = true
      · have h2 : pilesB (l.length : Int) a = false := by simpa [h1] using h
        simp only [h1, h2, if_true, Bool.not_false]
        exact hj
      · simp only [h1, if_false]
        exact hj
/-- Where card c stands in q; -1: nowhere. -/
def posB (q : List Int) (c : Int) : Int := if c < 0 then -1 else idxFrom (fun x => cardOf x == c) q 0
theorem posNeg_at (c : Int) (hc : c < 0) (rest : List Int) : ∀ (pre : List Int), (pre ++ rest).length ≤ 4611686018427387904 →
    Ev (fun k => spec_PositionOf.l0 k c (pre ++ rest) ((pre ++ rest).length : Int) (pre.length : Int)) (-1) := by
  induction rest with
  | nil =>
    intro pre hb
    refine Ev.step (f := fun _ => some (-1)) (fun k => ?_) (Ev.now _)
    show spec_PositionOf.l0 (k + 1) c _ _ _ = _
    rw [spec_PositionOf.l0, if_neg (mid_nlt _)]
  | cons x rest ih =>
    intro pre hb
    have h := ih (pre ++ [x]) (by simpa using hb)
    rw [← mid_cons, ← mid_succ pre x (by simp at hb; omega)] at h
    refine Ev.step (fun k => ?_) h
    show spec_PositionOf.l0 (k + 1) c _ _ _ = _
    rw [spec_PositionOf.l0, if_pos (mid_lt _ _ _), if_pos (nn _), if_pos (mid_lt _ _ _), mid_rd, spec_CardOf_eq, Option.bind_some]
    by_cases e : cardOf x = c
    · rw [if_pos e, if_neg (by omega)]
    · rw [if_neg e]
theorem spec_posB (q : List Int) (c : Int) (hb : q.length ≤ 4611686018427387904) : Ev (fun k => spec_PositionOf.f k q c) (posB q c) := by
  unfold posB
  by_cases h : c < 0
  · rw [if_pos h]; exact posNeg_at c h q [] hb
  · rw [if_neg h]; exact posOf_ev q c (by omega) hb
theorem impl_posB (q : List Int) (c : Int) (hq : ∀ x ∈ q, -9223372036854775808 ≤ x) : impl_PositionOf.f q c = some (posB q c) := by
  unfold posB
  by_cases h : c < 0
  · rw [if_pos h]; unfold impl_PositionOf.f; rw [if_pos h]
  · rw [if_neg h]; exact impl_pos_eq q c (by omega) hq
theorem pileHas_eq (q : List Int) (c : Int) (hq : ∀ x ∈ q, -9223372036854775808 ≤ x) : pileHas c q = decide (0 ≤ posB q c) := by
  unfold pileHas
  rw [impl_posB q c hq]
def roundB (list : List (List Int)) (c p : Int) (rest : List (List Int)) (i : Int) : List Int × Bool := if idxFromL (pileHas c) rest i < 0 then ([], false) else gatherB list (idxFromL (pileHas c) rest i) p
theorem spec_round_at (list : List (List Int)) (c p : Int) (hb : ∀ x ∈ list, x.length ≤ 1048576) (hw : ∀ x ∈ list, ∀ y ∈ x, -9223372036854775808 ≤ y) (rest : List (List Int)) : ∀ pre, list = pre ++ rest → list.length ≤ 4611686018427387904 →
    Ev (fun k => spec_PileRound.l0 k c p list list (list.length : Int) (pre.length : Int)) (roundB list c p rest (pre.length : Int)) := by
  induction rest with
  | nil =>
    intro pre he hl
    refine Ev.step (f := fun _ => some ([], false)) (fun k => ?_) (Ev.now _)
    show spec_PileRound.l0 (k + 1) _ _ _ _ _ _ = _
    rw [spec_PileRound.l0, if_neg (by rw [he]; exact mid_nlt _)]
  | cons x rest ih =>
    intro pre he hl
    have hx : x ∈ list := by rw [he]; simp
    have hrd : rd_L1 list (pre.length : Int) = x := by rw [he]; exact mid_rdLL pre x rest
    have E := spec_posB x c (by have := hb x hx; omega)
    have hlt : (pre.length : Int) < (list.length : Int) := by rw [he]; simp; omega
    have hph := pileHas_eq x c (hw x hx)
    by_cases h : posB x c ≥ 0
    · have hp : pileHas c x = true := by rw [hph]; exact decide_eq_true h
      have hi : idxFromL (pileHas c) (x :: rest) (pre.length : Int) = (pre.length : Int) := by unfold idxFromL; rw [if_pos hp]
      unfold roundB
      rw [hi, if_neg (by omega)]
      refine Ev.stepb E (fun k => by
        show spec_PileRound.l0 (k + 1) _ _ _ _ _ _ = _
        rw [spec_PileRound.l0, if_pos hlt, if_pos (nn _), if_pos hlt, hrd]) ?_
      simp only [if_pos h]
      exact Ev.bind (spec_gather_ev list _ p hb hl) (Ev.now _)
    · have hp : ¬ pileHas c x = true := by rw [hph, decide_eq_false (by omega)]; decide
      have hi : idxFromL (pileHas c) (x :: rest) (pre.length : Int) = idxFromL (pileHas c) rest ((pre.length : Int) + 1) := by conv => lhs; unfold idxFromL
                                                                                                                               rw [if_neg hp]
      have hih := ih (pre ++ [x]) (by rw [he]; simp) hl
      have e1 : wrap64 ((pre.length : Int) + 1) = ((pre ++ [x]).length : Int) := by rw [w64_id (by omega) (by omega)]; simp
      have e2 : ((pre ++ [x]).length : Int) = (pre.length : Int) + 1 := by simp
      unfold roundB
      rw [hi, ← e2]
      refine Ev.stepb E (fun k => by
        show spec_PileRound.l0 (k + 1) _ _ _ _ _ _ = _
        rw [spec_PileRound.l0, if_pos hlt, if_pos (nn _), if_pos hlt, hrd]) ?_
      simp only [if_neg h, e1]
      exact hih
/-- Both functions make the same round. -/
theorem round_ex (l : List Int) (a c p : Int) (hb : l.length ≤ 1048576) (hw : ∀ x ∈ l, -9223372036854775808 ≤ x) :
    ∃ r : List (List Int), Ev (fun k => spec_PileRound.f k l a c p) (roundB r c p r 0) ∧ Ev (fun k => impl_PileRound.f k l a c p) (roundB r c p r 0) ∧ (r = [] ∨ (r.length : Int) = a) ∧ (∀ y ∈ r, ∀ x ∈ y, x ∈ l) := by
  obtain ⟨r, h1, h2, h3, h4, h5, h6⟩ := piles_ex l a hb hw
  have b1 : ∀ x ∈ r, x.length ≤ 1048576 := fun x hx => by have := h4 x hx; omega
  have b2 : ∀ x ∈ r, ∀ y ∈ x, -9223372036854775808 ≤ y := fun x hx y hy => hw y (h5 x hx y hy)
  refine ⟨r, ?_, ?_, h6, h5⟩
  · unfold spec_PileRound.f
    exact Ev.bind h1 (spec_round_at r c p b1 b2 r [] rfl (by omega))
  · unfold impl_PileRound.f
    refine Ev.bind h2 ?_
    unfold roundB
    by_cases h : idxFromL (pileHas c) r 0 < 0
    · simp only [if_pos h]; exact Ev.now _
    · simp only [if_neg h]; exact impl_gather_ev r _ p b1 b2
theorem gatherB_len (l : List (List Int)) (a b : Int) : (gatherB l a b).1.length ≤ 12 := by
  unfold gatherB
  split
  · split
    · exact packetB_len (by assumption)
    · simp
  · simp
theorem roundB_len (list : List (List Int)) (c p : Int) (rest : List (List Int)) (i : Int) : (roundB list c p rest i).1.length ≤ 12 := by
  unfold roundB
  split
  · simp
  · exact gatherB_len _ _ _
end Go.Proofs.Ytbeehklibkeecaa.F
end
section
/- Where a card lies behind one round: both functions tell the same. -/
namespace Go.Proofs.Ytbeehklibkeecaa.F
open Go.RowKit Go.Proofs.YtbeehklibkeecaaW.PrintWords Go.Proofs.YtbeehklibkeecaaW.PrintLast Go.Proofs.YtbeehklibkeecaaW.PrintMore
set_option linter.unusedVariables false
set_option linter.unusedSimpArgs false
theorem upTo_ev (n : Int) (h0 : 0 ≤ n) (h1 : n ≤ 12) : Ev (fun k => impl_upTo.f k n) (seqFrom 0 n.toNat) ∧ Ev (fun k => spec_NewPacket.f k n) (seqFrom 0 n.toNat) := by
  have h : n = 0 ∨ n = 1 ∨ n = 2 ∨ n = 3 ∨ n = 4 ∨ n = 5 ∨ n = 6 ∨ n = 7 ∨ n = 8 ∨ n = 9 ∨ n = 10 ∨ n = 11 ∨ n = 12 := by omega
  rcases h with rfl | rfl | rfl | rfl | rfl | rfl | rfl | rfl | rfl | rfl | rfl | rfl | rfl
  all_goals exact ⟨Ev.at_ 20 (fun k hk => by obtain ⟨m, rfl⟩ := Nat.exists_eq_add_of_le' hk; kernel_rfl), Ev.at_ 20 (fun k hk => by obtain ⟨m, rfl⟩ := Nat.exists_eq_add_of_le' hk; kernel_rfl)⟩
theorem seqFrom_mem (n : Nat) : ∀ a x : Int, x ∈ seqFrom a n → a ≤ x ∧ x < a + n := by
  induction n with
  | zero => intro a x h; simp [seqFrom] at h
  | succ n ih =>
    intro a x h
    simp only [seqFrom, List.mem_cons] at h
    rcases h with rfl | h
    · omega
    · have := ih (a + 1) x h; omega
theorem index_idx (x : Int) (rest : List Int) : ∀ (pre : List Int), (pre ++ rest).length ≤ 4611686018427387904 →
    Ev (fun k => slices_Index_Lint_int.l0 k (pre ++ rest) x ((pre ++ rest).length : Int) (pre.length : Int)) (idxFrom (fun y => y == x) rest (pre.length : Int)) := by
  induction rest with
  | nil =>
    intro pre hb
    refine Ev.step (f := fun _ => some (-1)) (fun k => ?_) (Ev.now _)
    show slices_Index_Lint_int.l0 (k + 1) _ _ _ _ = _
    rw [slices_Index_Lint_int.l0, if_neg (mid_nlt _)]
  | cons y rest ih =>
    intro pre hb
    by_cases e : x = y
    · rw [show idxFrom (fun y => y == x) (y :: rest) (pre.length : Int) = (pre.length : Int) by simp [idxFrom, e]]
      refine Ev.step (f := fun _ => some (pre.length : Int)) (fun k => ?_) (Ev.now _)
      show slices_Index_Lint_int.l0 (k + 1) _ _ _ _ = _
      rw [slices_Index_Lint_int.l0, if_pos (mid_lt _ _ _), if_pos (nn _), if_pos (mid_lt _ _ _), mid_rd, if_pos e]
    · have h := ih (pre ++ [y]) (by simpa using hb)
      rw [← mid_cons, ← mid_succ pre y (by simp at hb; omega)] at h
      rw [show idxFrom (fun y => y == x) (y :: rest) (pre.length : Int) = idxFrom (fun y => y == x) rest (wrap64 ((pre.length : Int) + 1)) by simp [idxFrom, Ne.symm e]; rw [w64_nat _ (by simp at hb; omega)]; simp]
      refine Ev.step (fun k => ?_) h
      show slices_Index_Lint_int.l0 (k + 1) _ _ _ _ = _
      rw [slices_Index_Lint_int.l0, if_pos (mid_lt _ _ _), if_pos (nn _), if_pos (mid_lt _ _ _), mid_rd, if_neg e]
theorem idxFrom_congr (p q : Int → Bool) (l : List Int) : ∀ i, (∀ x ∈ l, p x = q x) → idxFrom p l i = idxFrom q l i := by
  induction l with
  | nil => intro i _; rfl
  | cons x l ih =>
    intro i h
    unfold idxFrom
    rw [h x List.mem_cons_self, ih (i + 1) (fun y hy => h y (List.mem_cons_of_mem _ hy))]
theorem cardOf_self (x : Int) (h0 : 0 ≤ x) (h1 : x < 12) : cardOf x = x := by
  have h : x = 0 ∨ x = 1 ∨ x = 2 ∨ x = 3 ∨ x = 4 ∨ x = 5 ∨ x = 6 ∨ x = 7 ∨ x = 8 ∨ x = 9 ∨ x = 10 ∨ x = 11 := by omega
  rcases h with rfl | rfl | rfl | rfl | rfl | rfl | rfl | rfl | rfl | rfl | rfl | rfl <;> decide +kernel
theorem gatherB_mem {l : List (List Int)} {a b : Int} {x : Int} (h : x ∈ (gatherB l a b).1) : ∃ y ∈ l, x ∈ y := by
  unfold gatherB at h
  split at h
  · split at h
    · obtain ⟨y, hy, hxy⟩ := List.mem_flatten.1 h
      exact ⟨y, ordAt_mem hy, hxy⟩
    · simp at h
  · simp at h
theorem gatherB_fst (l : List (List Int)) (a b : Int) (h : (gatherB l a b).2 = false) : (gatherB l a b).1 = [] := by
  unfold gatherB at h ⊢
  split at h
  · split at h
    · cases h
    · rename_i h1 h2; rw [if_pos h1, if_neg h2]
  · rename_i h1; rw [if_neg h1]
theorem pilesB_iff (n p : Int) : pilesB n p = true ↔ (2 ≤ p ∧ p ≤ 4 ∧ p ≤ n ∧ n ≤ 12) ∧ Int.tmod n p = 0 := by
  unfold pilesB
  simp only [Bool.and_eq_true, decide_eq_true_eq, beq_iff_eq]
theorem roundB_mem {l : List (List Int)} {c p : Int} {x : Int} (h : x ∈ (roundB l c p l 0).1) : ∃ y ∈ l, x ∈ y := by
  unfold roundB at h
  split at h
  · simp at h
  · exact gatherB_mem h
theorem roundB_fst (l : List (List Int)) (c p : Int) (h : (roundB l c p l 0).2 = false) : (roundB l c p l 0).1 = [] := by
  unfold roundB at h ⊢
  split at h
  · rename_i h1; rw [if_pos h1]
  · rename_i h1; rw [if_neg h1]; exact gatherB_fst _ _ _ h
theorem roundB_out (l : List (List Int)) (c p : Int) (h : ¬ (0 ≤ p ∧ p < (l.length : Int))) : (roundB l c p l 0).1 = [] := by
  unfold roundB
  split
  · rfl
  · unfold gatherB
    rw [if_neg (by omega)]
/-- What both functions tell. -/
theorem indexAfter_ex (n p i q : Int) (hn : -9223372036854775808 ≤ n ∧ n ≤ 9223372036854775807) (hp : -9223372036854775808 ≤ p ∧ p ≤ 9223372036854775807) : ∃ r : Int, Ev (fun k => spec_IndexAfter.f k n p i q) r ∧ Ev (fun k => impl_IndexAfter.f k n p i q) r := by
  have sj : ∀ x, x = true → Ev (fun k => spec_IndexAfter.j0 k n p i q x) (-1) := fun x hx => by
    subst hx
    exact Ev.step (f := fun _ => some (-1)) (fun k => by rw [spec_IndexAfter.j0, if_pos rfl]) (Ev.now _)
  have ij : ∀ x, x = true → Ev (fun k => impl_IndexAfter.j0 k n p i q x) (-1) := fun x hx => by
    subst hx
    exact Ev.step (f := fun _ => some (-1)) (fun k => by rw [impl_IndexAfter.j0, if_pos rfl]) (Ev.now _)
  by_cases c1 : pilesB n p = true
  · have hc1 := (pilesB_iff n p).1 c1
    obtain ⟨⟨h1, h2, h3, h4⟩, h5⟩ := hc1
    have w1 : wrap64 (n - 1) = n - 1 := w64_id (by omega) (by omega)
    have w2 : wrap64 (p - 1) = p - 1 := w64_id (by omega) (by omega)
    by_cases c2 : 0 ≤ i ∧ i ≤ n - 1
    · obtain ⟨u1, u2⟩ := upTo_ev n (by omega) (by omega)
      have hmem := seqFrom_mem n.toNat 0
      have hsl := seqFrom_length n.toNat 0
      generalize seqFrom 0 n.toNat = l at u1 u2 hmem hsl
      obtain ⟨r, e1, e2, e3, e4⟩ := round_ex l p i q (by omega) (fun x hx => by have := hmem x hx; omega)
      have hlen := roundB_len r i q r 0
      have hx : ∀ x ∈ (roundB r i q r 0).1, 0 ≤ x ∧ x < 12 := fun x hx => by
        obtain ⟨y, hy, hxy⟩ := roundB_mem hx
        have := hmem x (e4 y hy x hxy)
        omega
      have hcg : posB (roundB r i q r 0).1 i = idxFrom (fun y => y == i) (roundB r i q r 0).1 0 := by
        unfold posB
        rw [if_neg (by omega)]
        exact idxFrom_congr _ _ _ _ (fun x hx' => by rw [cardOf_self x (hx x hx').1 (hx x hx').2])
      have hout : ¬ (0 ≤ q ∧ q ≤ p - 1) → (roundB r i q r 0).1 = [] := fun hq => by
        rcases e3 with rfl | e3
        · exact roundB_out _ _ _ (by simp)
        · exact roundB_out _ _ _ (by omega)
      have hf := roundB_fst r i q
      generalize roundB r i q r 0 = R at e1 e2 hlen hx hcg hout hf
      refine ⟨idxFrom (fun y => y == i) R.1 0, ?_, ?_⟩
      · unfold spec_IndexAfter.f
        simp only [spec_PilesOk_eq, c1, Option.bind_some, if_true, l01In_eq, w1, w2, decide_eq_true c2]
        by_cases c3 : 0 ≤ q ∧ q ≤ p - 1
        · simp only [decide_eq_true c3, Bool.not_true]
          refine Ev.step (fun k => by rw [spec_IndexAfter.j0, if_neg (by decide)]) ?_
          refine Ev.bind u2 (Ev.bind e1 ?_)
          rw [← hcg]
          exact Ev.bind (spec_posB R.1 i (by omega)) (Ev.now _)
        · rw [hout c3]
          exact sj _ (by simp only [decide_eq_false c3, Bool.not_false])
      · unfold impl_IndexAfter.f
        simp only [impl_PilesOk_eq, c1, Option.bind_some, if_true]
        simp only [if_neg (show ¬ i < 0 by omega), decide_eq_false (show ¬ i ≥ n by omega)]
        refine Ev.step (fun k => by rw [impl_IndexAfter.j0, if_neg (by decide)]) ?_
        refine Ev.bind u1 (Ev.bind e2 ?_)
        cases hb : R.2 with
        | true =>
          simp only [if_true]
          exact Ev.bind (index_idx i R.1 [] (by simp; omega)) (Ev.now _)
        | false =>
          rw [hf hb]
          simp only [Bool.false_eq_true, if_false]
          exact Ev.now _
    · refine ⟨-1, ?_, ?_⟩
      · unfold spec_IndexAfter.f
        simp only [spec_PilesOk_eq, c1, Option.bind_some, if_true, l01In_eq, w1, decide_eq_false c2, Bool.false_eq_true, if_false]
        exact sj _ rfl
      · unfold impl_IndexAfter.f
        simp only [impl_PilesOk_eq, c1, Option.bind_some, if_true]
        by_cases c3 : i < 0
        · simp only [if_pos c3]; exact ij _ rfl
        · simp only [if_neg c3]; exact ij _ (decide_eq_true (by omega))
  · refine ⟨-1, ?_, ?_⟩
    · unfold spec_IndexAfter.f
      simp only [spec_PilesOk_eq, Bool.eq_false_iff.mpr c1, Option.bind_some, Bool.false_eq_true, if_false]
      exact sj _ rfl
    · unfold impl_IndexAfter.f
      simp only [impl_PilesOk_eq, Bool.eq_false_iff.mpr c1, Option.bind_some, Bool.false_eq_true, if_false]
      exact ij _ rfl
end Go.Proofs.Ytbeehklibkeecaa.F
end
section
/- When a list is a packet, by its cards. -/
namespace Go.Proofs.Ytbeehklibkeecaa.F
open Go.RowKit Go.Proofs.YtbeehklibkeecaaW.PrintWords Go.Proofs.YtbeehklibkeecaaW.PrintLast Go.Proofs.YtbeehklibkeecaaW.PrintMore
set_option linter.unusedVariables false
set_option linter.unusedSimpArgs false
theorem packetM_back (xs : List Int) : ∀ met : List Bool, met.length = 12 → (∀ x ∈ xs, 0 ≤ cardOf x ∧ met.getD (cardOf x).toNat false = false) → (xs.map cardOf).Nodup → packetM met xs = true := by
  induction xs with
  | nil => intro met hm h hn; rfl
  | cons x xs ih =>
    intro met hm h hn
    have hx := h x (by simp)
    rw [List.map_cons, List.nodup_cons] at hn
    have hlt := cardOf_lt x
    unfold packetM
    rw [if_neg (by omega), hx.2, if_neg (by simp)]
    refine ih _ (by rw [List.length_set]; exact hm) (fun y hy => ?_) hn.2
    have hyy := h y (by simp [hy])
    refine ⟨hyy.1, ?_⟩
    rw [set_getD met _ _ (by omega), hyy.2, Bool.or_false]
    refine decide_eq_false (fun e => hn.1 ?_)
    have : cardOf y = cardOf x := by omega
    rw [← this]
    exact List.mem_map.mpr ⟨y, hy, rfl⟩
theorem packetM_nd (xs : List Int) : ∀ met : List Bool, met.length = 12 → packetM met xs = true → (∀ x ∈ xs, 0 ≤ cardOf x ∧ met.getD (cardOf x).toNat false = false) ∧ (xs.map cardOf).Nodup := by
  induction xs with
  | nil => intro met hm h; exact ⟨by simp, by simp⟩
  | cons x xs ih =>
    intro met hm h
    have hlt := cardOf_lt x
    unfold packetM at h
    by_cases c : cardOf x < 0
    · rw [if_pos c] at h; exact absurd h (by simp)
    · rw [if_neg c] at h
      by_cases d : met.getD (cardOf x).toNat false = true
      · rw [if_pos d] at h; exact absurd h (by simp)
      · rw [if_neg d] at h
        obtain ⟨h1, h2⟩ := ih _ (by rw [List.length_set]; exact hm) h
        have d' : met.getD (cardOf x).toNat false = false := by simpa using d
        refine ⟨fun y hy => ?_, ?_⟩
        · rcases List.mem_cons.mp hy with rfl | hy
          · exact ⟨by omega, d'⟩
          · have := h1 y hy
            rw [set_getD met _ _ (by omega), Bool.or_eq_false_iff] at this
            exact ⟨this.1, this.2.2⟩
        · rw [List.map_cons, List.nodup_cons]
          refine ⟨fun hm2 => ?_, h2⟩
          obtain ⟨y, hy, e⟩ := List.mem_map.mp hm2
          have := h1 y hy
          rw [set_getD met _ _ (by omega), Bool.or_eq_false_iff] at this
          have h3 := of_decide_eq_false this.2.1
          exact h3 (by rw [e])
theorem packetB_iff (l : List Int) : packetB l = true ↔ (∀ x ∈ l, 0 ≤ cardOf x) ∧ (l.map cardOf).Nodup := by
  constructor
  · intro h
    obtain ⟨h1, h2⟩ := packetM_nd l _ (by simp) h
    exact ⟨fun x hx => (h1 x hx).1, h2⟩
  · rintro ⟨h1, h2⟩
    refine packetM_back l _ (by simp) (fun x hx => ⟨h1 x hx, ?_⟩) h2
    generalize (cardOf x).toNat = i
    rw [List.getD_eq_getElem?_getD, List.getElem?_replicate]
    split <;> rfl
theorem packetB_perm {p q : List Int} (h : (q.map cardOf).Perm (p.map cardOf)) (hp : packetB p = true) : packetB q = true := by
  obtain ⟨h1, h2⟩ := (packetB_iff p).mp hp
  refine (packetB_iff q).mpr ⟨fun x hx => ?_, h.nodup_iff.mpr h2⟩
  have : cardOf x ∈ p.map cardOf := h.mem_iff.mp (List.mem_map.mpr ⟨x, hx, rfl⟩)
  obtain ⟨y, hy, e⟩ := List.mem_map.mp this
  rw [← e]
  exact h1 y hy
end Go.Proofs.Ytbeehklibkeecaa.F
end
section
/- Piles by their indices: what a round does is natural in the packet. -/
namespace Go.Proofs.Ytbeehklibkeecaa.F
open Go.RowKit Go.Proofs.YtbeehklibkeecaaW.PrintWords Go.Proofs.YtbeehklibkeecaaW.PrintLast Go.Proofs.YtbeehklibkeecaaW.PrintMore
set_option linter.unusedVariables false
set_option linter.unusedSimpArgs false
def pilesN (n q : Nat) : List (List Nat) := (List.range q).map fun j => ((List.range n).filter fun i => i % q == j).reverse
def idxN (a : Nat) : List (List Nat) → Int → Int
  | [], _ => -1
  | x :: xs, i => if x.contains a then i else idxN a xs (i + 1)
def outN (q s a pl : Nat) : List Nat := (ordAt (pilesN (q * s) q) (a % q) pl).flatten
def chkN (q s a pl : Nat) : Bool := (idxN a (pilesN (q * s) q) 0 == ((a % q : Nat) : Int)) && ((outN q s a pl).isPerm (List.range (q * s)) && (decide (pl * s + s - 1 - a / q < q * s) && (((outN q s a pl).getD (pl * s + s - 1 - a / q) 0 == a) && (idxFrom (fun y => y == (a : Int)) ((outN q s a pl).map fun i : Nat => (i : Int)) 0 == ((pl * s + s - 1 - a / q : Nat) : Int)))))
def chkAll : Bool := (List.range 5).all fun q => (List.range 7).all fun s => (!(decide (2 ≤ q) && (decide (1 ≤ s) && decide (q * s ≤ 12)))) || (List.range (q * s)).all fun a => (List.range q).all fun pl => chkN q s a pl
theorem chkAll_true : chkAll = true := by decide +kernel
theorem chkN_true (q s a pl : Nat) (h1 : 2 ≤ q) (h2 : q ≤ 4) (h3 : 1 ≤ s) (h4 : q * s ≤ 12) (h5 : a < q * s) (h6 : pl < q) : chkN q s a pl = true := by
  have h := chkAll_true
  unfold chkAll at h
  rw [List.all_eq_true] at h
  have hs : s ≤ 6 := by
    rcases (show q = 2 ∨ q = 3 ∨ q = 4 by omega) with rfl | rfl | rfl <;> omega
  have h7 := h q (List.mem_range.2 (by omega))
  rw [List.all_eq_true] at h7
  have h8 := h7 s (List.mem_range.2 (by omega))
  rw [decide_eq_true h1, decide_eq_true h3, decide_eq_true h4] at h8
  simp only [Bool.and_self, Bool.not_true, Bool.false_or] at h8
  rw [List.all_eq_true] at h8
  have h9 := h8 a (List.mem_range.2 h5)
  rw [List.all_eq_true] at h9
  exact h9 pl (List.mem_range.2 h6)
theorem dealtN (q s : Nat) (p : List Int) (h1 : 2 ≤ q) (h2 : q ≤ 4) (h3 : 1 ≤ s) (h4 : q * s ≤ 12) (hl : p.length = q * s) : dealtR p (q : Int) ((pilesN (q * s) q).map fun I => I.map fun i => p.getD i 0) := by
  rcases (show q = 2 ∨ q = 3 ∨ q = 4 by omega) with rfl | rfl | rfl
  · rcases (show s = 1 ∨ s = 2 ∨ s = 3 ∨ s = 4 ∨ s = 5 ∨ s = 6 by omega) with rfl | rfl | rfl | rfl | rfl | rfl
    · obtain ⟨x0, x1, rfl⟩ := len_2 p hl
      exact deal_2_2 x0 x1
    · obtain ⟨x0, x1, x2, x3, rfl⟩ := len_4 p hl
      exact deal_4_2 x0 x1 x2 x3
    · obtain ⟨x0, x1, x2, x3, x4, x5, rfl⟩ := len_6 p hl
      exact deal_6_2 x0 x1 x2 x3 x4 x5
    · obtain ⟨x0, x1, x2, x3, x4, x5, x6, x7, rfl⟩ := len_8 p hl
      exact deal_8_2 x0 x1 x2 x3 x4 x5 x6 x7
    · obtain ⟨x0, x1, x2, x3, x4, x5, x6, x7, x8, x9, rfl⟩ := len_10 p hl
      exact deal_10_2 x0 x1 x2 x3 x4 x5 x6 x7 x8 x9
    · obtain ⟨x0, x1, x2, x3, x4, x5, x6, x7, x8, x9, x10, x11, rfl⟩ := len_12 p hl
      exact deal_12_2 x0 x1 x2 x3 x4 x5 x6 x7 x8 x9 x10 x11
  · rcases (show s = 1 ∨ s = 2 ∨ s = 3 ∨ s = 4 by omega) with rfl | rfl | rfl | rfl
    · obtain ⟨x0, x1, x2, rfl⟩ := len_3 p hl
      exact deal_3_3 x0 x1 x2
    · obtain ⟨x0, x1, x2, x3, x4, x5, rfl⟩ := len_6 p hl
      exact deal_6_3 x0 x1 x2 x3 x4 x5
    · obtain ⟨x0, x1, x2, x3, x4, x5, x6, x7, x8, rfl⟩ := len_9 p hl
      exact deal_9_3 x0 x1 x2 x3 x4 x5 x6 x7 x8
    · obtain ⟨x0, x1, x2, x3, x4, x5, x6, x7, x8, x9, x10, x11, rfl⟩ := len_12 p hl
      exact deal_12_3 x0 x1 x2 x3 x4 x5 x6 x7 x8 x9 x10 x11
  · rcases (show s = 1 ∨ s = 2 ∨ s = 3 by omega) with rfl | rfl | rfl
    · obtain ⟨x0, x1, x2, x3, rfl⟩ := len_4 p hl
      exact deal_4_4 x0 x1 x2 x3
    · obtain ⟨x0, x1, x2, x3, x4, x5, x6, x7, rfl⟩ := len_8 p hl
      exact deal_8_4 x0 x1 x2 x3 x4 x5 x6 x7
    · obtain ⟨x0, x1, x2, x3, x4, x5, x6, x7, x8, x9, x10, x11, rfl⟩ := len_12 p hl
      exact deal_12_4 x0 x1 x2 x3 x4 x5 x6 x7 x8 x9 x10 x11
/-- A packet of the cards 0 to n - 1, and its places. -/
structure PlainP (p : List Int) (n : Nat) : Prop where
  len : p.length = n
  rng : ∀ i, i < n → 0 ≤ p.getD i 0 ∧ p.getD i 0 < 12
  inj : ∀ i j, i < n → j < n → p.getD i 0 = p.getD j 0 → i = j
theorem plain_list {p : List Int} {n : Nat} (h : PlainP p n) : p = (List.range n).map fun i => p.getD i 0 := by
  apply List.ext_getElem
  · simp [h.len]
  · intro i h1 h2
    simp [h1]
theorem has_iff {p : List Int} {n : Nat} (h : PlainP p n) (I : List Nat) (hI : ∀ i ∈ I, i < n) (a : Nat) (ha : a < n) : pileHas (p.getD a 0) (I.map fun i => p.getD i 0) = I.contains a := by
  have hq : ∀ x ∈ I.map (fun i => p.getD i 0), -9223372036854775808 ≤ x := fun x hx => by
    obtain ⟨i, hi, rfl⟩ := List.mem_map.1 hx
    have := h.rng i (hI i hi); omega
  rw [pileHas_eq _ _ hq]
  unfold posB
  rw [if_neg (by have := h.rng a ha; omega)]
  have h2 := idx_lt (p.getD a 0) (I.map fun i => p.getD i 0) 0 (by omega)
  have h3 : hasCard (I.map fun i => p.getD i 0) (p.getD a 0) = I.contains a := by
    unfold hasCard
    rw [List.any_map, Bool.eq_iff_iff, List.any_eq_true, List.contains_iff_mem]
    constructor
    · rintro ⟨i, hi, e⟩
      have e2 : cardOf (p.getD i 0) = p.getD a 0 := by simpa using e
      rw [cardOf_self _ (h.rng i (hI i hi)).1 (h.rng i (hI i hi)).2] at e2
      rw [← h.inj i a (hI i hi) ha e2]; exact hi
    · intro ha2
      exact ⟨a, ha2, beq_iff_eq.2 (cardOf_self _ (h.rng a ha).1 (h.rng a ha).2)⟩
  rw [← h3]
  by_cases c : idxFrom (fun x => cardOf x == p.getD a 0) (I.map fun i => p.getD i 0) 0 < 0
  · rw [decide_eq_true c] at h2
    rw [decide_eq_false (by omega)]
    cases hh : hasCard (I.map fun i => p.getD i 0) (p.getD a 0) <;> simp_all
  · rw [decide_eq_false c] at h2
    rw [decide_eq_true (by omega)]
    cases hh : hasCard (I.map fun i => p.getD i 0) (p.getD a 0) <;> simp_all
theorem idx_nat {p : List Int} {n : Nat} (h : PlainP p n) (a : Nat) (ha : a < n) (L : List (List Nat)) : ∀ i : Int, (∀ I ∈ L, ∀ j ∈ I, j < n) → idxFromL (pileHas (p.getD a 0)) (L.map fun I => I.map fun i => p.getD i 0) i = idxN a L i := by
  induction L with
  | nil => intro i _; rfl
  | cons I L ih =>
    intro i hL
    rw [List.map_cons]
    unfold idxFromL idxN
    rw [has_iff h I (hL I List.mem_cons_self) a ha, ih (i + 1) (fun J hJ => hL J (List.mem_cons_of_mem _ hJ))]
theorem pilesN_lt (n q : Nat) : ∀ I ∈ pilesN n q, ∀ j ∈ I, j < n := by
  intro I hI j hj
  unfold pilesN at hI
  obtain ⟨i, _, rfl⟩ := List.mem_map.1 hI
  rw [List.mem_reverse, List.mem_filter] at hj
  exact List.mem_range.1 hj.1
theorem flat_map (f : Nat → Int) (L : List (List Nat)) : (L.map fun I => I.map f).flatten = L.flatten.map f := by
  rw [List.map_flatten]
theorem pilesN_len (n q : Nat) : (pilesN n q).length = q := by unfold pilesN; simp
/-- One round, by indices. -/
theorem round_nat {p : List Int} {q s : Nat} (h : PlainP p (q * s)) (h1 : 2 ≤ q) (h2 : q ≤ 4) (h3 : 1 ≤ s) (h4 : q * s ≤ 12) (a pl : Nat) (ha : a < q * s) (hp : pl < q) :
    packetB p = true ∧ Ev (fun k => impl_PilesOf.f k p (q : Int)) ((pilesN (q * s) q).map fun I => I.map fun i => p.getD i 0) ∧
    Ev (fun k => impl_GatherPiles.f k ((pilesN (q * s) q).map fun I => I.map fun i => p.getD i 0) ((a % q : Nat) : Int) (pl : Int)) ((outN q s a pl).map fun i => p.getD i 0, true) ∧
    Ev (fun k => impl_PileRound.f k p (q : Int) (p.getD a 0) (pl : Int)) ((outN q s a pl).map fun i => p.getD i 0, true) ∧ packetB ((outN q s a pl).map fun i => p.getD i 0) = true ∧ ((outN q s a pl).map fun i => p.getD i 0).Perm p := by
  have hc := chkN_true q s a pl h1 h2 h3 h4 ha hp
  unfold chkN at hc
  simp only [Bool.and_eq_true, beq_iff_eq, decide_eq_true_eq] at hc
  obtain ⟨hidx, hperm, _⟩ := hc
  have hpm : (outN q s a pl).Perm (List.range (q * s)) := List.isPerm_iff.1 hperm
  have hdl := dealtN q s p h1 h2 h3 h4 h.len
  obtain ⟨d1, d2, d3, d4, d5⟩ := hdl
  have hpp : ((outN q s a pl).map fun i => p.getD i 0).Perm p := by
    have e := plain_list h
    have := hpm.map fun i => p.getD i 0
    rw [← e] at this
    exact this
  have hw : ∀ x ∈ p, 0 ≤ x ∧ x < 12 := fun x hx => by
    rw [plain_list h] at hx
    obtain ⟨i, hi, rfl⟩ := List.mem_map.1 hx
    exact h.rng i (List.mem_range.1 hi)
  have hpk : packetB p = true := by
    rw [packetB_iff]
    refine ⟨fun x hx => by rw [cardOf_self x (hw x hx).1 (hw x hx).2]; exact (hw x hx).1, ?_⟩
    have e1 : p.map cardOf = p := by
      conv => rhs; rw [← List.map_id p]
      exact List.map_congr_left (fun x hx => cardOf_self x (hw x hx).1 (hw x hx).2)
    rw [e1, plain_list h]
    rw [List.nodup_iff_pairwise_ne, List.pairwise_map]
    refine List.Pairwise.imp_of_mem ?_ (List.nodup_iff_pairwise_ne.1 (List.nodup_range (n := q * s)))
    intro i j hi hj hne e
    exact hne (h.inj i j (List.mem_range.1 hi) (List.mem_range.1 hj) e)
  have hpk2 : packetB ((outN q s a pl).map fun i => p.getD i 0) = true := packetB_perm (hpp.map _) hpk
  have hpb : pilesB (p.length : Int) (q : Int) = true := by
    rw [pilesB_iff, h.len]
    refine ⟨⟨by omega, by omega, ?_, by omega⟩, ?_⟩
    · have : q * 1 ≤ q * s := Nat.mul_le_mul_left q h3
      omega
    · rw [← Int.ofNat_tmod, Nat.mul_mod_right]; rfl
  have E1 : Ev (fun k => impl_PilesOf.f k p (q : Int)) ((pilesN (q * s) q).map fun I => I.map fun i => p.getD i 0) := by
    unfold impl_PilesOf.f
    refine Ev.bind (impl_PacketOk_ev p (by have := h.len; omega) (fun x hx => by have := hw x hx; omega)) ?_
    simp only [hpk, if_true, impl_PilesOk_eq, hpb, Option.bind_some, Bool.not_true]
    exact Ev.at_ 60 (fun k hk => by obtain ⟨m, rfl⟩ := Nat.exists_eq_add_of_le' hk; exact d2 m)
  have eB : gatherB ((pilesN (q * s) q).map fun I => I.map fun i => p.getD i 0) ((a % q : Nat) : Int) (pl : Int) = ((outN q s a pl).map fun i => p.getD i 0, true) := by
    unfold gatherB
    have hmod : a % q < q := Nat.mod_lt _ (by omega)
    rw [if_pos (by rw [List.length_map, pilesN_len]; omega), Int.toNat_natCast, Int.toNat_natCast, ordAt_map, flat_map]
    exact if_pos hpk2
  have hmem : ∀ x ∈ (pilesN (q * s) q).map (fun I => I.map fun i => p.getD i 0), ∀ y ∈ x, -9223372036854775808 ≤ y := fun x hx y hy => by
    obtain ⟨I, hI, rfl⟩ := List.mem_map.1 hx
    obtain ⟨i, hi, rfl⟩ := List.mem_map.1 hy
    have := h.rng i (pilesN_lt _ _ I hI i hi); omega
  have E2 := impl_gather_ev ((pilesN (q * s) q).map fun I => I.map fun i => p.getD i 0) ((a % q : Nat) : Int) (pl : Int) (fun x hx => by have := d4 x hx; omega) hmem
  rw [eB] at E2
  have hix : idxFromL (pileHas (p.getD a 0)) ((pilesN (q * s) q).map fun I => I.map fun i => p.getD i 0) 0 = ((a % q : Nat) : Int) := by
    rw [idx_nat h a ha _ 0 (pilesN_lt _ _)]; exact hidx
  refine ⟨hpk, E1, E2, ?_, hpk2, hpp⟩
  unfold impl_PileRound.f
  refine Ev.bind E1 ?_
  rw [hix]
  simp only [if_neg (show ¬ (((a % q : Nat) : Int) < 0) by omega)]
  exact E2
end Go.Proofs.Ytbeehklibkeecaa.F
end
section
/- Where the card at a place goes in a round: the formula, for both functions. -/
namespace Go.Proofs.Ytbeehklibkeecaa.F
open Go.RowKit Go.Proofs.YtbeehklibkeecaaW.PrintWords Go.Proofs.YtbeehklibkeecaaW.PrintLast Go.Proofs.YtbeehklibkeecaaW.PrintMore
set_option linter.unusedVariables false
set_option linter.unusedSimpArgs false
theorem plain_seq (n : Nat) (hn : n ≤ 12) : PlainP (seqFrom 0 n) n ∧ ∀ i, i < n → (seqFrom 0 n).getD i 0 = (i : Int) := by
  have h : ∀ (m : Nat) (a : Int) (i : Nat), i < m → (seqFrom a m).getD i 0 = a + i := by
    intro m
    induction m with
    | zero => intro a i hi; omega
    | succ m ih =>
      intro a i hi
      cases i with
      | zero => simp [seqFrom]
      | succ i =>
        have := ih (a + 1) i (by omega)
        simp only [seqFrom, List.getD_cons_succ, this]
        omega
  have h2 : ∀ i, i < n → (seqFrom 0 n).getD i 0 = (i : Int) := fun i hi => by rw [h n 0 i hi]; omega
  refine ⟨⟨seqFrom_length n 0, fun i hi => by rw [h2 i hi]; omega, fun i j hi hj e => by rw [h2 i hi, h2 j hj] at e; omega⟩, h2⟩
theorem indexAfter_nat (q s a pl : Nat) (h1 : 2 ≤ q) (h2 : q ≤ 4) (h3 : 1 ≤ s) (h4 : q * s ≤ 12) (ha : a < q * s) (hp : pl < q) :
    Ev (fun k => impl_IndexAfter.f k ((q * s : Nat) : Int) (q : Int) (a : Int) (pl : Int)) ((pl * s + s - 1 - a / q : Nat) : Int) := by
  obtain ⟨hP, hid⟩ := plain_seq (q * s) h4
  obtain ⟨_, _, _, E, _, _⟩ := round_nat hP h1 h2 h3 h4 a pl ha hp
  rw [hid a ha] at E
  have hc := chkN_true q s a pl h1 h2 h3 h4 ha hp
  unfold chkN at hc
  simp only [Bool.and_eq_true, beq_iff_eq, decide_eq_true_eq] at hc
  obtain ⟨_, hperm, _, _, hfin⟩ := hc
  have hpm : (outN q s a pl).Perm (List.range (q * s)) := List.isPerm_iff.1 hperm
  have hmap : (outN q s a pl).map (fun i => (seqFrom 0 (q * s)).getD i 0) = (outN q s a pl).map fun i : Nat => (i : Int) := List.map_congr_left (fun i hi => hid i (List.mem_range.1 (hpm.mem_iff.1 hi)))
  rw [hmap] at E
  have hlen : (outN q s a pl).length = q * s := by rw [hpm.length_eq, List.length_range]
  have hpb : pilesB ((q * s : Nat) : Int) (q : Int) = true := by
    rw [pilesB_iff]
    refine ⟨⟨by omega, by omega, ?_, by omega⟩, ?_⟩
    · have : q * 1 ≤ q * s := Nat.mul_le_mul_left q h3
      omega
    · rw [← Int.ofNat_tmod, Nat.mul_mod_right]; rfl
  obtain ⟨u1, _⟩ := upTo_ev ((q * s : Nat) : Int) (by omega) (by omega)
  rw [Int.toNat_natCast] at u1
  unfold impl_IndexAfter.f
  simp only [impl_PilesOk_eq, hpb, Option.bind_some, if_true]
  simp only [if_neg (show ¬ ((a : Int) < 0) by omega), decide_eq_false (show ¬ ((a : Int) ≥ ((q * s : Nat) : Int)) by omega)]
  refine Ev.step (fun k => by rw [impl_IndexAfter.j0, if_neg (by decide)]) ?_
  refine Ev.bind u1 (Ev.bind E ?_)
  simp only [if_true]
  rw [← hfin]
  exact Ev.bind (index_idx (a : Int) ((outN q s a pl).map fun i : Nat => (i : Int)) [] (by simp; omega)) (Ev.now _)
theorem ia_both (q s a pl : Nat) (h1 : 2 ≤ q) (h2 : q ≤ 4) (h3 : 1 ≤ s) (h4 : q * s ≤ 12) (ha : a < q * s) (hp : pl < q) :
    Ev (fun k => impl_IndexAfter.f k ((q * s : Nat) : Int) (q : Int) (a : Int) (pl : Int)) ((pl * s + s - 1 - a / q : Nat) : Int) ∧ Ev (fun k => spec_IndexAfter.f k ((q * s : Nat) : Int) (q : Int) (a : Int) (pl : Int)) ((pl * s + s - 1 - a / q : Nat) : Int) := by
  have h := indexAfter_nat q s a pl h1 h2 h3 h4 ha hp
  obtain ⟨r, e1, e2⟩ := indexAfter_ex ((q * s : Nat) : Int) (q : Int) (a : Int) (pl : Int) (by omega) (by omega)
  have := Ev.uniq e2 h
  subst this
  exact ⟨h, e1⟩
/-- The place behind a round. -/
def nxF (q s pl : Nat) (x : Int) : Int := ((pl * s + s - 1 - x.toNat / q : Nat) : Int)
theorem nxF_in (q s pl : Nat) (h1 : 2 ≤ q) (h3 : 1 ≤ s) (hp : pl < q) (x : Int) : 0 ≤ nxF q s pl x ∧ nxF q s pl x < ((q * s : Nat) : Int) := by
  unfold nxF
  have h5 : pl * s + s ≤ q * s := by
    have : (pl + 1) * s ≤ q * s := Nat.mul_le_mul_right s hp
    rwa [Nat.add_mul, Nat.one_mul] at this
  generalize x.toNat / q = d
  generalize q * s = A at *
  generalize pl * s = u at *
  refine ⟨by omega, by omega⟩
theorem ia_nx (q s pl : Nat) (h1 : 2 ≤ q) (h2 : q ≤ 4) (h3 : 1 ≤ s) (h4 : q * s ≤ 12) (hp : pl < q) (x : Int) (h5 : 0 ≤ x) (h6 : x < ((q * s : Nat) : Int)) :
    Ev (fun k => impl_IndexAfter.f k ((q * s : Nat) : Int) (q : Int) x (pl : Int)) (nxF q s pl x) ∧ Ev (fun k => spec_IndexAfter.f k ((q * s : Nat) : Int) (q : Int) x (pl : Int)) (nxF q s pl x) := by
  obtain ⟨a, rfl⟩ := Int.eq_ofNat_of_zero_le h5
  have h := ia_both q s a pl h1 h2 h3 h4 (by omega) hp
  unfold nxF
  rw [Int.toNat_natCast]
  exact h
end Go.Proofs.Ytbeehklibkeecaa.F
end
section
/- PlacesFor: both functions answer the same, whatever the arguments are; and what the answer is good for. -/
namespace Go.Proofs.Ytbeehklibkeecaa.F
open Go.RowKit Go.Proofs.YtbeehklibkeecaaW.PrintWords Go.Proofs.YtbeehklibkeecaaW.PrintLast Go.Proofs.YtbeehklibkeecaaW.PrintMore
set_option linter.unusedVariables false
set_option linter.unusedSimpArgs false
def plRes (q s i t : Nat) : Option (List Int × Bool) := bfs (fun x c => nxF q s c.toNat x) ((q * s : Nat) : Int) (t : Int) (seqFrom 0 q) 20 [((i : Int), [])] 0
def plOK (q s i t : Nat) : Bool := match plRes q s i t with
  | some r => decide (r.1.length ≤ q * s) && (if r.2 = true then (r.1.foldl (fun x c => nxF q s c.toNat x) (i : Int) == (t : Int)) && r.1.all (fun c => decide (0 ≤ c ∧ c < (q : Int))) else r.1 == [])
  | none => false
def plAll : Bool := (List.range 5).all fun q => (List.range 7).all fun s => (!(decide (2 ≤ q) && (decide (1 ≤ s) && decide (q * s ≤ 12)))) || (List.range (q * s)).all fun i => (List.range (q * s)).all fun t => plOK q s i t
theorem plAll_true : plAll = true := by decide +kernel
theorem plOK_true (q s i t : Nat) (h1 : 2 ≤ q) (h2 : q ≤ 4) (h3 : 1 ≤ s) (h4 : q * s ≤ 12) (h5 : i < q * s) (h6 : t < q * s) : plOK q s i t = true := by
  have h := plAll_true
  unfold plAll at h
  rw [List.all_eq_true] at h
  have hs : s ≤ 6 := by
    rcases (show q = 2 ∨ q = 3 ∨ q = 4 by omega) with rfl | rfl | rfl <;> omega
  have h7 := h q (List.mem_range.2 (by omega))
  rw [List.all_eq_true] at h7
  have h8 := h7 s (List.mem_range.2 (by omega))
  rw [decide_eq_true h1, decide_eq_true h3, decide_eq_true h4] at h8
  simp only [Bool.and_self, Bool.not_true, Bool.false_or] at h8
  rw [List.all_eq_true] at h8
  have h9 := h8 i (List.mem_range.2 h5)
  rw [List.all_eq_true] at h9
  exact h9 t (List.mem_range.2 h6)
theorem places_in (q s i t : Nat) (h1 : 2 ≤ q) (h2 : q ≤ 4) (h3 : 1 ≤ s) (h4 : q * s ≤ 12) (h5 : i < q * s) (h6 : t < q * s) : ∃ r : List Int × Bool, Ev (fun k => spec_PlacesFor.f k ((q * s : Nat) : Int) (q : Int) (i : Int) (t : Int)) r ∧ Ev (fun k => impl_PlacesFor.f k ((q * s : Nat) : Int) (q : Int) (i : Int) (t : Int)) r ∧ r.1.length ≤ q * s ∧
    (r.2 = true → r.1.foldl (fun x c => nxF q s c.toNat x) (i : Int) = (t : Int) ∧ ∀ c ∈ r.1, 0 ≤ c ∧ c < (q : Int)) ∧ (r.2 = false → r.1 = []) := by
  have hok := plOK_true q s i t h1 h2 h3 h4 h5 h6
  unfold plOK at hok
  cases hr : plRes q s i t with
  | none => rw [hr] at hok; cases hok
  | some r =>
    rw [hr] at hok
    simp only [Bool.and_eq_true, decide_eq_true_eq] at hok
    have hpb : pilesB ((q * s : Nat) : Int) (q : Int) = true := by
      rw [pilesB_iff]
      refine ⟨⟨by omega, by omega, ?_, by omega⟩, ?_⟩
      · have : q * 1 ≤ q * s := Nat.mul_le_mul_left q h3
        omega
      · rw [← Int.ofNat_tmod, Nat.mul_mod_right]; rfl
    have hst : ∀ x ch : Int, 0 ≤ x → x < ((q * s : Nat) : Int) → 0 ≤ ch → ch < (q : Int) → Ev (fun k => impl_IndexAfter.f k ((q * s : Nat) : Int) (q : Int) x ch) (nxF q s ch.toNat x) ∧ Ev (fun k => spec_IndexAfter.f k ((q * s : Nat) : Int) (q : Int) x ch) (nxF q s ch.toNat x) := fun x ch a b c d => by
      have h := ia_nx q s ch.toNat h1 h2 h3 h4 (by omega) x a b
      rw [Int.toNat_of_nonneg c] at h
      exact h
    have hb : bfs (fun x c => nxF q s c.toNat x) ((q * s : Nat) : Int) (t : Int) (seqFrom 0 ((q : Int)).toNat) 20 [((i : Int), [])] 0 = some r := by rw [Int.toNat_natCast]; exact hr
    refine ⟨r, ?_, ?_, hok.1, fun h => ?_, fun h => ?_⟩
    · have e := pf_l0 ((q * s : Nat) : Int) (q : Int) (t : Int) (fun x c => nxF q s c.toNat x) (q : Int) rfl (by omega) (by omega) (fun x ch a b c d => (hst x ch a b c d).2) 20 [] [((i : Int), [])] r (by simp) hb
      unfold spec_PlacesFor.f
      simp only [spec_PilesOk_eq, hpb, Option.bind_some, if_true, l01In_eq, w64_id (show -9223372036854775808 ≤ ((q * s : Nat) : Int) - 1 by omega) (show ((q * s : Nat) : Int) - 1 ≤ 9223372036854775807 by omega), decide_eq_true (show 0 ≤ (i : Int) ∧ (i : Int) ≤ ((q * s : Nat) : Int) - 1 by omega), decide_eq_true (show 0 ≤ (t : Int) ∧ (t : Int) ≤ ((q * s : Nat) : Int) - 1 by omega), Bool.not_true]
      refine Ev.step (fun k => ?_) e
      show spec_PlacesFor.j0 (k + 1) _ _ _ _ _ = _
      rw [spec_PlacesFor.j0, if_neg (by decide)]
      rfl
    · have e := sh_ev (fun k x y => impl_IndexAfter.f k ((q * s : Nat) : Int) (q : Int) x y) (fun x c => nxF q s c.toNat x) ((q * s : Nat) : Int) (t : Int) (q : Int) (by omega) (by omega) (fun x ch a b c d => (hst x ch a b c d).1) (by omega) (i : Int) (by omega) 20 r hb
      unfold impl_PlacesFor.f
      simp only [impl_PilesOk_eq, hpb, Option.bind_some, if_true, if_neg (show ¬ ((i : Int) < 0) by omega), if_neg (show ¬ (((q * s : Nat) : Int) ≤ (i : Int)) by omega), if_neg (show ¬ ((t : Int) < 0) by omega), if_neg (show ¬ (((q * s : Nat) : Int) ≤ (t : Int)) by omega)]
      exact e
    · have h9 := hok.2
      rw [if_pos h] at h9
      simp only [Bool.and_eq_true, beq_iff_eq, List.all_eq_true, decide_eq_true_eq] at h9
      exact h9
    · have h9 := hok.2
      rw [if_neg (by rw [h]; decide)] at h9
      exact beq_iff_eq.1 h9
end Go.Proofs.Ytbeehklibkeecaa.F
end
section
/- Laid by a program of this claim's own. What the Go function does, as a Lean function, and the proof that the Go code does just that; Lean checks it. -/
namespace Go.Proofs.Ytbeehklibkeecaa.F
open Go.RowKit Go.Proofs.YtbeehklibkeecaaW.PrintWords Go.Proofs.YtbeehklibkeecaaW.PrintLast Go.Proofs.YtbeehklibkeecaaW.PrintMore
attribute [local go_sem] max2_int min2_int max_two min_two max_three min_three max_four min_four   -- for this text's walks alone
set_option linter.unusedVariables false
set_option linter.unusedSimpArgs false
/-! ### spec_l14Images: function 41 -/
mutual
def spec_l14Images.l0 : Nat → Int → Int → Int → Int → List Int → Int → Option (List Int)
  | 0, _, _, _, _, _, _ => none
  | k + 1, n, p, pl, rs, xs, j => if j < rs then spec_l14Images.l1 k n p pl rs xs j 0 else some xs
def spec_l14Images.l1 : Nat → Int → Int → Int → Int → List Int → Int → Int → Option (List Int)
  | 0, _, _, _, _, _, _, _ => none
  | k + 1, n, p, pl, rs, xs, j, i => if i < (xs.length : Int) then (if 0 ≤ i then ((spec_IndexAfter.f k n p (rd xs i) pl).bind fun y => spec_l14Images.l1 k n p pl rs (xs.set i.toNat y) j (wrap64 (i + 1))) else none) else spec_l14Images.l0 k n p pl rs xs (wrap64 (j + 1))
end
def spec_l14Images.f (k : Nat) (a0 a1 a2 a3 : Int) : Option (List Int) := (spec_NewPacket.f k a0).bind fun xs => spec_l14Images.l0 k a0 a1 a2 a3 xs 0
end Go.Proofs.Ytbeehklibkeecaa.F
end
