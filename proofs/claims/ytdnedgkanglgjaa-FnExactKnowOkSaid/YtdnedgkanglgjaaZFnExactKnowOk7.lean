import Derived.Test.YtdnedgkanglgjaaZFnExactKnowOk1
import Derived.Test.YtdnedgkanglgjaaZFnExactKnowOk3
import Derived.Test.YtdnedgkanglgjaaZFnExactKnowOk2
import Derived.Test.YtdnedgkanglgjaaZFnExactKnowOk4
import Derived.Test.YtdnedgkanglgjaaZFnExactKnowOk6
import Derived.Test.YtdnedgkanglgjaaM
import Derived.Test.YtdnedgkanglgjaaZFnExactKnowOk5
/- Where a card stands, and arrangements of one packet. -/
namespace Go.Proofs.Ytdnedgkanglgjaa.F
open Go.RowKit Go.Proofs.YtdnedgkanglgjaaW.PrintWords Go.Proofs.YtdnedgkanglgjaaW.PrintLast Go.Proofs.YtdnedgkanglgjaaW.PrintMore
set_option linter.unusedVariables false
set_option linter.unusedSimpArgs false
def hasCard (q : List Int) (c : Int) : Bool := q.any fun y => cardOf y == c
theorem posOf_at (c : Int) (hc : 0 ≤ c) (rest : List Int) : ∀ (pre : List Int), (pre ++ rest).length ≤ 4611686018427387904 →
    Ev (fun k => spec_PositionOf.l0 k c (pre ++ rest) ((pre ++ rest).length : Int) (pre.length : Int)) (idxFrom (fun x => cardOf x == c) rest (pre.length : Int)) := by
  induction rest with
  | nil =>
    intro pre hb
    refine Ev.step (f := fun _ => some (-1)) (fun k => ?_) (Ev.now _)
    show spec_PositionOf.l0 (k + 1) c _ _ _ = _
    rw [spec_PositionOf.l0, if_neg (mid_nlt _)]
  | cons x rest ih =>
    intro pre hb
    by_cases e : cardOf x = c
    · rw [show idxFrom (fun x => cardOf x == c) (x :: rest) (pre.length : Int) = (pre.length : Int) by simp [idxFrom, e]]
      refine Ev.step (f := fun _ => some (pre.length : Int)) (fun k => ?_) (Ev.now _)
      show spec_PositionOf.l0 (k + 1) c _ _ _ = _
      rw [spec_PositionOf.l0, if_pos (mid_lt _ _ _), if_pos (nn _), if_pos (mid_lt _ _ _), mid_rd, spec_CardOf_eq, Option.bind_some, if_pos e, if_pos hc]
    · have h := ih (pre ++ [x]) (by simpa using hb)
      rw [← mid_cons, ← mid_succ pre x (by simp at hb; omega)] at h
      rw [show idxFrom (fun x => cardOf x == c) (x :: rest) (pre.length : Int) = idxFrom (fun x => cardOf x == c) rest (wrap64 ((pre.length : Int) + 1)) by simp [idxFrom, e]; rw [w64_nat _ (by simp at hb; omega)]; simp]
      refine Ev.step (fun k => ?_) h
      show spec_PositionOf.l0 (k + 1) c _ _ _ = _
      rw [spec_PositionOf.l0, if_pos (mid_lt _ _ _), if_pos (nn _), if_pos (mid_lt _ _ _), mid_rd, spec_CardOf_eq, Option.bind_some, if_neg e]
theorem posOf_ev (q : List Int) (c : Int) (hc : 0 ≤ c) (hb : q.length ≤ 4611686018427387904) : Ev (fun k => spec_PositionOf.f k q c) (idxFrom (fun x => cardOf x == c) q 0) := posOf_at c hc q [] hb
theorem idx_lt (c : Int) (q : List Int) : ∀ i : Int, 0 ≤ i → decide (idxFrom (fun x => cardOf x == c) q i < 0) = !hasCard q c := by
  induction q with
  | nil => intro i hi; simp [idxFrom, hasCard]
  | cons x q ih =>
    intro i hi
    by_cases e : cardOf x = c
    · have h1 : idxFrom (fun x => cardOf x == c) (x :: q) i = i := by simp [idxFrom, e]
      have h2 : hasCard (x :: q) c = true := by simp [hasCard, e]
      rw [h1, h2, decide_eq_false (by omega)]
      rfl
    · have h1 : idxFrom (fun x => cardOf x == c) (x :: q) i = idxFrom (fun x => cardOf x == c) q (i + 1) := by simp [idxFrom, e]
      have h2 : hasCard (x :: q) c = hasCard q c := by simp [hasCard, e]
      rw [h1, h2]
      exact ih (i + 1) (by omega)
theorem impl_pos_eq (q : List Int) (c : Int) (hc : 0 ≤ c) (hq : ∀ x ∈ q, -9223372036854775808 ≤ x) : impl_PositionOf.f q c = some (idxFrom (fun x => cardOf x == c) q 0) := by
  unfold impl_PositionOf.f
  rw [if_neg (by omega)]
  have aux : ∀ (l : List Int) (i : Int), (∀ x ∈ l, -9223372036854775808 ≤ x) → idxFrom (fun x => impl_CardOf.f x == some c) l i = idxFrom (fun x => cardOf x == c) l i := by
    intro l
    induction l with
    | nil => intro i _; rfl
    | cons x xs ih =>
      intro i h
      have hx := impl_CardOf_eq x (h x (by simp))
      have h2 := ih (i + 1) (fun y hy => h y (by simp [hy]))
      simp only [idxFrom, hx, h2]
      rfl
  rw [aux q 0 hq]
theorem lacks_eq (q : List Int) (x : Int) (hq : ∀ x ∈ q, -9223372036854775808 ≤ x) (hx : -9223372036854775808 ≤ x) (hc : 0 ≤ cardOf x) : lacks q x = !hasCard q (cardOf x) := by
  unfold lacks
  rw [impl_CardOf_eq x hx, Option.bind_some, impl_pos_eq q _ hc hq, Option.bind_some, idx_lt _ q 0 (by omega)]
  cases hasCard q (cardOf x) <;> rfl
def arrB (p q : List Int) : Bool := packetB p && (packetB q && (decide (p.length = q.length) && p.all fun x => hasCard q (cardOf x)))
theorem impl_Arr_ev (p q : List Int) (hp : ∀ x ∈ p, -9223372036854775808 ≤ x) (hq : ∀ x ∈ q, -9223372036854775808 ≤ x) (bp : p.length ≤ 4611686018427387904) (bq : q.length ≤ 4611686018427387904) : Ev (fun k => impl_IsArrangement.f k p q) (arrB p q) := by
  unfold impl_IsArrangement.f arrB
  refine Ev.bind (impl_PacketOk_ev p bp hp) ?_
  by_cases h1 : packetB p = true
  · simp only [h1, if_true, Bool.true_and]
    refine Ev.bind (impl_PacketOk_ev q bq hq) ?_
    by_cases h2 : packetB q = true
    · simp only [h2, if_true, Bool.true_and]
      by_cases h3 : p.length = q.length
      · simp only [if_pos (show (p.length : Int) = (q.length : Int) by omega), decide_eq_true h3, Bool.true_and]
        have e : (!(p.any (lacks q))) = p.all fun x => hasCard q (cardOf x) := by
          rw [List.not_any_eq_all_not]
          rw [Bool.eq_iff_iff, List.all_eq_true, List.all_eq_true]
          refine ⟨fun h x hx => ?_, fun h x hx => ?_⟩
          · have := h x hx
            rw [lacks_eq q x hq (hp x hx) (packetB_card h1 x hx)] at this
            simpa using this
          · rw [lacks_eq q x hq (hp x hx) (packetB_card h1 x hx)]
            simpa using h x hx
        rw [e]
        exact Ev.now _
      · simp only [if_neg (show ¬ (p.length : Int) = (q.length : Int) by omega), decide_eq_false h3, Bool.false_and]
        exact Ev.now _
    · simp only [h2, if_false, Bool.false_and]
      exact Ev.now _
  · simp only [h1, if_false, Bool.false_and]
    exact Ev.now _
theorem spec_Arr_at (q : List Int) (bq : q.length ≤ 4611686018427387904) (rest : List Int) : ∀ (pre : List Int), (pre ++ rest).length ≤ 4611686018427387904 → (∀ x ∈ rest, 0 ≤ cardOf x) →
    Ev (fun k => spec_IsArrangement.l0 k q (pre ++ rest) ((pre ++ rest).length : Int) (pre.length : Int)) (rest.all fun x => hasCard q (cardOf x)) := by
  induction rest with
  | nil =>
    intro pre hb hc
    refine Ev.step (f := fun _ => some true) (fun k => ?_) (Ev.now _)
    show spec_IsArrangement.l0 (k + 1) q _ _ _ = _
    rw [spec_IsArrangement.l0, if_neg (mid_nlt _)]
  | cons x rest ih =>
    intro pre hb hc
    have h := ih (pre ++ [x]) (by simpa using hb) (fun y hy => hc y (by simp [hy]))
    rw [← mid_cons, ← mid_succ pre x (by simp at hb; omega)] at h
    refine Ev.stepb (posOf_ev q (cardOf x) (hc x (by simp)) bq) (fun k => by rw [spec_IsArrangement.l0, if_pos (mid_lt _ _ _), if_pos (nn _), if_pos (mid_lt _ _ _), mid_rd, spec_CardOf_eq, Option.bind_some]) ?_
    have e := idx_lt (cardOf x) q 0 (by omega)
    by_cases c : hasCard q (cardOf x) = true
    · have e2 : ¬ idxFrom (fun x => cardOf x == cardOf x) q 0 < 0 ∨ True := Or.inr trivial
      rw [c] at e
      have e3 := of_decide_eq_false e
      simp only [if_neg e3]
      rw [show ((x :: rest).all fun x => hasCard q (cardOf x)) = rest.all fun x => hasCard q (cardOf x) by simp [c]]
      exact h
    · have c' : hasCard q (cardOf x) = false := by simpa using c
      rw [c'] at e
      have e3 := of_decide_eq_true e
      simp only [if_pos e3]
      rw [show ((x :: rest).all fun x => hasCard q (cardOf x)) = false by simp [c']]
      exact Ev.now _
theorem spec_Arr_ev (p q : List Int) (bp : p.length ≤ 4611686018427387904) (bq : q.length ≤ 4611686018427387904) : Ev (fun k => spec_IsArrangement.f k p q) (arrB p q) := by
  unfold spec_IsArrangement.f arrB
  have hj : Ev (fun k => spec_IsArrangement.j0 k p q true) false := Ev.at_ 1 (fun k hk => by obtain ⟨m, rfl⟩ := Nat.exists_eq_add_of_le' hk; rfl)
  refine Ev.bind (spec_PacketOk_ev p) ?_
  by_cases h1 : packetB p = true
  · simp only [h1, if_true, Bool.true_and]
    refine Ev.bind (spec_PacketOk_ev q) ?_
    by_cases h2 : packetB q = true
    · simp only [h2, if_true, Bool.true_and]
      by_cases h3 : p.length = q.length
      · simp only [h3, bne_self_eq_false, decide_true, Bool.true_and]
        refine Ev.step (fun k => ?_) (spec_Arr_at q bq p [] bp (packetB_card h1))
        show spec_IsArrangement.j0 (k + 1) p q false = _
        rw [spec_IsArrangement.j0, if_neg (by simp)]
        rfl
      · have e : ((p.length : Int) != (q.length : Int)) = true := bne_iff_ne.mpr (by omega)
        simp only [e, decide_eq_false h3, Bool.false_and]
        exact hj
    · simp only [h2, if_false, Bool.false_and]
      exact hj
  · simp only [h1, if_false, Bool.false_and]
    exact hj
end Go.Proofs.Ytdnedgkanglgjaa.F
/- slices.Compare and the reference's lexicographic order. -/
namespace Go.Proofs.Ytdnedgkanglgjaa.F
open Go.RowKit Go.Proofs.YtdnedgkanglgjaaW.PrintWords Go.Proofs.YtdnedgkanglgjaaW.PrintLast Go.Proofs.YtdnedgkanglgjaaW.PrintMore
set_option linter.unusedVariables false
set_option linter.unusedSimpArgs false
def lessB : List Int → List Int → Bool
  | [], [] => false
  | [], _ :: _ => true
  | _ :: _, [] => false
  | x :: xs, y :: ys => if x = y then lessB xs ys else decide (x < y)
def cmpR : List Int → List Int → Int
  | [], [] => 0
  | [], _ :: _ => -1
  | _ :: _, [] => 1
  | x :: xs, y :: ys => if x = y then cmpR xs ys else if x < y then -1 else 1
theorem cmpR_less (a : List Int) : ∀ b, decide (cmpR a b ≥ 0) = !lessB a b := by
  induction a with
  | nil => intro b; cases b <;> rfl
  | cons x xs ih =>
    intro b
    cases b with
    | nil => rfl
    | cons y ys =>
      unfold cmpR lessB
      by_cases e : x = y
      · rw [if_pos e, if_pos e]; exact ih ys
      · rw [if_neg e, if_neg e]
        by_cases l : x < y
        · rw [if_pos l]; simp [l]
        · rw [if_neg l]; simp [l]
theorem cmpCompare_eq (x y : Int) : cmp_Compare_int.f x y = some (if x = y then 0 else if x < y then -1 else 1) := by
  have h : ∀ z, cmp_isNaN_int.f z = some false := by intro z; unfold cmp_isNaN_int.f; simp
  unfold cmp_Compare_int.f
  rw [h, h]
  simp only [Option.bind_some, Bool.false_eq_true, if_false]
  by_cases e : x = y
  · subst e; simp
  · by_cases l : x < y
    · simp [e, l]
    · have : x > y := by omega
      simp [e, l, this]
theorem compare_at (rest : List Int) : ∀ (pre ys : List Int), (pre ++ rest).length ≤ 4611686018427387904 → (pre ++ ys).length ≤ 4611686018427387904 →
    Ev (fun k => slices_Compare_Lint_int.l0 k (pre ++ rest) (pre ++ ys) (pre ++ rest) ((pre ++ rest).length : Int) (pre.length : Int)) (cmpR rest ys) := by
  induction rest with
  | nil =>
    intro pre ys hb hc
    refine Ev.step (f := fun _ => some (cmpR [] ys)) (fun k => ?_) (Ev.now _)
    show slices_Compare_Lint_int.l0 (k + 1) _ _ _ _ _ = _
    rw [slices_Compare_Lint_int.l0, if_neg (mid_nlt _)]
    cases ys with
    | nil => rw [if_neg (by omega)]; rfl
    | cons y ys => rw [if_pos (by simp; omega)]; rfl
  | cons x rest ih =>
    intro pre ys hb hc
    cases ys with
    | nil =>
      refine Ev.step (f := fun _ => some 1) (fun k => ?_) (Ev.now _)
      show slices_Compare_Lint_int.l0 (k + 1) _ _ _ _ _ = _
      rw [slices_Compare_Lint_int.l0, if_pos (mid_lt _ _ _), if_pos (nn _), if_pos (mid_lt _ _ _), if_pos (by simp)]
    | cons y ys =>
      have hge : ¬ ((pre.length : Int) ≥ ((pre ++ y :: ys).length : Int)) := by have := mid_lt pre y ys; omega
      by_cases e : x = y
      · subst e
        have h := ih (pre ++ [x]) ys (by simpa using hb) (by simpa using hc)
        rw [← mid_cons, ← mid_cons, ← mid_succ pre x (by simp at hb; omega)] at h
        rw [show cmpR (x :: rest) (x :: ys) = cmpR rest ys by simp [cmpR]]
        refine Ev.step (fun k => ?_) h
        show slices_Compare_Lint_int.l0 (k + 1) _ _ _ _ _ = _
        rw [slices_Compare_Lint_int.l0, if_pos (mid_lt _ _ _), if_pos (nn _), if_pos (mid_lt _ _ _), if_neg hge, if_pos (mid_lt _ _ _), mid_rd, mid_rd, cmpCompare_eq, if_pos rfl, Option.bind_some, if_pos rfl]
      · rw [show cmpR (x :: rest) (y :: ys) = if x < y then -1 else 1 by simp [cmpR, e]]
        refine Ev.step (f := fun _ => some (if x < y then -1 else 1)) (fun k => ?_) (Ev.now _)
        show slices_Compare_Lint_int.l0 (k + 1) _ _ _ _ _ = _
        rw [slices_Compare_Lint_int.l0, if_pos (mid_lt _ _ _), if_pos (nn _), if_pos (mid_lt _ _ _), if_neg hge, if_pos (mid_lt _ _ _), mid_rd, mid_rd, cmpCompare_eq, if_neg e, Option.bind_some]
        by_cases l : x < y
        · rw [if_pos l]; rfl
        · rw [if_neg l]; rfl
theorem compare_ev (a b : List Int) (ha : a.length ≤ 4611686018427387904) (hb : b.length ≤ 4611686018427387904) : Ev (fun k => slices_Compare_Lint_int.f k a b) (cmpR a b) := compare_at a [] b ha hb
theorem less_at (rest : List Int) : ∀ (pre ys : List Int), (pre ++ rest).length ≤ 4611686018427387904 → (pre ++ ys).length ≤ 4611686018427387904 →
    Ev (fun k => spec_l05Less.l0 k (pre ++ rest) (pre ++ ys) (pre ++ rest) ((pre ++ rest).length : Int) (pre.length : Int)) (lessB rest ys) := by
  induction rest with
  | nil =>
    intro pre ys hb hc
    refine Ev.step (f := fun _ => some (lessB [] ys)) (fun k => ?_) (Ev.now _)
    show spec_l05Less.l0 (k + 1) _ _ _ _ _ = _
    rw [spec_l05Less.l0, if_neg (mid_nlt _)]
    cases ys with
    | nil => rw [decide_eq_false (by omega)]; rfl
    | cons y ys => rw [decide_eq_true (by simp; omega)]; rfl
  | cons x rest ih =>
    intro pre ys hb hc
    cases ys with
    | nil =>
      refine Ev.step (f := fun _ => some false) (fun k => ?_) (Ev.now _)
      show spec_l05Less.l0 (k + 1) _ _ _ _ _ = _
      rw [spec_l05Less.l0, if_pos (mid_lt _ _ _), if_pos (nn _), if_pos (mid_lt _ _ _), if_pos (by simp)]
    | cons y ys =>
      have hge : ¬ ((pre.length : Int) ≥ ((pre ++ y :: ys).length : Int)) := by have := mid_lt pre y ys; omega
      by_cases e : x = y
      · subst e
        have h := ih (pre ++ [x]) ys (by simpa using hb) (by simpa using hc)
        rw [← mid_cons, ← mid_cons, ← mid_succ pre x (by simp at hb; omega)] at h
        rw [show lessB (x :: rest) (x :: ys) = lessB rest ys by simp [lessB]]
        refine Ev.step (fun k => ?_) h
        show spec_l05Less.l0 (k + 1) _ _ _ _ _ = _
        rw [spec_l05Less.l0, if_pos (mid_lt _ _ _), if_pos (nn _), if_pos (mid_lt _ _ _), if_neg hge, if_pos (mid_lt _ _ _), mid_rd, mid_rd, if_pos rfl]
      · rw [show lessB (x :: rest) (y :: ys) = decide (x < y) by simp [lessB, e]]
        refine Ev.step (f := fun _ => some (decide (x < y))) (fun k => ?_) (Ev.now _)
        show spec_l05Less.l0 (k + 1) _ _ _ _ _ = _
        rw [spec_l05Less.l0, if_pos (mid_lt _ _ _), if_pos (nn _), if_pos (mid_lt _ _ _), if_neg hge, if_pos (mid_lt _ _ _), mid_rd, mid_rd, if_neg e]
theorem less_ev (a b : List Int) (ha : a.length ≤ 4611686018427387904) (hb : b.length ≤ 4611686018427387904) : Ev (fun k => spec_l05Less.f k a b) (lessB a b) := less_at a [] b ha hb
end Go.Proofs.Ytdnedgkanglgjaa.F
/- A list of packets that may be known: the program's and the reference's check. -/
namespace Go.Proofs.Ytdnedgkanglgjaa.F
open Go.RowKit Go.Proofs.YtdnedgkanglgjaaW.PrintWords Go.Proofs.YtdnedgkanglgjaaW.PrintLast Go.Proofs.YtdnedgkanglgjaaW.PrintMore
set_option linter.unusedVariables false
set_option linter.unusedSimpArgs false
def knowM (hd : List Int) : Option (List Int) → List (List Int) → Bool
  | _, [] => true
  | none, x :: xs => arrB hd x && knowM hd (some x) xs
  | some y, x :: xs => arrB hd x && (lessB y x && knowM hd (some x) xs)
def knowB (l : List (List Int)) : Bool := decide (1 ≤ (l.length : Int) ∧ (l.length : Int) ≤ 3000) && (decide ((l.getD 0 []).length ≠ 0) && knowM (l.getD 0 []) none l)
def lastOf (pre : List (List Int)) : Option (List Int) := pre.getLast?
theorem rd_last (q : List (List Int)) (y : List Int) (rest : List (List Int)) (h : q.length ≤ 4611686018427387904) : rd_L2 ((q ++ [y]) ++ rest) (wrap64 (((q ++ [y]).length : Int) - 1)) = y := by
  rw [show wrap64 (((q ++ [y]).length : Int) - 1) = (q.length : Int) by rw [w64_id (by rw [List.length_append, List.length_singleton]; omega) (by rw [List.length_append, List.length_singleton]; omega)]; simp, List.append_assoc]
  exact mid_rdL1 q y rest
theorem rd_head (l : List (List Int)) : rd_L2 l 0 = l.getD 0 [] := by
  unfold rd_L2
  rfl
theorem impl_Know_at (rest : List (List Int)) : ∀ (pre : List (List Int)), (pre ++ rest).length ≤ 4611686018427387904 → (∀ x ∈ pre ++ rest, x.length ≤ 1048576 ∧ ∀ y ∈ x, -9223372036854775808 ≤ y) →
    Ev (fun k => impl_KnowOk.l0 k (pre ++ rest) (pre ++ rest) ((pre ++ rest).length : Int) (pre.length : Int)) (knowM ((pre ++ rest).getD 0 []) pre.getLast? rest) := by
  induction rest with
  | nil =>
    intro pre hb hx
    have e : knowM ((pre ++ []).getD 0 []) pre.getLast? [] = true := by cases pre.getLast? <;> rfl
    rw [e]
    refine Ev.step (f := fun _ => some true) (fun k => ?_) (Ev.now _)
    show impl_KnowOk.l0 (k + 1) _ _ _ _ = _
    rw [impl_KnowOk.l0, if_neg (mid_nlt _)]
  | cons x rest ih =>
    intro pre hb hx
    have hpos : (0 : Int) < ((pre ++ x :: rest).length : Int) := by have := mid_lt pre x rest; omega
    have h := ih (pre ++ [x]) (by simpa using hb) (by simpa using hx)
    rw [← mid_cons, ← mid_succ pre x (by simp at hb; omega), List.getLast?_concat] at h
    have hxx := hx x (by simp)
    have hhd : (pre ++ x :: rest).getD 0 [] ∈ pre ++ x :: rest := by
      cases pre with
      | nil => simp
      | cons y ys => simp
    have hh := hx _ hhd
    have hA := impl_Arr_ev ((pre ++ x :: rest).getD 0 []) x hh.2 hxx.2 (by omega) (by omega)
    refine Ev.stepb hA (fun k => by rw [impl_KnowOk.l0, if_pos (mid_lt _ _ _), if_pos (nn _), if_pos (mid_lt _ _ _), if_pos hpos, rd_head, mid_rdL1]) ?_
    by_cases ca : arrB ((pre ++ x :: rest).getD 0 []) x = true
    · simp only [ca, if_true]
      rcases List.eq_nil_or_concat pre with rfl | ⟨q, y, rfl⟩
      · simp only [List.length_nil, Int.natCast_zero, if_neg (show ¬ (0 : Int) > 0 by omega), List.getLast?_nil]
        rw [show knowM (([] ++ x :: rest : List (List Int)).getD 0 []) none (x :: rest) = knowM (([] ++ x :: rest : List (List Int)).getD 0 []) (some x) rest by simp only [knowM]; rw [ca]; rfl]
        exact h
      · simp only [List.concat_eq_append] at *
        have hy := hx y (by simp)
        have hq : q.length ≤ 4611686018427387904 := by simp at hb; omega
        have hp : ((q ++ [y]).length : Int) > 0 := by rw [List.length_append]; simp; try omega
        have hw : wrap64 (((q ++ [y]).length : Int) - 1) = (q.length : Int) := by rw [w64_id (by rw [List.length_append, List.length_singleton]; omega) (by rw [List.length_append, List.length_singleton]; omega)]; simp
        have c1 : (0 : Int) ≤ wrap64 (((q ++ [y]).length : Int) - 1) := by rw [hw]; omega
        have c2 : wrap64 (((q ++ [y]).length : Int) - 1) < ((q ++ [y] ++ x :: rest).length : Int) := by rw [hw]; simp; omega
        simp only [if_pos hp, if_pos c1, if_pos c2, rd_last q y (x :: rest) hq, List.getLast?_concat]
        refine Ev.bind (compare_ev y x (by omega) (by omega)) ?_
        have hl := cmpR_less y x
        by_cases cl : lessB y x = true
        · rw [cl] at hl
          have := of_decide_eq_false hl
          simp only [if_neg this]
          rw [show knowM ((q ++ [y] ++ x :: rest).getD 0 []) (some y) (x :: rest) = knowM ((q ++ [y] ++ x :: rest).getD 0 []) (some x) rest by simp only [knowM]; rw [ca, cl]; rfl]
          exact h
        · have cl' : lessB y x = false := by simpa using cl
          rw [cl'] at hl
          have := of_decide_eq_true hl
          simp only [if_pos this]
          rw [show knowM ((q ++ [y] ++ x :: rest).getD 0 []) (some y) (x :: rest) = false by simp only [knowM]; rw [cl', Bool.false_and, Bool.and_false]]
          exact Ev.now _
    · have ca' : arrB ((pre ++ x :: rest).getD 0 []) x = false := by simpa using ca
      simp only [ca', Bool.false_eq_true, if_false]
      rw [show knowM ((pre ++ x :: rest).getD 0 []) pre.getLast? (x :: rest) = false by cases pre.getLast? <;> (simp only [knowM]; rw [ca', Bool.false_and])]
      exact Ev.now _
theorem spec_Know_at (rest : List (List Int)) : ∀ (pre : List (List Int)), (pre ++ rest).length ≤ 4611686018427387904 → (∀ x ∈ pre ++ rest, x.length ≤ 1048576) →
    Ev (fun k => spec_KnowOk.l0 k (pre ++ rest) (pre ++ rest) ((pre ++ rest).length : Int) (pre.length : Int)) (knowM ((pre ++ rest).getD 0 []) pre.getLast? rest) := by
  induction rest with
  | nil =>
    intro pre hb hx
    have e : knowM ((pre ++ []).getD 0 []) pre.getLast? [] = true := by cases pre.getLast? <;> rfl
    rw [e]
    refine Ev.step (f := fun _ => some true) (fun k => ?_) (Ev.now _)
    show spec_KnowOk.l0 (k + 1) _ _ _ _ = _
    rw [spec_KnowOk.l0, if_neg (mid_nlt _)]
  | cons x rest ih =>
    intro pre hb hx
    have hpos : (0 : Int) < ((pre ++ x :: rest).length : Int) := by have := mid_lt pre x rest; omega
    have h := ih (pre ++ [x]) (by simpa using hb) (by simpa using hx)
    rw [← mid_cons, ← mid_succ pre x (by simp at hb; omega), List.getLast?_concat] at h
    have hxx := hx x (by simp)
    have hhd : (pre ++ x :: rest).getD 0 [] ∈ pre ++ x :: rest := by
      cases pre with
      | nil => simp
      | cons y ys => simp
    have hh := hx _ hhd
    have hA := spec_Arr_ev ((pre ++ x :: rest).getD 0 []) x (by omega) (by omega)
    refine Ev.stepb hA (fun k => by rw [spec_KnowOk.l0, if_pos (mid_lt _ _ _), if_pos (nn _), if_pos (mid_lt _ _ _), if_pos hpos, rd_head, mid_rdL1]) ?_
    by_cases ca : arrB ((pre ++ x :: rest).getD 0 []) x = true
    · simp only [ca, if_true]
      rcases List.eq_nil_or_concat pre with rfl | ⟨q, y, rfl⟩
      · simp only [List.length_nil, Int.natCast_zero, if_neg (show ¬ (0 : Int) > 0 by omega), List.getLast?_nil]
        rw [show knowM (([] ++ x :: rest : List (List Int)).getD 0 []) none (x :: rest) = knowM (([] ++ x :: rest : List (List Int)).getD 0 []) (some x) rest by simp only [knowM]; rw [ca]; rfl]
        exact h
      · simp only [List.concat_eq_append] at *
        have hy := hx y (by simp)
        have hq : q.length ≤ 4611686018427387904 := by simp at hb; omega
        have hp : ((q ++ [y]).length : Int) > 0 := by rw [List.length_append]; simp; try omega
        have hw : wrap64 (((q ++ [y]).length : Int) - 1) = (q.length : Int) := by rw [w64_id (by rw [List.length_append, List.length_singleton]; omega) (by rw [List.length_append, List.length_singleton]; omega)]; simp
        have c1 : (0 : Int) ≤ wrap64 (((q ++ [y]).length : Int) - 1) := by rw [hw]; omega
        have c2 : wrap64 (((q ++ [y]).length : Int) - 1) < ((q ++ [y] ++ x :: rest).length : Int) := by rw [hw]; simp; omega
        simp only [if_pos hp, if_pos c1, if_pos c2, rd_last q y (x :: rest) hq, List.getLast?_concat]
        refine Ev.bind (less_ev y x (by omega) (by omega)) ?_
        by_cases cl : lessB y x = true
        · simp only [cl, if_true]
          rw [show knowM ((q ++ [y] ++ x :: rest).getD 0 []) (some y) (x :: rest) = knowM ((q ++ [y] ++ x :: rest).getD 0 []) (some x) rest by simp only [knowM]; rw [ca, cl]; rfl]
          exact h
        · have cl' : lessB y x = false := by simpa using cl
          simp only [cl', Bool.false_eq_true, if_false]
          rw [show knowM ((q ++ [y] ++ x :: rest).getD 0 []) (some y) (x :: rest) = false by simp only [knowM]; rw [cl', Bool.false_and, Bool.and_false]]
          exact Ev.now _
    · have ca' : arrB ((pre ++ x :: rest).getD 0 []) x = false := by simpa using ca
      simp only [ca', Bool.false_eq_true, if_false]
      rw [show knowM ((pre ++ x :: rest).getD 0 []) pre.getLast? (x :: rest) = false by cases pre.getLast? <;> (simp only [knowM]; rw [ca', Bool.false_and])]
      exact Ev.now _
theorem impl_Know_ev (l : List (List Int)) (hb : l.length ≤ 4611686018427387904) (hx : ∀ x ∈ l, x.length ≤ 1048576 ∧ ∀ y ∈ x, -9223372036854775808 ≤ y) : Ev (fun k => impl_KnowOk.f k l) (knowB l) := by
  have hj : Ev (fun k => impl_KnowOk.j0 k l true) false := Ev.at_ 1 (fun k hk => by obtain ⟨m, rfl⟩ := Nat.exists_eq_add_of_le' hk; rfl)
  unfold impl_KnowOk.f knowB
  by_cases h1 : (l.length : Int) < 1
  · simp only [if_pos h1, decide_eq_false (show ¬ (1 ≤ (l.length : Int) ∧ (l.length : Int) ≤ 3000) by omega), Bool.false_and]
    exact hj
  · by_cases h2 : (l.length : Int) > 3000
    · simp only [if_neg h1, if_pos h2, decide_eq_false (show ¬ (1 ≤ (l.length : Int) ∧ (l.length : Int) ≤ 3000) by omega), Bool.false_and]
      exact hj
    · simp only [if_neg h1, if_neg h2, if_pos (show 0 < (l.length : Int) by omega), decide_eq_true (show 1 ≤ (l.length : Int) ∧ (l.length : Int) ≤ 3000 by omega), Bool.true_and, rd_head]
      by_cases h3 : (l.getD 0 []).length = 0
      · have e : (((l.getD 0 []).length : Int) == 0) = true := beq_iff_eq.mpr (by omega)
        simp only [e, decide_eq_false (show ¬ (l.getD 0 []).length ≠ 0 by omega), Bool.false_and]
        exact hj
      · have e : (((l.getD 0 []).length : Int) == 0) = false := beq_eq_false_iff_ne.mpr (by omega)
        simp only [e, decide_eq_true (show (l.getD 0 []).length ≠ 0 by omega), Bool.true_and]
        refine Ev.step (fun k => ?_) (impl_Know_at l [] hb hx)
        show impl_KnowOk.j0 (k + 1) l false = _
        rw [impl_KnowOk.j0, if_neg (by simp)]
        rfl
theorem spec_Know_ev (l : List (List Int)) (hb : l.length ≤ 4611686018427387904) (hx : ∀ x ∈ l, x.length ≤ 1048576) : Ev (fun k => spec_KnowOk.f k l) (knowB l) := by
  have hj : Ev (fun k => spec_KnowOk.j0 k l true) false := Ev.at_ 1 (fun k hk => by obtain ⟨m, rfl⟩ := Nat.exists_eq_add_of_le' hk; rfl)
  unfold spec_KnowOk.f knowB
  simp only [l01In_eq, Option.bind_some]
  by_cases h1 : 1 ≤ (l.length : Int) ∧ (l.length : Int) ≤ 3000
  · simp only [decide_eq_true h1, if_true, if_pos (show 0 < (l.length : Int) by omega), Bool.true_and, rd_head]
    by_cases h3 : (l.getD 0 []).length = 0
    · have e : (((l.getD 0 []).length : Int) == 0) = true := beq_iff_eq.mpr (by omega)
      simp only [e, decide_eq_false (show ¬ (l.getD 0 []).length ≠ 0 by omega), Bool.false_and]
      exact hj
    · have e : (((l.getD 0 []).length : Int) == 0) = false := beq_eq_false_iff_ne.mpr (by omega)
      simp only [e, decide_eq_true (show (l.getD 0 []).length ≠ 0 by omega), Bool.true_and]
      refine Ev.step (fun k => ?_) (spec_Know_at l [] hb hx)
      show spec_KnowOk.j0 (k + 1) l false = _
      rw [spec_KnowOk.j0, if_neg (by simp)]
      rfl
  · simp only [decide_eq_false h1, Bool.false_eq_true, if_false, Bool.false_and]
    exact hj
end Go.Proofs.Ytdnedgkanglgjaa.F
/- KnowOk: both checks answer the same. -/
namespace Go.Proofs.Ytdnedgkanglgjaa.Pure
open Go.RowKit Go.Proofs.Ytdnedgkanglgjaa.F Go.Proofs.YtdnedgkanglgjaaW.PrintWords Go.Proofs.YtdnedgkanglgjaaW.PrintLast Go.Proofs.YtdnedgkanglgjaaW.PrintMore
set_option linter.unusedVariables false
set_option linter.unusedSimpArgs false
theorem FnExactKnowOk : laws_FnExactKnowOk.Pure := by
  intro l hq
  obtain ⟨h1, h2, h3⟩ := hq
  obtain ⟨r, hsz, hr⟩ := szIntSS_ev l 1048576 (by omega) (by omega) (by omega) (fun x hx => by have := h3 x hx; omega)
  have main2 : Ev (fun k => laws_FnExactKnowOk.f k l) true := by
    unfold laws_FnExactKnowOk.f
    refine Ev.bind hsz ?_
    by_cases c : r < 0
    · simp only [if_pos c]
      exact Ev.now _
    · have hb := hr.resolve_left c
      have hx : ∀ x ∈ l, x.length ≤ 1048576 := fun x hx => by have := total_mem l x hx; omega
      have hs := spec_Know_ev l (by omega) hx
      have hi := impl_Know_ev l (by omega) (fun x hx' => ⟨hx x hx', fun y hy => (wf64 ((h3 x hx').2.2 y hy)).1⟩)
      have ht := toIntSS_ev l (by omega) (fun x hx' => by have := hx x hx'; omega)
      have he := eqIntSS_same l (by omega) (fun x hx' => by have := hx x hx'; omega)
      simp only [if_neg c]
      repeat' first
        | exact Ev.now _
        | with_reducible refine Ev.bind hs ?_
        | with_reducible refine Ev.bind hi ?_
        | with_reducible refine Ev.bind ht ?_
        | with_reducible refine Ev.bind he ?_
        | simp only [if_true, if_false, Bool.not_true, bne_self_eq_false, Bool.false_eq_true, neg1, neg2, neg3]
  exact main2.imp fun K hK => hK K (Nat.le_refl _)
end Go.Proofs.Ytdnedgkanglgjaa.Pure
