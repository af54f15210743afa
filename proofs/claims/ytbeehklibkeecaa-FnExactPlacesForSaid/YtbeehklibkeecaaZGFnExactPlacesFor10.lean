import Derived.Test.YtbeehklibkeecaaZGFnExactPlacesFor5
import Derived.Test.YtbeehklibkeecaaZGFnExactPlacesFor9
import Derived.Test.YtbeehklibkeecaaZGFnExactPlacesFor4
import Derived.Test.YtbeehklibkeecaaZGFnExactPlacesFor7
import Derived.Test.YtbeehklibkeecaaZGFnExactPlacesFor6
import Derived.Test.YtbeehklibkeecaaZGFnExactPlacesFor8
section
/- PlacesFor: the reference's search. -/
namespace Go.Proofs.Ytbeehklibkeecaa.F
open Go.RowKit Go.Proofs.YtbeehklibkeecaaW.PrintWords Go.Proofs.YtbeehklibkeecaaW.PrintLast Go.Proofs.YtbeehklibkeecaaW.PrintMore
set_option linter.unusedVariables false
set_option linter.unusedSimpArgs false
section
variable (n p go : Int) (st : Int → Int → Int)
theorem pf_l1 (c : Int) (hc : c = p) (hc1 : c ≤ 1000) (x : Int) (wy : List Int) (pre : List (Int × List Int)) (hb : pre.length < 1000) (hs : ∀ ch, 0 ≤ ch → ch < c → Ev (fun k => spec_IndexAfter.f k n p x ch) (st x ch)) (r : List Int × Bool) (d : Nat) : ∀ (a : Int) (tl v : List (Int × List Int)), 0 ≤ a → a + d = c → tl.length < 200 → addC st n x wy (seqFrom a d) (pre ++ (x, wy) :: tl) = some v →
    Ev (fun k => spec_PlacesFor.l0 k n p go (v.map Prod.snd) (v.map Prod.fst) (wrap64 ((pre.length : Int) + 1))) r → Ev (fun k => spec_PlacesFor.l1 k n p go ((pre ++ (x, wy) :: tl).map Prod.snd) ((pre ++ (x, wy) :: tl).map Prod.fst) (pre.length : Int) a) r := by
  induction d with
  | zero =>
    intro a tl v ha hd htl hv h
    obtain rfl := Option.some.inj hv
    refine Ev.step (fun k => ?_) h
    show spec_PlacesFor.l1 (k + 1) n p go _ _ _ _ = _
    rw [spec_PlacesFor.l1, if_neg (by omega)]
  | succ d ih =>
    intro a tl v ha hd htl hv h
    have w : wrap64 (a + 1) = a + 1 := w64_id (by omega) (by omega)
    have e1 : (pre ++ (x, wy) :: tl).map Prod.fst = pre.map Prod.fst ++ x :: tl.map Prod.fst := by simp
    have e2 : (pre ++ (x, wy) :: tl).map Prod.snd = pre.map Prod.snd ++ wy :: tl.map Prod.snd := by simp
    have l1 : ((pre.length : Nat) : Int) = ((pre.map Prod.fst).length : Int) := by simp
    have l2 : ((pre.length : Nat) : Int) = ((pre.map Prod.snd).length : Int) := by simp
    have r1 : rd ((pre ++ (x, wy) :: tl).map Prod.fst) (pre.length : Int) = x := by rw [e1, l1, mid_rd]
    have r2 : rd_L1 ((pre ++ (x, wy) :: tl).map Prod.snd) (pre.length : Int) = wy := by rw [e2, l2, mid_rdLM]
    have q1 : (pre.length : Int) < (((pre ++ (x, wy) :: tl).map Prod.fst).length : Int) := by rw [e1, l1]; exact mid_lt _ _ _
    have q2 : (pre.length : Int) < (((pre ++ (x, wy) :: tl).map Prod.snd).length : Int) := by rw [e2, l2]; exact mid_lt _ _ _
    have b1 : ((pre ++ (x, wy) :: tl).map Prod.fst).length < 17592186044416 := by simp; omega
    have b2 : ((pre ++ (x, wy) :: tl).map Prod.snd).length < 5864062014805 := by simp; omega
    simp only [seqFrom, addC] at hv
    split at hv
    · rename_i hy
      refine Ev.stepb (hs a ha (by omega)) (fun k => by rw [spec_PlacesFor.l1, if_pos (by omega), if_pos (nn _), if_pos q1, r1]) ?_
      refine Ev.bind (l02Has_ev ((pre ++ (x, wy) :: tl).map Prod.fst) (st x a) (by omega)) ?_
      rw [← any_has]
      split at hv
      · rename_i hm
        rw [hm]
        simp only [if_true]
        have h2 := ih (a + 1) tl v (by omega) (by omega) htl hv h
        rw [w]
        exact h2
      · rename_i hm
        rw [Bool.eq_false_iff.mpr hm]
        simp only [Bool.false_eq_true, if_false, if_pos b1, Option.bind_some, if_pos q2, r2, List.nil_append, List.length_nil, Nat.zero_add]
        split at hv
        · rename_i hl
          have hw : wy.length < 17592186044416 := by omega
          simp only [if_pos hw, if_pos b2]
          rw [List.append_assoc, List.cons_append] at hv
          have h2 := ih (a + 1) (tl ++ [(st x a, wy ++ [a])]) v (by omega) (by omega) (by simp at hl ⊢; omega) hv h
          rw [w]
          rw [show ((pre ++ (x, wy) :: tl).map Prod.snd) ++ [wy ++ [a]] = (pre ++ (x, wy) :: (tl ++ [(st x a, wy ++ [a])])).map Prod.snd by simp, show ((pre ++ (x, wy) :: tl).map Prod.fst) ++ [st x a] = (pre ++ (x, wy) :: (tl ++ [(st x a, wy ++ [a])])).map Prod.fst by simp]
          exact h2
        · cases hv
    · cases hv
theorem pf_l0 (c : Int) (hc : c = p) (hc0 : 0 ≤ c) (hc1 : c ≤ 1000) (hs : ∀ x ch, 0 ≤ x → x < n → 0 ≤ ch → ch < c → Ev (fun k => spec_IndexAfter.f k n p x ch) (st x ch)) (m : Nat) : ∀ (pre rest : List (Int × List Int)) (r : List Int × Bool), rest.length < 200 → bfs st n go (seqFrom 0 c.toNat) m (pre ++ rest) pre.length = some r → Ev (fun k => spec_PlacesFor.l0 k n p go ((pre ++ rest).map Prod.snd) ((pre ++ rest).map Prod.fst) (pre.length : Int)) r := by
  induction m with
  | zero => intro pre rest r _ h; simp [bfs] at h
  | succ m ih =>
    intro pre rest r hrl h
    unfold bfs at h
    rw [List.drop_left] at h
    cases rest with
    | nil =>
      obtain rfl := Option.some.inj h
      refine Ev.step (f := fun _ => some ([], false)) (fun k => ?_) (Ev.now _)
      show spec_PlacesFor.l0 (k + 1) n p go _ _ _ = _
      rw [spec_PlacesFor.l0, if_neg (by simp)]
    | cons p tl =>
      obtain ⟨x, wy⟩ := p
      have e1 : (pre ++ (x, wy) :: tl).map Prod.fst = pre.map Prod.fst ++ x :: tl.map Prod.fst := by simp
      have e2 : (pre ++ (x, wy) :: tl).map Prod.snd = pre.map Prod.snd ++ wy :: tl.map Prod.snd := by simp
      have l1 : ((pre.length : Nat) : Int) = ((pre.map Prod.fst).length : Int) := by simp
      have l2 : ((pre.length : Nat) : Int) = ((pre.map Prod.snd).length : Int) := by simp
      have r1 : rd ((pre ++ (x, wy) :: tl).map Prod.fst) (pre.length : Int) = x := by rw [e1, l1, mid_rd]
      have r2 : rd_L1 ((pre ++ (x, wy) :: tl).map Prod.snd) (pre.length : Int) = wy := by rw [e2, l2, mid_rdLM]
      have q1 : (pre.length : Int) < (((pre ++ (x, wy) :: tl).map Prod.fst).length : Int) := by rw [e1, l1]; exact mid_lt _ _ _
      have q2 : (pre.length : Int) < (((pre ++ (x, wy) :: tl).map Prod.snd).length : Int) := by rw [e2, l2]; exact mid_lt _ _ _
      simp only at h
      split at h
      · rename_i hx
        split at h
        · rename_i hl
          obtain rfl := Option.some.inj h
          refine Ev.step (f := fun _ => some (wy, true)) (fun k => ?_) (Ev.now _)
          show spec_PlacesFor.l0 (k + 1) n p go _ _ _ = _
          rw [spec_PlacesFor.l0, if_pos q1, if_pos (nn _), r1, if_pos hx, Option.bind_some, if_pos q2, r2, if_pos (by simp; omega)]
          rfl
        · cases h
      · rename_i hx
        split at h
        · rename_i hr
          obtain ⟨v, hv, h⟩ := Option.bind_eq_some_iff.mp h
          obtain ⟨rest', rfl⟩ := addC_drop (seqFrom 0 c.toNat) (pre ++ [(x, wy)]) tl v (by simpa using hv)
          have hlen : rest'.length < 200 := by
            have := addC_len (seqFrom 0 c.toNat) _ _ hv (by simp at hrl ⊢; omega)
            simp only [List.length_append, List.length_cons, List.length_nil] at this hrl
            omega
          have h3 := ih (pre ++ [(x, wy)]) rest' r hlen (by simpa using h)
          refine Ev.step (fun k => ?_) (pf_l1 n p go st c hc hc1 x wy pre (by omega) (fun ch => hs x ch hr.1 hr.2.1) r c.toNat 0 tl _ (by omega) (by omega) (by simp at hrl; omega) hv (by rw [w64_nat pre.length (by omega)]; simpa using h3))
          show spec_PlacesFor.l0 (k + 1) n p go _ _ _ = _
          rw [spec_PlacesFor.l0, if_pos q1, if_pos (nn _), r1, if_neg hx]
        · cases h
end
end Go.Proofs.Ytbeehklibkeecaa.F
end
section
/- When a list is a packet, by its cards. -/
namespace Go.Proofs.Ytbeehklibkeecaa.F
open Go.RowKit Go.Proofs.YtbeehklibkeecaaW.PrintWords Go.Proofs.YtbeehklibkeecaaW.PrintLast Go.Proofs.YtbeehklibkeecaaW.PrintMore
set_option linter.unusedVariables false
set_option linter.unusedSimpArgs false
theorem packetM_back (xs : List Int) : ∀ met : List Bool, met.length = 12 → (∀ x ∈ xs, 0 ≤ cardOf x ∧ met.getD (cardOf x).toNat false = false) → (xs.map cardOf).Nodup → packetM met xs = true := by
  induction xs with
  | nil => intro met hm h hn; rfl
  | cons x xs ih =>
    intro met hm h hn
    have hx := h x (by simp)
    rw [List.map_cons, List.nodup_cons] at hn
    have hlt := cardOf_lt x
    unfold packetM
    rw [if_neg (by omega), hx.2, if_neg (by simp)]
    refine ih _ (by rw [List.length_set]; exact hm) (fun y hy => ?_) hn.2
    have hyy := h y (by simp [hy])
    refine ⟨hyy.1, ?_⟩
    rw [set_getD met _ _ (by omega), hyy.2, Bool.or_false]
    refine decide_eq_false (fun e => hn.1 ?_)
    have : cardOf y = cardOf x := by omega
    rw [← this]
    exact List.mem_map.mpr ⟨y, hy, rfl⟩
theorem packetM_nd (xs : List Int) : ∀ met : List Bool, met.length = 12 → packetM met xs = true → (∀ x ∈ xs, 0 ≤ cardOf x ∧ met.getD (cardOf x).toNat false = false) ∧ (xs.map cardOf).Nodup := by
  induction xs with
  | nil => intro met hm h; exact ⟨by simp, by simp⟩
  | cons x xs ih =>
    intro met hm h
    have hlt := cardOf_lt x
    unfold packetM at h
    by_cases c : cardOf x < 0
    · rw [if_pos c] at h; exact absurd h (by simp)
    · rw [if_neg c] at h
      by_cases d : met.getD (cardOf x).toNat false = true
      · rw [if_pos d] at h; exact absurd h (by simp)
      · rw [if_neg d] at h
        obtain ⟨h1, h2⟩ := ih _ (by rw [List.length_set]; exact hm) h
        have d' : met.getD (cardOf x).toNat false = false := by simpa using d
        refine ⟨fun y hy => ?_, ?_⟩
        · rcases List.mem_cons.mp hy with rfl | hy
          · exact ⟨by omega, d'⟩
          · have := h1 y hy
            rw [set_getD met _ _ (by omega), Bool.or_eq_false_iff] at this
            exact ⟨this.1, this.2.2⟩
        · rw [List.map_cons, List.nodup_cons]
          refine ⟨fun hm2 => ?_, h2⟩
          obtain ⟨y, hy, e⟩ := List.mem_map.mp hm2
          have := h1 y hy
          rw [set_getD met _ _ (by omega), Bool.or_eq_false_iff] at this
          have h3 := of_decide_eq_false this.2.1
          exact h3 (by rw [e])
theorem packetB_iff (l : List Int) : packetB l = true ↔ (∀ x ∈ l, 0 ≤ cardOf x) ∧ (l.map cardOf).Nodup := by
  constructor
  · intro h
    obtain ⟨h1, h2⟩ := packetM_nd l _ (by simp) h
    exact ⟨fun x hx => (h1 x hx).1, h2⟩
  · rintro ⟨h1, h2⟩
    refine packetM_back l _ (by simp) (fun x hx => ⟨h1 x hx, ?_⟩) h2
    generalize (cardOf x).toNat = i
    rw [List.getD_eq_getElem?_getD, List.getElem?_replicate]
    split <;> rfl
theorem packetB_perm {p q : List Int} (h : (q.map cardOf).Perm (p.map cardOf)) (hp : packetB p = true) : packetB q = true := by
  obtain ⟨h1, h2⟩ := (packetB_iff p).mp hp
  refine (packetB_iff q).mpr ⟨fun x hx => ?_, h.nodup_iff.mpr h2⟩
  have : cardOf x ∈ p.map cardOf := h.mem_iff.mp (List.mem_map.mpr ⟨x, hx, rfl⟩)
  obtain ⟨y, hy, e⟩ := List.mem_map.mp this
  rw [← e]
  exact h1 y hy
end Go.Proofs.Ytbeehklibkeecaa.F
end
section
/- Piles by their indices: what a round does is natural in the packet. -/
namespace Go.Proofs.Ytbeehklibkeecaa.F
open Go.RowKit Go.Proofs.YtbeehklibkeecaaW.PrintWords Go.Proofs.YtbeehklibkeecaaW.PrintLast Go.Proofs.YtbeehklibkeecaaW.PrintMore
set_option linter.unusedVariables false
set_option linter.unusedSimpArgs false
def pilesN (n q : Nat) : List (List Nat) := (List.range q).map fun j => ((List.range n).filter fun i => i % q == j).reverse
def idxN (a : Nat) : List (List Nat) → Int → Int
  | [], _ => -1
  | x :: xs, i => if x.contains a then i else idxN a xs (i + 1)
def outN (q s a pl : Nat) : List Nat := (ordAt (pilesN (q * s) q) (a % q) pl).flatten
def chkN (q s a pl : Nat) : Bool := (idxN a (pilesN (q * s) q) 0 == ((a % q : Nat) : Int)) && ((outN q s a pl).isPerm (List.range (q * s)) && (decide (pl * s + s - 1 - a / q < q * s) && (((outN q s a pl).getD (pl * s + s - 1 - a / q) 0 == a) && (idxFrom (fun y => y == (a : Int)) ((outN q s a pl).map fun i : Nat => (i : Int)) 0 == ((pl * s + s - 1 - a / q : Nat) : Int)))))
def chkAll : Bool := (List.range 5).all fun q => (List.range 7).all fun s => (!(decide (2 ≤ q) && (decide (1 ≤ s) && decide (q * s ≤ 12)))) || (List.range (q * s)).all fun a => (List.range q).all fun pl => chkN q s a pl
theorem chkAll_true : chkAll = true := by decide +kernel
theorem chkN_true (q s a pl : Nat) (h1 : 2 ≤ q) (h2 : q ≤ 4) (h3 : 1 ≤ s) (h4 : q * s ≤ 12) (h5 : a < q * s) (h6 : pl < q) : chkN q s a pl = true := by
  have h := chkAll_true
  unfold chkAll at h
  rw [List.all_eq_true] at h
  have hs : s ≤ 6 := by
    rcases (show q = 2 ∨ q = 3 ∨ q = 4 by omega) with rfl | rfl | rfl <;> omega
  have h7 := h q (List.mem_range.2 (by omega))
  rw [List.all_eq_true] at h7
  have h8 := h7 s (List.mem_range.2 (by omega))
  rw [decide_eq_true h1, decide_eq_true h3, decide_eq_true h4] at h8
  simp only [Bool.and_self, Bool.not_true, Bool.false_or] at h8
  rw [List.all_eq_true] at h8
  have h9 := h8 a (List.mem_range.2 h5)
  rw [List.all_eq_true] at h9
  exact h9 pl (List.mem_range.2 h6)
theorem dealtN (q s : Nat) (p : List Int) (h1 : 2 ≤ q) (h2 : q ≤ 4) (h3 : 1 ≤ s) (h4 : q * s ≤ 12) (hl : p.length = q * s) : dealtR p (q : Int) ((pilesN (q * s) q).map fun I => I.map fun i => p.getD i 0) := by
  rcases (show q = 2 ∨ q = 3 ∨ q = 4 by omega) with rfl | rfl | rfl
  · rcases (show s = 1 ∨ s = 2 ∨ s = 3 ∨ s = 4 ∨ s = 5 ∨ s = 6 by omega) with rfl | rfl | rfl | rfl | rfl | rfl
    · obtain ⟨x0, x1, rfl⟩ := len_2 p hl
      exact deal_2_2 x0 x1
    · obtain ⟨x0, x1, x2, x3, rfl⟩ := len_4 p hl
      exact deal_4_2 x0 x1 x2 x3
    · obtain ⟨x0, x1, x2, x3, x4, x5, rfl⟩ := len_6 p hl
      exact deal_6_2 x0 x1 x2 x3 x4 x5
    · obtain ⟨x0, x1, x2, x3, x4, x5, x6, x7, rfl⟩ := len_8 p hl
      exact deal_8_2 x0 x1 x2 x3 x4 x5 x6 x7
    · obtain ⟨x0, x1, x2, x3, x4, x5, x6, x7, x8, x9, rfl⟩ := len_10 p hl
      exact deal_10_2 x0 x1 x2 x3 x4 x5 x6 x7 x8 x9
    · obtain ⟨x0, x1, x2, x3, x4, x5, x6, x7, x8, x9, x10, x11, rfl⟩ := len_12 p hl
      exact deal_12_2 x0 x1 x2 x3 x4 x5 x6 x7 x8 x9 x10 x11
  · rcases (show s = 1 ∨ s = 2 ∨ s = 3 ∨ s = 4 by omega) with rfl | rfl | rfl | rfl
    · obtain ⟨x0, x1, x2, rfl⟩ := len_3 p hl
      exact deal_3_3 x0 x1 x2
    · obtain ⟨x0, x1, x2, x3, x4, x5, rfl⟩ := len_6 p hl
      exact deal_6_3 x0 x1 x2 x3 x4 x5
    · obtain ⟨x0, x1, x2, x3, x4, x5, x6, x7, x8, rfl⟩ := len_9 p hl
      exact deal_9_3 x0 x1 x2 x3 x4 x5 x6 x7 x8
    · obtain ⟨x0, x1, x2, x3, x4, x5, x6, x7, x8, x9, x10, x11, rfl⟩ := len_12 p hl
      exact deal_12_3 x0 x1 x2 x3 x4 x5 x6 x7 x8 x9 x10 x11
  · rcases (show s = 1 ∨ s = 2 ∨ s = 3 by omega) with rfl | rfl | rfl
    · obtain ⟨x0, x1, x2, x3, rfl⟩ := len_4 p hl
      exact deal_4_4 x0 x1 x2 x3
    · obtain ⟨x0, x1, x2, x3, x4, x5, x6, x7, rfl⟩ := len_8 p hl
      exact deal_8_4 x0 x1 x2 x3 x4 x5 x6 x7
    · obtain ⟨x0, x1, x2, x3, x4, x5, x6, x7, x8, x9, x10, x11, rfl⟩ := len_12 p hl
      exact deal_12_4 x0 x1 x2 x3 x4 x5 x6 x7 x8 x9 x10 x11
/-- A packet of the cards 0 to n - 1, and its places. -/
structure PlainP (p : List Int) (n : Nat) : Prop where
  len : p.length = n
  rng : ∀ i, i < n → 0 ≤ p.getD i 0 ∧ p.getD i 0 < 12
  inj : ∀ i j, i < n → j < n → p.getD i 0 = p.getD j 0 → i = j
theorem plain_list {p : List Int} {n : Nat} (h : PlainP p n) : p = (List.range n).map fun i => p.getD i 0 := by
  apply List.ext_getElem
  · simp [h.len]
  · intro i h1 h2
    simp [h1]
theorem has_iff {p : List Int} {n : Nat} (h : PlainP p n) (I : List Nat) (hI : ∀ i ∈ I, i < n) (a : Nat) (ha : a < n) : pileHas (p.getD a 0) (I.map fun i => p.getD i 0) = I.contains a := by
  have hq : ∀ x ∈ I.map (fun i => p.getD i 0), -9223372036854775808 ≤ x := fun x hx => by
    obtain ⟨i, hi, rfl⟩ := List.mem_map.1 hx
    have := h.rng i (hI i hi); omega
  rw [pileHas_eq _ _ hq]
  unfold posB
  rw [if_neg (by have := h.rng a ha; omega)]
  have h2 := idx_lt (p.getD a 0) (I.map fun i => p.getD i 0) 0 (by omega)
  have h3 : hasCard (I.map fun i => p.getD i 0) (p.getD a 0) = I.contains a := by
    unfold hasCard
    rw [List.any_map, Bool.eq_iff_iff, List.any_eq_true, List.contains_iff_mem]
    constructor
    · rintro ⟨i, hi, e⟩
      have e2 : cardOf (p.getD i 0) = p.getD a 0 := by simpa using e
      rw [cardOf_self _ (h.rng i (hI i hi)).1 (h.rng i (hI i hi)).2] at e2
      rw [← h.inj i a (hI i hi) ha e2]; exact hi
    · intro ha2
      exact ⟨a, ha2, beq_iff_eq.2 (cardOf_self _ (h.rng a ha).1 (h.rng a ha).2)⟩
  rw [← h3]
  by_cases c : idxFrom (fun x => cardOf x == p.getD a 0) (I.map fun i => p.getD i 0) 0 < 0
  · rw [decide_eq_true c] at h2
    rw [decide_eq_false (by omega)]
    cases hh : hasCard (I.map fun i => p.getD i 0) (p.getD a 0) <;> simp_all
  · rw [decide_eq_false c] at h2
    rw [decide_eq_true (by omega)]
    cases hh : hasCard (I.map fun i => p.getD i 0) (p.getD a 0) <;> simp_all
theorem idx_nat {p : List Int} {n : Nat} (h : PlainP p n) (a : Nat) (ha : a < n) (L : List (List Nat)) : ∀ i : Int, (∀ I ∈ L, ∀ j ∈ I, j < n) → idxFromL (pileHas (p.getD a 0)) (L.map fun I => I.map fun i => p.getD i 0) i = idxN a L i := by
  induction L with
  | nil => intro i _; rfl
  | cons I L ih =>
    intro i hL
    rw [List.map_cons]
    unfold idxFromL idxN
    rw [has_iff h I (hL I List.mem_cons_self) a ha, ih (i + 1) (fun J hJ => hL J (List.mem_cons_of_mem _ hJ))]
theorem pilesN_lt (n q : Nat) : ∀ I ∈ pilesN n q, ∀ j ∈ I, j < n := by
  intro I hI j hj
  unfold pilesN at hI
  obtain ⟨i, _, rfl⟩ := List.mem_map.1 hI
  rw [List.mem_reverse, List.mem_filter] at hj
  exact List.mem_range.1 hj.1
theorem flat_map (f : Nat → Int) (L : List (List Nat)) : (L.map fun I => I.map f).flatten = L.flatten.map f := by
  rw [List.map_flatten]
theorem pilesN_len (n q : Nat) : (pilesN n q).length = q := by unfold pilesN; simp
/-- One round, by indices. -/
theorem round_nat {p : List Int} {q s : Nat} (h : PlainP p (q * s)) (h1 : 2 ≤ q) (h2 : q ≤ 4) (h3 : 1 ≤ s) (h4 : q * s ≤ 12) (a pl : Nat) (ha : a < q * s) (hp : pl < q) :
    packetB p = true ∧ Ev (fun k => impl_PilesOf.f k p (q : Int)) ((pilesN (q * s) q).map fun I => I.map fun i => p.getD i 0) ∧
    Ev (fun k => impl_GatherPiles.f k ((pilesN (q * s) q).map fun I => I.map fun i => p.getD i 0) ((a % q : Nat) : Int) (pl : Int)) ((outN q s a pl).map fun i => p.getD i 0, true) ∧
    Ev (fun k => impl_PileRound.f k p (q : Int) (p.getD a 0) (pl : Int)) ((outN q s a pl).map fun i => p.getD i 0, true) ∧ packetB ((outN q s a pl).map fun i => p.getD i 0) = true ∧ ((outN q s a pl).map fun i => p.getD i 0).Perm p := by
  have hc := chkN_true q s a pl h1 h2 h3 h4 ha hp
  unfold chkN at hc
  simp only [Bool.and_eq_true, beq_iff_eq, decide_eq_true_eq] at hc
  obtain ⟨hidx, hperm, _⟩ := hc
  have hpm : (outN q s a pl).Perm (List.range (q * s)) := List.isPerm_iff.1 hperm
  have hdl := dealtN q s p h1 h2 h3 h4 h.len
  obtain ⟨d1, d2, d3, d4, d5⟩ := hdl
  have hpp : ((outN q s a pl).map fun i => p.getD i 0).Perm p := by
    have e := plain_list h
    have := hpm.map fun i => p.getD i 0
    rw [← e] at this
    exact this
  have hw : ∀ x ∈ p, 0 ≤ x ∧ x < 12 := fun x hx => by
    rw [plain_list h] at hx
    obtain ⟨i, hi, rfl⟩ := List.mem_map.1 hx
    exact h.rng i (List.mem_range.1 hi)
  have hpk : packetB p = true := by
    rw [packetB_iff]
    refine ⟨fun x hx => by rw [cardOf_self x (hw x hx).1 (hw x hx).2]; exact (hw x hx).1, ?_⟩
    have e1 : p.map cardOf = p := by
      conv => rhs; rw [← List.map_id p]
      exact List.map_congr_left (fun x hx => cardOf_self x (hw x hx).1 (hw x hx).2)
    rw [e1, plain_list h]
    rw [List.nodup_iff_pairwise_ne, List.pairwise_map]
    refine List.Pairwise.imp_of_mem ?_ (List.nodup_iff_pairwise_ne.1 (List.nodup_range (n := q * s)))
    intro i j hi hj hne e
    exact hne (h.inj i j (List.mem_range.1 hi) (List.mem_range.1 hj) e)
  have hpk2 : packetB ((outN q s a pl).map fun i => p.getD i 0) = true := packetB_perm (hpp.map _) hpk
  have hpb : pilesB (p.length : Int) (q : Int) = true := by
    rw [pilesB_iff, h.len]
    refine ⟨⟨by omega, by omega, ?_, by omega⟩, ?_⟩
    · have : q * 1 ≤ q * s := Nat.mul_le_mul_left q h3
      omega
    · rw [← Int.ofNat_tmod, Nat.mul_mod_right]; rfl
  have E1 : Ev (fun k => impl_PilesOf.f k p (q : Int)) ((pilesN (q * s) q).map fun I => I.map fun i => p.getD i 0) := by
    unfold impl_PilesOf.f
    refine Ev.bind (impl_PacketOk_ev p (by have := h.len; omega) (fun x hx => by have := hw x hx; omega)) ?_
    simp only [hpk, if_true, impl_PilesOk_eq, hpb, Option.bind_some, Bool.not_true]
    exact Ev.at_ 60 (fun k hk => by obtain ⟨m, rfl⟩ := Nat.exists_eq_add_of_le' hk; exact d2 m)
  have eB : gatherB ((pilesN (q * s) q).map fun I => I.map fun i => p.getD i 0) ((a % q : Nat) : Int) (pl : Int) = ((outN q s a pl).map fun i => p.getD i 0, true) := by
    unfold gatherB
    have hmod : a % q < q := Nat.mod_lt _ (by omega)
    rw [if_pos (by rw [List.length_map, pilesN_len]; omega), Int.toNat_natCast, Int.toNat_natCast, ordAt_map, flat_map]
    exact if_pos hpk2
  have hmem : ∀ x ∈ (pilesN (q * s) q).map (fun I => I.map fun i => p.getD i 0), ∀ y ∈ x, -9223372036854775808 ≤ y := fun x hx y hy => by
    obtain ⟨I, hI, rfl⟩ := List.mem_map.1 hx
    obtain ⟨i, hi, rfl⟩ := List.mem_map.1 hy
    have := h.rng i (pilesN_lt _ _ I hI i hi); omega
  have E2 := impl_gather_ev ((pilesN (q * s) q).map fun I => I.map fun i => p.getD i 0) ((a % q : Nat) : Int) (pl : Int) (fun x hx => by have := d4 x hx; omega) hmem
  rw [eB] at E2
  have hix : idxFromL (pileHas (p.getD a 0)) ((pilesN (q * s) q).map fun I => I.map fun i => p.getD i 0) 0 = ((a % q : Nat) : Int) := by
    rw [idx_nat h a ha _ 0 (pilesN_lt _ _)]; exact hidx
  refine ⟨hpk, E1, E2, ?_, hpk2, hpp⟩
  unfold impl_PileRound.f
  refine Ev.bind E1 ?_
  rw [hix]
  simp only [if_neg (show ¬ (((a % q : Nat) : Int) < 0) by omega)]
  exact E2
end Go.Proofs.Ytbeehklibkeecaa.F
end
section
/- Where the card at a place goes in a round: the formula, for both functions. -/
namespace Go.Proofs.Ytbeehklibkeecaa.F
open Go.RowKit Go.Proofs.YtbeehklibkeecaaW.PrintWords Go.Proofs.YtbeehklibkeecaaW.PrintLast Go.Proofs.YtbeehklibkeecaaW.PrintMore
set_option linter.unusedVariables false
set_option linter.unusedSimpArgs false
theorem plain_seq (n : Nat) (hn : n ≤ 12) : PlainP (seqFrom 0 n) n ∧ ∀ i, i < n → (seqFrom 0 n).getD i 0 = (i : Int) := by
  have h : ∀ (m : Nat) (a : Int) (i : Nat), i < m → (seqFrom a m).getD i 0 = a + i := by
    intro m
    induction m with
    | zero => intro a i hi; omega
    | succ m ih =>
      intro a i hi
      cases i with
      | zero => simp [seqFrom]
      | succ i =>
        have := ih (a + 1) i (by omega)
        simp only [seqFrom, List.getD_cons_succ, this]
        omega
  have h2 : ∀ i, i < n → (seqFrom 0 n).getD i 0 = (i : Int) := fun i hi => by rw [h n 0 i hi]; omega
  refine ⟨⟨seqFrom_length n 0, fun i hi => by rw [h2 i hi]; omega, fun i j hi hj e => by rw [h2 i hi, h2 j hj] at e; omega⟩, h2⟩
theorem indexAfter_nat (q s a pl : Nat) (h1 : 2 ≤ q) (h2 : q ≤ 4) (h3 : 1 ≤ s) (h4 : q * s ≤ 12) (ha : a < q * s) (hp : pl < q) :
    Ev (fun k => impl_IndexAfter.f k ((q * s : Nat) : Int) (q : Int) (a : Int) (pl : Int)) ((pl * s + s - 1 - a / q : Nat) : Int) := by
  obtain ⟨hP, hid⟩ := plain_seq (q * s) h4
  obtain ⟨_, _, _, E, _, _⟩ := round_nat hP h1 h2 h3 h4 a pl ha hp
  rw [hid a ha] at E
  have hc := chkN_true q s a pl h1 h2 h3 h4 ha hp
  unfold chkN at hc
  simp only [Bool.and_eq_true, beq_iff_eq, decide_eq_true_eq] at hc
  obtain ⟨_, hperm, _, _, hfin⟩ := hc
  have hpm : (outN q s a pl).Perm (List.range (q * s)) := List.isPerm_iff.1 hperm
  have hmap : (outN q s a pl).map (fun i => (seqFrom 0 (q * s)).getD i 0) = (outN q s a pl).map fun i : Nat => (i : Int) := List.map_congr_left (fun i hi => hid i (List.mem_range.1 (hpm.mem_iff.1 hi)))
  rw [hmap] at E
  have hlen : (outN q s a pl).length = q * s := by rw [hpm.length_eq, List.length_range]
  have hpb : pilesB ((q * s : Nat) : Int) (q : Int) = true := by
    rw [pilesB_iff]
    refine ⟨⟨by omega, by omega, ?_, by omega⟩, ?_⟩
    · have : q * 1 ≤ q * s := Nat.mul_le_mul_left q h3
      omega
    · rw [← Int.ofNat_tmod, Nat.mul_mod_right]; rfl
  obtain ⟨u1, _⟩ := upTo_ev ((q * s : Nat) : Int) (by omega) (by omega)
  rw [Int.toNat_natCast] at u1
  unfold impl_IndexAfter.f
  simp only [impl_PilesOk_eq, hpb, Option.bind_some, if_true]
  simp only [if_neg (show ¬ ((a : Int) < 0) by omega), decide_eq_false (show ¬ ((a : Int) ≥ ((q * s : Nat) : Int)) by omega)]
  refine Ev.step (fun k => by rw [impl_IndexAfter.j0, if_neg (by decide)]) ?_
  refine Ev.bind u1 (Ev.bind E ?_)
  simp only [if_true]
  rw [← hfin]
  exact Ev.bind (index_idx (a : Int) ((outN q s a pl).map fun i : Nat => (i : Int)) [] (by simp; omega)) (Ev.now _)
theorem ia_both (q s a pl : Nat) (h1 : 2 ≤ q) (h2 : q ≤ 4) (h3 : 1 ≤ s) (h4 : q * s ≤ 12) (ha : a < q * s) (hp : pl < q) :
    Ev (fun k => impl_IndexAfter.f k ((q * s : Nat) : Int) (q : Int) (a : Int) (pl : Int)) ((pl * s + s - 1 - a / q : Nat) : Int) ∧ Ev (fun k => spec_IndexAfter.f k ((q * s : Nat) : Int) (q : Int) (a : Int) (pl : Int)) ((pl * s + s - 1 - a / q : Nat) : Int) := by
  have h := indexAfter_nat q s a pl h1 h2 h3 h4 ha hp
  obtain ⟨r, e1, e2⟩ := indexAfter_ex ((q * s : Nat) : Int) (q : Int) (a : Int) (pl : Int) (by omega) (by omega)
  have := Ev.uniq e2 h
  subst this
  exact ⟨h, e1⟩
theorem piles_nat {n p : Int} (h : pilesB n p = true) : ∃ q s : Nat, 2 ≤ q ∧ q ≤ 4 ∧ 1 ≤ s ∧ q * s ≤ 12 ∧ n = ((q * s : Nat) : Int) ∧ p = (q : Int) := by
  obtain ⟨⟨h1, h2, h3, h4⟩, h5⟩ := (pilesB_iff n p).1 h
  have hp : p = 2 ∨ p = 3 ∨ p = 4 := by omega
  have hn : n = 2 ∨ n = 3 ∨ n = 4 ∨ n = 5 ∨ n = 6 ∨ n = 7 ∨ n = 8 ∨ n = 9 ∨ n = 10 ∨ n = 11 ∨ n = 12 := by omega
  refine ⟨p.toNat, n.toNat / p.toNat, by omega, by omega, ?_, ?_, ?_, by omega⟩
  all_goals
    rcases hp with rfl | rfl | rfl <;> rcases hn with rfl | rfl | rfl | rfl | rfl | rfl | rfl | rfl | rfl | rfl | rfl <;> first | decide | (exact absurd h5 (by decide)) | omega
/-- The place behind a round. -/
def nxF (q s pl : Nat) (x : Int) : Int := ((pl * s + s - 1 - x.toNat / q : Nat) : Int)
theorem ia_nx (q s pl : Nat) (h1 : 2 ≤ q) (h2 : q ≤ 4) (h3 : 1 ≤ s) (h4 : q * s ≤ 12) (hp : pl < q) (x : Int) (h5 : 0 ≤ x) (h6 : x < ((q * s : Nat) : Int)) :
    Ev (fun k => impl_IndexAfter.f k ((q * s : Nat) : Int) (q : Int) x (pl : Int)) (nxF q s pl x) ∧ Ev (fun k => spec_IndexAfter.f k ((q * s : Nat) : Int) (q : Int) x (pl : Int)) (nxF q s pl x) := by
  obtain ⟨a, rfl⟩ := Int.eq_ofNat_of_zero_le h5
  have h := ia_both q s a pl h1 h2 h3 h4 (by omega) hp
  unfold nxF
  rw [Int.toNat_natCast]
  exact h
end Go.Proofs.Ytbeehklibkeecaa.F
end
section
/- PlacesFor: both functions answer the same, whatever the arguments are; and what the answer is good for. -/
namespace Go.Proofs.Ytbeehklibkeecaa.F
open Go.RowKit Go.Proofs.YtbeehklibkeecaaW.PrintWords Go.Proofs.YtbeehklibkeecaaW.PrintLast Go.Proofs.YtbeehklibkeecaaW.PrintMore
set_option linter.unusedVariables false
set_option linter.unusedSimpArgs false
def plRes (q s i t : Nat) : Option (List Int × Bool) := bfs (fun x c => nxF q s c.toNat x) ((q * s : Nat) : Int) (t : Int) (seqFrom 0 q) 20 [((i : Int), [])] 0
def plOK (q s i t : Nat) : Bool := match plRes q s i t with
  | some r => decide (r.1.length ≤ q * s) && (if r.2 = true then (r.1.foldl (fun x c => nxF q s c.toNat x) (i : Int) == (t : Int)) && r.1.all (fun c => decide (0 ≤ c ∧ c < (q : Int))) else r.1 == [])
  | none => false
def plAll : Bool := (List.range 5).all fun q => (List.range 7).all fun s => (!(decide (2 ≤ q) && (decide (1 ≤ s) && decide (q * s ≤ 12)))) || (List.range (q * s)).all fun i => (List.range (q * s)).all fun t => plOK q s i t
theorem plAll_true : plAll = true := by decide +kernel
theorem plOK_true (q s i t : Nat) (h1 : 2 ≤ q) (h2 : q ≤ 4) (h3 : 1 ≤ s) (h4 : q * s ≤ 12) (h5 : i < q * s) (h6 : t < q * s) : plOK q s i t = true := by
  have h := plAll_true
  unfold plAll at h
  rw [List.all_eq_true] at h
  have hs : s ≤ 6 := by
    rcases (show q = 2 ∨ q = 3 ∨ q = 4 by omega) with rfl | rfl | rfl <;> omega
  have h7 := h q (List.mem_range.2 (by omega))
  rw [List.all_eq_true] at h7
  have h8 := h7 s (List.mem_range.2 (by omega))
  rw [decide_eq_true h1, decide_eq_true h3, decide_eq_true h4] at h8
  simp only [Bool.and_self, Bool.not_true, Bool.false_or] at h8
  rw [List.all_eq_true] at h8
  have h9 := h8 i (List.mem_range.2 h5)
  rw [List.all_eq_true] at h9
  exact h9 t (List.mem_range.2 h6)
theorem places_in (q s i t : Nat) (h1 : 2 ≤ q) (h2 : q ≤ 4) (h3 : 1 ≤ s) (h4 : q * s ≤ 12) (h5 : i < q * s) (h6 : t < q * s) : ∃ r : List Int × Bool, Ev (fun k => spec_PlacesFor.f k ((q * s : Nat) : Int) (q : Int) (i : Int) (t : Int)) r ∧ Ev (fun k => impl_PlacesFor.f k ((q * s : Nat) : Int) (q : Int) (i : Int) (t : Int)) r ∧ r.1.length ≤ q * s ∧
    (r.2 = true → r.1.foldl (fun x c => nxF q s c.toNat x) (i : Int) = (t : Int) ∧ ∀ c ∈ r.1, 0 ≤ c ∧ c < (q : Int)) ∧ (r.2 = false → r.1 = []) := by
  have hok := plOK_true q s i t h1 h2 h3 h4 h5 h6
  unfold plOK at hok
  cases hr : plRes q s i t with
  | none => rw [hr] at hok; cases hok
  | some r =>
    rw [hr] at hok
    simp only [Bool.and_eq_true, decide_eq_true_eq] at hok
    have hpb : pilesB ((q * s : Nat) : Int) (q : Int) = true := by
      rw [pilesB_iff]
      refine ⟨⟨by omega, by omega, ?_, by omega⟩, ?_⟩
      · have : q * 1 ≤ q * s := Nat.mul_le_mul_left q h3
        omega
      · rw [← Int.ofNat_tmod, Nat.mul_mod_right]; rfl
    have hst : ∀ x ch : Int, 0 ≤ x → x < ((q * s : Nat) : Int) → 0 ≤ ch → ch < (q : Int) → Ev (fun k => impl_IndexAfter.f k ((q * s : Nat) : Int) (q : Int) x ch) (nxF q s ch.toNat x) ∧ Ev (fun k => spec_IndexAfter.f k ((q * s : Nat) : Int) (q : Int) x ch) (nxF q s ch.toNat x) := fun x ch a b c d => by
      have h := ia_nx q s ch.toNat h1 h2 h3 h4 (by omega) x a b
      rw [Int.toNat_of_nonneg c] at h
      exact h
    have hb : bfs (fun x c => nxF q s c.toNat x) ((q * s : Nat) : Int) (t : Int) (seqFrom 0 ((q : Int)).toNat) 20 [((i : Int), [])] 0 = some r := by rw [Int.toNat_natCast]; exact hr
    refine ⟨r, ?_, ?_, hok.1, fun h => ?_, fun h => ?_⟩
    · have e := pf_l0 ((q * s : Nat) : Int) (q : Int) (t : Int) (fun x c => nxF q s c.toNat x) (q : Int) rfl (by omega) (by omega) (fun x ch a b c d => (hst x ch a b c d).2) 20 [] [((i : Int), [])] r (by simp) hb
      unfold spec_PlacesFor.f
      simp only [spec_PilesOk_eq, hpb, Option.bind_some, if_true, l01In_eq, w64_id (show -9223372036854775808 ≤ ((q * s : Nat) : Int) - 1 by omega) (show ((q * s : Nat) : Int) - 1 ≤ 9223372036854775807 by omega), decide_eq_true (show 0 ≤ (i : Int) ∧ (i : Int) ≤ ((q * s : Nat) : Int) - 1 by omega), decide_eq_true (show 0 ≤ (t : Int) ∧ (t : Int) ≤ ((q * s : Nat) : Int) - 1 by omega), Bool.not_true]
      refine Ev.step (fun k => ?_) e
      show spec_PlacesFor.j0 (k + 1) _ _ _ _ _ = _
      rw [spec_PlacesFor.j0, if_neg (by decide)]
      rfl
    · have e := sh_ev (fun k x y => impl_IndexAfter.f k ((q * s : Nat) : Int) (q : Int) x y) (fun x c => nxF q s c.toNat x) ((q * s : Nat) : Int) (t : Int) (q : Int) (by omega) (by omega) (fun x ch a b c d => (hst x ch a b c d).1) (by omega) (i : Int) (by omega) 20 r hb
      unfold impl_PlacesFor.f
      simp only [impl_PilesOk_eq, hpb, Option.bind_some, if_true, if_neg (show ¬ ((i : Int) < 0) by omega), if_neg (show ¬ (((q * s : Nat) : Int) ≤ (i : Int)) by omega), if_neg (show ¬ ((t : Int) < 0) by omega), if_neg (show ¬ (((q * s : Nat) : Int) ≤ (t : Int)) by omega)]
      exact e
    · have h9 := hok.2
      rw [if_pos h] at h9
      simp only [Bool.and_eq_true, beq_iff_eq, List.all_eq_true, decide_eq_true_eq] at h9
      exact h9
    · have h9 := hok.2
      rw [if_neg (by rw [h]; decide)] at h9
      exact beq_iff_eq.1 h9
theorem places_both (n p i t : Int) : ∃ r : List Int × Bool, Ev (fun k => spec_PlacesFor.f k n p i t) r ∧ Ev (fun k => impl_PlacesFor.f k n p i t) r ∧ r.1.length ≤ 1000 := by
  have sj : ∀ x, x = true → Ev (fun k => spec_PlacesFor.j0 k n p i t x) ([], false) := fun x hx => by
    subst hx
    exact Ev.step (f := fun _ => some ([], false)) (fun k => by rw [spec_PlacesFor.j0, if_pos rfl]) (Ev.now _)
  by_cases c1 : pilesB n p = true
  · obtain ⟨q, s, h1, h2, h3, h4, rfl, rfl⟩ := piles_nat c1
    have w := w64_id (show -9223372036854775808 ≤ ((q * s : Nat) : Int) - 1 by omega) (show ((q * s : Nat) : Int) - 1 ≤ 9223372036854775807 by omega)
    by_cases c2 : (0 ≤ i ∧ i < ((q * s : Nat) : Int)) ∧ (0 ≤ t ∧ t < ((q * s : Nat) : Int))
    · obtain ⟨i, rfl⟩ := Int.eq_ofNat_of_zero_le c2.1.1
      obtain ⟨t, rfl⟩ := Int.eq_ofNat_of_zero_le c2.2.1
      obtain ⟨r, e1, e2, e3, _⟩ := places_in q s i t h1 h2 h3 h4 (by omega) (by omega)
      exact ⟨r, e1, e2, by omega⟩
    · refine ⟨([], false), ?_, ?_, by simp⟩
      · unfold spec_PlacesFor.f
        simp only [spec_PilesOk_eq, c1, Option.bind_some, if_true, l01In_eq, w]
        by_cases c3 : 0 ≤ i ∧ i ≤ ((q * s : Nat) : Int) - 1
        · simp only [decide_eq_true c3, if_true]
          exact sj _ (by rw [decide_eq_false (by omega)]; rfl)
        · simp only [decide_eq_false c3, Bool.false_eq_true, if_false]
          exact sj _ rfl
      · unfold impl_PlacesFor.f
        simp only [impl_PilesOk_eq, c1, Option.bind_some, if_true]
        by_cases d1 : i < 0
        · simp only [if_pos d1]; exact Ev.now _
        simp only [if_neg d1]
        by_cases d2 : ((q * s : Nat) : Int) ≤ i
        · simp only [if_pos d2]; exact Ev.now _
        simp only [if_neg d2]
        by_cases d3 : t < 0
        · simp only [if_pos d3]; exact Ev.now _
        simp only [if_neg d3, if_pos (show ((q * s : Nat) : Int) ≤ t by omega)]
        exact Ev.now _
  · refine ⟨([], false), ?_, ?_, by simp⟩
    · unfold spec_PlacesFor.f
      simp only [spec_PilesOk_eq, Bool.eq_false_iff.mpr c1, Option.bind_some, Bool.false_eq_true, if_false]
      exact sj _ rfl
    · unfold impl_PlacesFor.f
      simp only [impl_PilesOk_eq, Bool.eq_false_iff.mpr c1, Option.bind_some, Bool.false_eq_true, if_false]
      exact Ev.now _
end Go.Proofs.Ytbeehklibkeecaa.F
end
section
/- PlacesFor: both functions make the same; marks that are laid are held. -/
namespace Go.Proofs.Ytbeehklibkeecaa.Pure
open Go.RowKit Go.Proofs.Ytbeehklibkeecaa.F Go.Proofs.YtbeehklibkeecaaW.PrintWords Go.Proofs.YtbeehklibkeecaaW.PrintLast Go.Proofs.YtbeehklibkeecaaW.PrintMore
set_option linter.unusedVariables false
set_option linter.unusedSimpArgs false
theorem FnExactPlacesFor : laws_FnExactPlacesFor.Pure := by
  intro n p i t _ _ _ _
  obtain ⟨r, hs, hi, hr⟩ := places_both n p i t
  refine Ev.rounds (g := fun k => laws_FnExactPlacesFor.f k n p i t) ?_
  unfold laws_FnExactPlacesFor.f
  repeat' first
    | exact Ev.now _
    | with_reducible refine Ev.bind hs ?_
    | with_reducible refine Ev.bind hi ?_
    | with_reducible refine Ev.bind (eqIntS_same _ (by omega)) ?_
    | with_reducible refine Ev.bind (markIntS_ev _ _ (by omega) (by omega) (by omega)) ?_
    | with_reducible refine Ev.bind (heldIntS_ev _ _ (by omega) (by omega) (by omega)) ?_
    | simp only [if_true, if_false, Bool.not_true, bne_self_eq_false, Bool.false_eq_true, neg1, neg2, neg3]
    | (refine Ev.succ ?_; simp only [laws_FnExactPlacesFor.j0, laws_FnExactPlacesFor.j1])
end Go.Proofs.Ytbeehklibkeecaa.Pure
end
