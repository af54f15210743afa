import Derived.Test.YtbeehklibkeecaaZGFnExactRoundsNeeded10
import Derived.Test.YtbeehklibkeecaaZGFnExactRoundsNeeded4
import Derived.Test.YtbeehklibkeecaaZGFnExactRoundsNeeded6
import Derived.Test.YtbeehklibkeecaaZGFnExactRoundsNeeded7
import Derived.Test.YtbeehklibkeecaaZGFnExactRoundsNeeded8
import Derived.Test.YtbeehklibkeecaaZGFnExactRoundsNeeded9
section
/- When a list is a packet, by its cards. -/
namespace Go.Proofs.Ytbeehklibkeecaa.F
open Go.RowKit Go.Proofs.YtbeehklibkeecaaW.PrintWords Go.Proofs.YtbeehklibkeecaaW.PrintLast Go.Proofs.YtbeehklibkeecaaW.PrintMore
set_option linter.unusedVariables false
set_option linter.unusedSimpArgs false
theorem packetM_back (xs : List Int) : ∀ met : List Bool, met.length = 12 → (∀ x ∈ xs, 0 ≤ cardOf x ∧ met.getD (cardOf x).toNat false = false) → (xs.map cardOf).Nodup → packetM met xs = true := by
  induction xs with
  | nil => intro met hm h hn; rfl
  | cons x xs ih =>
    intro met hm h hn
    have hx := h x (by simp)
    rw [List.map_cons, List.nodup_cons] at hn
    have hlt := cardOf_lt x
    unfold packetM
    rw [if_neg (by omega), hx.2, if_neg (by simp)]
    refine ih _ (by rw [List.length_set]; exact hm) (fun y hy => ?_) hn.2
    have hyy := h y (by simp [hy])
    refine ⟨hyy.1, ?_⟩
    rw [set_getD met _ _ (by omega), hyy.2, Bool.or_false]
    refine decide_eq_false (fun e => hn.1 ?_)
    have : cardOf y = cardOf x := by omega
    rw [← this]
    exact List.mem_map.mpr ⟨y, hy, rfl⟩
theorem packetM_nd (xs : List Int) : ∀ met : List Bool, met.length = 12 → packetM met xs = true → (∀ x ∈ xs, 0 ≤ cardOf x ∧ met.getD (cardOf x).toNat false = false) ∧ (xs.map cardOf).Nodup := by
  induction xs with
  | nil => intro met hm h; exact ⟨by simp, by simp⟩
  | cons x xs ih =>
    intro met hm h
    have hlt := cardOf_lt x
    unfold packetM at h
    by_cases c : cardOf x < 0
    · rw [if_pos c] at h; exact absurd h (by simp)
    · rw [if_neg c] at h
      by_cases d : met.getD (cardOf x).toNat false = true
      · rw [if_pos d] at h; exact absurd h (by simp)
      · rw [if_neg d] at h
        obtain ⟨h1, h2⟩ := ih _ (by rw [List.length_set]; exact hm) h
        have d' : met.getD (cardOf x).toNat false = false := by simpa using d
        refine ⟨fun y hy => ?_, ?_⟩
        · rcases List.mem_cons.mp hy with rfl | hy
          · exact ⟨by omega, d'⟩
          · have := h1 y hy
            rw [set_getD met _ _ (by omega), Bool.or_eq_false_iff] at this
            exact ⟨this.1, this.2.2⟩
        · rw [List.map_cons, List.nodup_cons]
          refine ⟨fun hm2 => ?_, h2⟩
          obtain ⟨y, hy, e⟩ := List.mem_map.mp hm2
          have := h1 y hy
          rw [set_getD met _ _ (by omega), Bool.or_eq_false_iff] at this
          have h3 := of_decide_eq_false this.2.1
          exact h3 (by rw [e])
theorem packetB_iff (l : List Int) : packetB l = true ↔ (∀ x ∈ l, 0 ≤ cardOf x) ∧ (l.map cardOf).Nodup := by
  constructor
  · intro h
    obtain ⟨h1, h2⟩ := packetM_nd l _ (by simp) h
    exact ⟨fun x hx => (h1 x hx).1, h2⟩
  · rintro ⟨h1, h2⟩
    refine packetM_back l _ (by simp) (fun x hx => ⟨h1 x hx, ?_⟩) h2
    generalize (cardOf x).toNat = i
    rw [List.getD_eq_getElem?_getD, List.getElem?_replicate]
    split <;> rfl
theorem packetB_perm {p q : List Int} (h : (q.map cardOf).Perm (p.map cardOf)) (hp : packetB p = true) : packetB q = true := by
  obtain ⟨h1, h2⟩ := (packetB_iff p).mp hp
  refine (packetB_iff q).mpr ⟨fun x hx => ?_, h.nodup_iff.mpr h2⟩
  have : cardOf x ∈ p.map cardOf := h.mem_iff.mp (List.mem_map.mpr ⟨x, hx, rfl⟩)
  obtain ⟨y, hy, e⟩ := List.mem_map.mp this
  rw [← e]
  exact h1 y hy
end Go.Proofs.Ytbeehklibkeecaa.F
end
section
/- Piles by their indices: what a round does is natural in the packet. -/
namespace Go.Proofs.Ytbeehklibkeecaa.F
open Go.RowKit Go.Proofs.YtbeehklibkeecaaW.PrintWords Go.Proofs.YtbeehklibkeecaaW.PrintLast Go.Proofs.YtbeehklibkeecaaW.PrintMore
set_option linter.unusedVariables false
set_option linter.unusedSimpArgs false
def pilesN (n q : Nat) : List (List Nat) := (List.range q).map fun j => ((List.range n).filter fun i => i % q == j).reverse
def idxN (a : Nat) : List (List Nat) → Int → Int
  | [], _ => -1
  | x :: xs, i => if x.contains a then i else idxN a xs (i + 1)
def outN (q s a pl : Nat) : List Nat := (ordAt (pilesN (q * s) q) (a % q) pl).flatten
def chkN (q s a pl : Nat) : Bool := (idxN a (pilesN (q * s) q) 0 == ((a % q : Nat) : Int)) && ((outN q s a pl).isPerm (List.range (q * s)) && (decide (pl * s + s - 1 - a / q < q * s) && (((outN q s a pl).getD (pl * s + s - 1 - a / q) 0 == a) && (idxFrom (fun y => y == (a : Int)) ((outN q s a pl).map fun i : Nat => (i : Int)) 0 == ((pl * s + s - 1 - a / q : Nat) : Int)))))
def chkAll : Bool := (List.range 5).all fun q => (List.range 7).all fun s => (!(decide (2 ≤ q) && (decide (1 ≤ s) && decide (q * s ≤ 12)))) || (List.range (q * s)).all fun a => (List.range q).all fun pl => chkN q s a pl
theorem chkAll_true : chkAll = true := by decide +kernel
theorem chkN_true (q s a pl : Nat) (h1 : 2 ≤ q) (h2 : q ≤ 4) (h3 : 1 ≤ s) (h4 : q * s ≤ 12) (h5 : a < q * s) (h6 : pl < q) : chkN q s a pl = true := by
  have h := chkAll_true
  unfold chkAll at h
  rw [List.all_eq_true] at h
  have hs : s ≤ 6 := by
    rcases (show q = 2 ∨ q = 3 ∨ q = 4 by omega) with rfl | rfl | rfl <;> omega
  have h7 := h q (List.mem_range.2 (by omega))
  rw [List.all_eq_true] at h7
  have h8 := h7 s (List.mem_range.2 (by omega))
  rw [decide_eq_true h1, decide_eq_true h3, decide_eq_true h4] at h8
  simp only [Bool.and_self, Bool.not_true, Bool.false_or] at h8
  rw [List.all_eq_true] at h8
  have h9 := h8 a (List.mem_range.2 h5)
  rw [List.all_eq_true] at h9
  exact h9 pl (List.mem_range.2 h6)
theorem dealtN (q s : Nat) (p : List Int) (h1 : 2 ≤ q) (h2 : q ≤ 4) (h3 : 1 ≤ s) (h4 : q * s ≤ 12) (hl : p.length = q * s) : dealtR p (q : Int) ((pilesN (q * s) q).map fun I => I.map fun i => p.getD i 0) := by
  rcases (show q = 2 ∨ q = 3 ∨ q = 4 by omega) with rfl | rfl | rfl
  · rcases (show s = 1 ∨ s = 2 ∨ s = 3 ∨ s = 4 ∨ s = 5 ∨ s = 6 by omega) with rfl | rfl | rfl | rfl | rfl | rfl
    · obtain ⟨x0, x1, rfl⟩ := len_2 p hl
      exact deal_2_2 x0 x1
    · obtain ⟨x0, x1, x2, x3, rfl⟩ := len_4 p hl
      exact deal_4_2 x0 x1 x2 x3
    · obtain ⟨x0, x1, x2, x3, x4, x5, rfl⟩ := len_6 p hl
      exact deal_6_2 x0 x1 x2 x3 x4 x5
    · obtain ⟨x0, x1, x2, x3, x4, x5, x6, x7, rfl⟩ := len_8 p hl
      exact deal_8_2 x0 x1 x2 x3 x4 x5 x6 x7
    · obtain ⟨x0, x1, x2, x3, x4, x5, x6, x7, x8, x9, rfl⟩ := len_10 p hl
      exact deal_10_2 x0 x1 x2 x3 x4 x5 x6 x7 x8 x9
    · obtain ⟨x0, x1, x2, x3, x4, x5, x6, x7, x8, x9, x10, x11, rfl⟩ := len_12 p hl
      exact deal_12_2 x0 x1 x2 x3 x4 x5 x6 x7 x8 x9 x10 x11
  · rcases (show s = 1 ∨ s = 2 ∨ s = 3 ∨ s = 4 by omega) with rfl | rfl | rfl | rfl
    · obtain ⟨x0, x1, x2, rfl⟩ := len_3 p hl
      exact deal_3_3 x0 x1 x2
    · obtain ⟨x0, x1, x2, x3, x4, x5, rfl⟩ := len_6 p hl
      exact deal_6_3 x0 x1 x2 x3 x4 x5
    · obtain ⟨x0, x1, x2, x3, x4, x5, x6, x7, x8, rfl⟩ := len_9 p hl
      exact deal_9_3 x0 x1 x2 x3 x4 x5 x6 x7 x8
    · obtain ⟨x0, x1, x2, x3, x4, x5, x6, x7, x8, x9, x10, x11, rfl⟩ := len_12 p hl
      exact deal_12_3 x0 x1 x2 x3 x4 x5 x6 x7 x8 x9 x10 x11
  · rcases (show s = 1 ∨ s = 2 ∨ s = 3 by omega) with rfl | rfl | rfl
    · obtain ⟨x0, x1, x2, x3, rfl⟩ := len_4 p hl
      exact deal_4_4 x0 x1 x2 x3
    · obtain ⟨x0, x1, x2, x3, x4, x5, x6, x7, rfl⟩ := len_8 p hl
      exact deal_8_4 x0 x1 x2 x3 x4 x5 x6 x7
    · obtain ⟨x0, x1, x2, x3, x4, x5, x6, x7, x8, x9, x10, x11, rfl⟩ := len_12 p hl
      exact deal_12_4 x0 x1 x2 x3 x4 x5 x6 x7 x8 x9 x10 x11
/-- A packet of the cards 0 to n - 1, and its places. -/
structure PlainP (p : List Int) (n : Nat) : Prop where
  len : p.length = n
  rng : ∀ i, i < n → 0 ≤ p.getD i 0 ∧ p.getD i 0 < 12
  inj : ∀ i j, i < n → j < n → p.getD i 0 = p.getD j 0 → i = j
theorem plain_list {p : List Int} {n : Nat} (h : PlainP p n) : p = (List.range n).map fun i => p.getD i 0 := by
  apply List.ext_getElem
  · simp [h.len]
  · intro i h1 h2
    simp [h1]
theorem has_iff {p : List Int} {n : Nat} (h : PlainP p n) (I : List Nat) (hI : ∀ i ∈ I, i < n) (a : Nat) (ha : a < n) : pileHas (p.getD a 0) (I.map fun i => p.getD i 0) = I.contains a := by
  have hq : ∀ x ∈ I.map (fun i => p.getD i 0), -9223372036854775808 ≤ x := fun x hx => by
    obtain ⟨i, hi, rfl⟩ := List.mem_map.1 hx
    have := h.rng i (hI i hi); omega
  rw [pileHas_eq _ _ hq]
  unfold posB
  rw [if_neg (by have := h.rng a ha; omega)]
  have h2 := idx_lt (p.getD a 0) (I.map fun i => p.getD i 0) 0 (by omega)
  have h3 : hasCard (I.map fun i => p.getD i 0) (p.getD a 0) = I.contains a := by
    unfold hasCard
    rw [List.any_map, Bool.eq_iff_iff, List.any_eq_true, List.contains_iff_mem]
    constructor
    · rintro ⟨i, hi, e⟩
      have e2 : cardOf (p.getD i 0) = p.getD a 0 := by simpa using e
      rw [cardOf_self _ (h.rng i (hI i hi)).1 (h.rng i (hI i hi)).2] at e2
      rw [← h.inj i a (hI i hi) ha e2]; exact hi
    · intro ha2
      exact ⟨a, ha2, beq_iff_eq.2 (cardOf_self _ (h.rng a ha).1 (h.rng a ha).2)⟩
  rw [← h3]
  by_cases c : idxFrom (fun x => cardOf x == p.getD a 0) (I.map fun i => p.getD i 0) 0 < 0
  · rw [decide_eq_true c] at h2
    rw [decide_eq_false (by omega)]
    cases hh : hasCard (I.map fun i => p.getD i 0) (p.getD a 0) <;> simp_all
  · rw [decide_eq_false c] at h2
    rw [decide_eq_true (by omega)]
    cases hh : hasCard (I.map fun i => p.getD i 0) (p.getD a 0) <;> simp_all
theorem idx_nat {p : List Int} {n : Nat} (h : PlainP p n) (a : Nat) (ha : a < n) (L : List (List Nat)) : ∀ i : Int, (∀ I ∈ L, ∀ j ∈ I, j < n) → idxFromL (pileHas (p.getD a 0)) (L.map fun I => I.map fun i => p.getD i 0) i = idxN a L i := by
  induction L with
  | nil => intro i _; rfl
  | cons I L ih =>
    intro i hL
    rw [List.map_cons]
    unfold idxFromL idxN
    rw [has_iff h I (hL I List.mem_cons_self) a ha, ih (i + 1) (fun J hJ => hL J (List.mem_cons_of_mem _ hJ))]
theorem pilesN_lt (n q : Nat) : ∀ I ∈ pilesN n q, ∀ j ∈ I, j < n := by
  intro I hI j hj
  unfold pilesN at hI
  obtain ⟨i, _, rfl⟩ := List.mem_map.1 hI
  rw [List.mem_reverse, List.mem_filter] at hj
  exact List.mem_range.1 hj.1
theorem flat_map (f : Nat → Int) (L : List (List Nat)) : (L.map fun I => I.map f).flatten = L.flatten.map f := by
  rw [List.map_flatten]
theorem pilesN_len (n q : Nat) : (pilesN n q).length = q := by unfold pilesN; simp
/-- One round, by indices. -/
theorem round_nat {p : List Int} {q s : Nat} (h : PlainP p (q * s)) (h1 : 2 ≤ q) (h2 : q ≤ 4) (h3 : 1 ≤ s) (h4 : q * s ≤ 12) (a pl : Nat) (ha : a < q * s) (hp : pl < q) :
    packetB p = true ∧ Ev (fun k => impl_PilesOf.f k p (q : Int)) ((pilesN (q * s) q).map fun I => I.map fun i => p.getD i 0) ∧
    Ev (fun k => impl_GatherPiles.f k ((pilesN (q * s) q).map fun I => I.map fun i => p.getD i 0) ((a % q : Nat) : Int) (pl : Int)) ((outN q s a pl).map fun i => p.getD i 0, true) ∧
    Ev (fun k => impl_PileRound.f k p (q : Int) (p.getD a 0) (pl : Int)) ((outN q s a pl).map fun i => p.getD i 0, true) ∧ packetB ((outN q s a pl).map fun i => p.getD i 0) = true ∧ ((outN q s a pl).map fun i => p.getD i 0).Perm p := by
  have hc := chkN_true q s a pl h1 h2 h3 h4 ha hp
  unfold chkN at hc
  simp only [Bool.and_eq_true, beq_iff_eq, decide_eq_true_eq] at hc
  obtain ⟨hidx, hperm, _⟩ := hc
  have hpm : (outN q s a pl).Perm (List.range (q * s)) := List.isPerm_iff.1 hperm
  have hdl := dealtN q s p h1 h2 h3 h4 h.len
  obtain ⟨d1, d2, d3, d4, d5⟩ := hdl
  have hpp : ((outN q s a pl).map fun i => p.getD i 0).Perm p := by
    have e := plain_list h
    have := hpm.map fun i => p.getD i 0
    rw [← e] at this
    exact this
  have hw : ∀ x ∈ p, 0 ≤ x ∧ x < 12 := fun x hx => by
    rw [plain_list h] at hx
    obtain ⟨i, hi, rfl⟩ := List.mem_map.1 hx
    exact h.rng i (List.mem_range.1 hi)
  have hpk : packetB p = true := by
    rw [packetB_iff]
    refine ⟨fun x hx => by rw [cardOf_self x (hw x hx).1 (hw x hx).2]; exact (hw x hx).1, ?_⟩
    have e1 : p.map cardOf = p := by
      conv => rhs; rw [← List.map_id p]
      exact List.map_congr_left (fun x hx => cardOf_self x (hw x hx).1 (hw x hx).2)
    rw [e1, plain_list h]
    rw [List.nodup_iff_pairwise_ne, List.pairwise_map]
    refine List.Pairwise.imp_of_mem ?_ (List.nodup_iff_pairwise_ne.1 (List.nodup_range (n := q * s)))
    intro i j hi hj hne e
    exact hne (h.inj i j (List.mem_range.1 hi) (List.mem_range.1 hj) e)
  have hpk2 : packetB ((outN q s a pl).map fun i => p.getD i 0) = true := packetB_perm (hpp.map _) hpk
  have hpb : pilesB (p.length : Int) (q : Int) = true := by
    rw [pilesB_iff, h.len]
    refine ⟨⟨by omega, by omega, ?_, by omega⟩, ?_⟩
    · have : q * 1 ≤ q * s := Nat.mul_le_mul_left q h3
      omega
    · rw [← Int.ofNat_tmod, Nat.mul_mod_right]; rfl
  have E1 : Ev (fun k => impl_PilesOf.f k p (q : Int)) ((pilesN (q * s) q).map fun I => I.map fun i => p.getD i 0) := by
    unfold impl_PilesOf.f
    refine Ev.bind (impl_PacketOk_ev p (by have := h.len; omega) (fun x hx => by have := hw x hx; omega)) ?_
    simp only [hpk, if_true, impl_PilesOk_eq, hpb, Option.bind_some, Bool.not_true]
    exact Ev.at_ 60 (fun k hk => by obtain ⟨m, rfl⟩ := Nat.exists_eq_add_of_le' hk; exact d2 m)
  have eB : gatherB ((pilesN (q * s) q).map fun I => I.map fun i => p.getD i 0) ((a % q : Nat) : Int) (pl : Int) = ((outN q s a pl).map fun i => p.getD i 0, true) := by
    unfold gatherB
    have hmod : a % q < q := Nat.mod_lt _ (by omega)
    rw [if_pos (by rw [List.length_map, pilesN_len]; omega), Int.toNat_natCast, Int.toNat_natCast, ordAt_map, flat_map]
    exact if_pos hpk2
  have hmem : ∀ x ∈ (pilesN (q * s) q).map (fun I => I.map fun i => p.getD i 0), ∀ y ∈ x, -9223372036854775808 ≤ y := fun x hx y hy => by
    obtain ⟨I, hI, rfl⟩ := List.mem_map.1 hx
    obtain ⟨i, hi, rfl⟩ := List.mem_map.1 hy
    have := h.rng i (pilesN_lt _ _ I hI i hi); omega
  have E2 := impl_gather_ev ((pilesN (q * s) q).map fun I => I.map fun i => p.getD i 0) ((a % q : Nat) : Int) (pl : Int) (fun x hx => by have := d4 x hx; omega) hmem
  rw [eB] at E2
  have hix : idxFromL (pileHas (p.getD a 0)) ((pilesN (q * s) q).map fun I => I.map fun i => p.getD i 0) 0 = ((a % q : Nat) : Int) := by
    rw [idx_nat h a ha _ 0 (pilesN_lt _ _)]; exact hidx
  refine ⟨hpk, E1, E2, ?_, hpk2, hpp⟩
  unfold impl_PileRound.f
  refine Ev.bind E1 ?_
  rw [hix]
  simp only [if_neg (show ¬ (((a % q : Nat) : Int) < 0) by omega)]
  exact E2
end Go.Proofs.Ytbeehklibkeecaa.F
end
section
/- Where the card at a place goes in a round: the formula, for both functions. -/
namespace Go.Proofs.Ytbeehklibkeecaa.F
open Go.RowKit Go.Proofs.YtbeehklibkeecaaW.PrintWords Go.Proofs.YtbeehklibkeecaaW.PrintLast Go.Proofs.YtbeehklibkeecaaW.PrintMore
set_option linter.unusedVariables false
set_option linter.unusedSimpArgs false
theorem plain_seq (n : Nat) (hn : n ≤ 12) : PlainP (seqFrom 0 n) n ∧ ∀ i, i < n → (seqFrom 0 n).getD i 0 = (i : Int) := by
  have h : ∀ (m : Nat) (a : Int) (i : Nat), i < m → (seqFrom a m).getD i 0 = a + i := by
    intro m
    induction m with
    | zero => intro a i hi; omega
    | succ m ih =>
      intro a i hi
      cases i with
      | zero => simp [seqFrom]
      | succ i =>
        have := ih (a + 1) i (by omega)
        simp only [seqFrom, List.getD_cons_succ, this]
        omega
  have h2 : ∀ i, i < n → (seqFrom 0 n).getD i 0 = (i : Int) := fun i hi => by rw [h n 0 i hi]; omega
  refine ⟨⟨seqFrom_length n 0, fun i hi => by rw [h2 i hi]; omega, fun i j hi hj e => by rw [h2 i hi, h2 j hj] at e; omega⟩, h2⟩
theorem indexAfter_nat (q s a pl : Nat) (h1 : 2 ≤ q) (h2 : q ≤ 4) (h3 : 1 ≤ s) (h4 : q * s ≤ 12) (ha : a < q * s) (hp : pl < q) :
    Ev (fun k => impl_IndexAfter.f k ((q * s : Nat) : Int) (q : Int) (a : Int) (pl : Int)) ((pl * s + s - 1 - a / q : Nat) : Int) := by
  obtain ⟨hP, hid⟩ := plain_seq (q * s) h4
  obtain ⟨_, _, _, E, _, _⟩ := round_nat hP h1 h2 h3 h4 a pl ha hp
  rw [hid a ha] at E
  have hc := chkN_true q s a pl h1 h2 h3 h4 ha hp
  unfold chkN at hc
  simp only [Bool.and_eq_true, beq_iff_eq, decide_eq_true_eq] at hc
  obtain ⟨_, hperm, _, _, hfin⟩ := hc
  have hpm : (outN q s a pl).Perm (List.range (q * s)) := List.isPerm_iff.1 hperm
  have hmap : (outN q s a pl).map (fun i => (seqFrom 0 (q * s)).getD i 0) = (outN q s a pl).map fun i : Nat => (i : Int) := List.map_congr_left (fun i hi => hid i (List.mem_range.1 (hpm.mem_iff.1 hi)))
  rw [hmap] at E
  have hlen : (outN q s a pl).length = q * s := by rw [hpm.length_eq, List.length_range]
  have hpb : pilesB ((q * s : Nat) : Int) (q : Int) = true := by
    rw [pilesB_iff]
    refine ⟨⟨by omega, by omega, ?_, by omega⟩, ?_⟩
    · have : q * 1 ≤ q * s := Nat.mul_le_mul_left q h3
      omega
    · rw [← Int.ofNat_tmod, Nat.mul_mod_right]; rfl
  obtain ⟨u1, _⟩ := upTo_ev ((q * s : Nat) : Int) (by omega) (by omega)
  rw [Int.toNat_natCast] at u1
  unfold impl_IndexAfter.f
  simp only [impl_PilesOk_eq, hpb, Option.bind_some, if_true]
  simp only [if_neg (show ¬ ((a : Int) < 0) by omega), decide_eq_false (show ¬ ((a : Int) ≥ ((q * s : Nat) : Int)) by omega)]
  refine Ev.step (fun k => by rw [impl_IndexAfter.j0, if_neg (by decide)]) ?_
  refine Ev.bind u1 (Ev.bind E ?_)
  simp only [if_true]
  rw [← hfin]
  exact Ev.bind (index_idx (a : Int) ((outN q s a pl).map fun i : Nat => (i : Int)) [] (by simp; omega)) (Ev.now _)
theorem ia_both (q s a pl : Nat) (h1 : 2 ≤ q) (h2 : q ≤ 4) (h3 : 1 ≤ s) (h4 : q * s ≤ 12) (ha : a < q * s) (hp : pl < q) :
    Ev (fun k => impl_IndexAfter.f k ((q * s : Nat) : Int) (q : Int) (a : Int) (pl : Int)) ((pl * s + s - 1 - a / q : Nat) : Int) ∧ Ev (fun k => spec_IndexAfter.f k ((q * s : Nat) : Int) (q : Int) (a : Int) (pl : Int)) ((pl * s + s - 1 - a / q : Nat) : Int) := by
  have h := indexAfter_nat q s a pl h1 h2 h3 h4 ha hp
  obtain ⟨r, e1, e2⟩ := indexAfter_ex ((q * s : Nat) : Int) (q : Int) (a : Int) (pl : Int) (by omega) (by omega)
  have := Ev.uniq e2 h
  subst this
  exact ⟨h, e1⟩
theorem piles_nat {n p : Int} (h : pilesB n p = true) : ∃ q s : Nat, 2 ≤ q ∧ q ≤ 4 ∧ 1 ≤ s ∧ q * s ≤ 12 ∧ n = ((q * s : Nat) : Int) ∧ p = (q : Int) := by
  obtain ⟨⟨h1, h2, h3, h4⟩, h5⟩ := (pilesB_iff n p).1 h
  have hp : p = 2 ∨ p = 3 ∨ p = 4 := by omega
  have hn : n = 2 ∨ n = 3 ∨ n = 4 ∨ n = 5 ∨ n = 6 ∨ n = 7 ∨ n = 8 ∨ n = 9 ∨ n = 10 ∨ n = 11 ∨ n = 12 := by omega
  refine ⟨p.toNat, n.toNat / p.toNat, by omega, by omega, ?_, ?_, ?_, by omega⟩
  all_goals
    rcases hp with rfl | rfl | rfl <;> rcases hn with rfl | rfl | rfl | rfl | rfl | rfl | rfl | rfl | rfl | rfl | rfl <;> first | decide | (exact absurd h5 (by decide)) | omega
/-- The place behind a round. -/
def nxF (q s pl : Nat) (x : Int) : Int := ((pl * s + s - 1 - x.toNat / q : Nat) : Int)
theorem nxF_in (q s pl : Nat) (h1 : 2 ≤ q) (h3 : 1 ≤ s) (hp : pl < q) (x : Int) : 0 ≤ nxF q s pl x ∧ nxF q s pl x < ((q * s : Nat) : Int) := by
  unfold nxF
  have h5 : pl * s + s ≤ q * s := by
    have : (pl + 1) * s ≤ q * s := Nat.mul_le_mul_right s hp
    rwa [Nat.add_mul, Nat.one_mul] at this
  generalize x.toNat / q = d
  generalize q * s = A at *
  generalize pl * s = u at *
  refine ⟨by omega, by omega⟩
theorem ia_nx (q s pl : Nat) (h1 : 2 ≤ q) (h2 : q ≤ 4) (h3 : 1 ≤ s) (h4 : q * s ≤ 12) (hp : pl < q) (x : Int) (h5 : 0 ≤ x) (h6 : x < ((q * s : Nat) : Int)) :
    Ev (fun k => impl_IndexAfter.f k ((q * s : Nat) : Int) (q : Int) x (pl : Int)) (nxF q s pl x) ∧ Ev (fun k => spec_IndexAfter.f k ((q * s : Nat) : Int) (q : Int) x (pl : Int)) (nxF q s pl x) := by
  obtain ⟨a, rfl⟩ := Int.eq_ofNat_of_zero_le h5
  have h := ia_both q s a pl h1 h2 h3 h4 (by omega) hp
  unfold nxF
  rw [Int.toNat_natCast]
  exact h
end Go.Proofs.Ytbeehklibkeecaa.F
end
section
/- How many rounds are needed, and where every card then lies: both functions tell the same. -/
namespace Go.Proofs.Ytbeehklibkeecaa.F
open Go.RowKit Go.Proofs.YtbeehklibkeecaaW.PrintWords Go.Proofs.YtbeehklibkeecaaW.PrintLast Go.Proofs.YtbeehklibkeecaaW.PrintMore
set_option linter.unusedVariables false
set_option linter.unusedSimpArgs false
section
variable (n p pl : Int) (f : Int → Int)
theorem imp_l1 (hf : ∀ x, 0 ≤ x → x < n → Ev (fun k => impl_IndexAfter.f k n p x pl) (f x)) (j : Int) (r : Int × Int) (rest : List Int) : ∀ pre : List Int, (∀ x ∈ rest, 0 ≤ x ∧ x < n) → (pre ++ rest).length ≤ 1000 →
    Ev (fun k => impl_rounds.l0 k n p pl (pre ++ rest.map f) (wrap64 (j + 1))) r → Ev (fun k => impl_rounds.l1 k n p pl (pre ++ rest) j (pre.length : Int)) r := by
  induction rest with
  | nil =>
    intro pre _ hb h
    refine Ev.step (fun k => ?_) h
    show impl_rounds.l1 (k + 1) _ _ _ _ _ _ = _
    rw [impl_rounds.l1, if_neg (mid_nlt _)]
    simp
  | cons x rest ih =>
    intro pre hx hb h
    have hx0 := hx x List.mem_cons_self
    refine Ev.stepb (hf x hx0.1 hx0.2) (fun k => by rw [impl_rounds.l1, if_pos (mid_lt _ _ _), if_pos (nn _), mid_rd]) ?_
    have h2 := ih (pre ++ [f x]) (fun y hy => hx y (List.mem_cons_of_mem _ hy)) (by simpa using hb) (by simpa using h)
    rw [mid_set, mid_succ pre (f x) (by simp at hb; omega)]
    exact h2
theorem spec_l1i (hf : ∀ x, 0 ≤ x → x < n → Ev (fun k => spec_IndexAfter.f k n p x pl) (f x)) (rs j : Int) (r : List Int) (rest : List Int) : ∀ pre : List Int, (∀ x ∈ rest, 0 ≤ x ∧ x < n) → (pre ++ rest).length ≤ 1000 →
    Ev (fun k => spec_l14Images.l0 k n p pl rs (pre ++ rest.map f) (wrap64 (j + 1))) r → Ev (fun k => spec_l14Images.l1 k n p pl rs (pre ++ rest) j (pre.length : Int)) r := by
  induction rest with
  | nil =>
    intro pre _ hb h
    refine Ev.step (fun k => ?_) h
    show spec_l14Images.l1 (k + 1) _ _ _ _ _ _ _ = _
    rw [spec_l14Images.l1, if_neg (mid_nlt _)]
    simp
  | cons x rest ih =>
    intro pre hx hb h
    have hx0 := hx x List.mem_cons_self
    refine Ev.stepb (hf x hx0.1 hx0.2) (fun k => by rw [spec_l14Images.l1, if_pos (mid_lt _ _ _), if_pos (nn _), mid_rd]) ?_
    have h2 := ih (pre ++ [f x]) (fun y hy => hx y (List.mem_cons_of_mem _ hy)) (by simpa using hb) (by simpa using h)
    rw [mid_set, mid_succ pre (f x) (by simp at hb; omega)]
    exact h2
end
theorem max_at (rest : List Int) : ∀ (pre : List Int) (m : Int), (pre ++ rest).length ≤ 1000 → Ev (fun k => slices_Max_Lint_int.l0 k (pre ++ rest) m (pre.length : Int)) (rest.foldl mx m) := by
  induction rest with
  | nil =>
    intro pre m hb
    refine Ev.step (f := fun _ => some m) (fun k => ?_) (Ev.now _)
    show slices_Max_Lint_int.l0 (k + 1) _ _ _ = _
    rw [slices_Max_Lint_int.l0, if_neg (mid_nlt _)]
  | cons x rest ih =>
    intro pre m hb
    have h := ih (pre ++ [x]) (mx m x) (by simpa using hb)
    rw [← mid_cons, ← mid_succ pre x (by simp at hb; omega)] at h
    refine Ev.step (fun k => ?_) h
    show slices_Max_Lint_int.l0 (k + 1) _ _ _ = _
    rw [slices_Max_Lint_int.l0, if_pos (mid_lt _ _ _), if_pos (nn _), mid_rd]
theorem min_at (rest : List Int) : ∀ (pre : List Int) (m : Int), (pre ++ rest).length ≤ 1000 → Ev (fun k => slices_Min_Lint_int.l0 k (pre ++ rest) m (pre.length : Int)) (rest.foldl mn m) := by
  induction rest with
  | nil =>
    intro pre m hb
    refine Ev.step (f := fun _ => some m) (fun k => ?_) (Ev.now _)
    show slices_Min_Lint_int.l0 (k + 1) _ _ _ = _
    rw [slices_Min_Lint_int.l0, if_neg (mid_nlt _)]
  | cons x rest ih =>
    intro pre m hb
    have h := ih (pre ++ [x]) (mn m x) (by simpa using hb)
    rw [← mid_cons, ← mid_succ pre x (by simp at hb; omega)] at h
    refine Ev.step (fun k => ?_) h
    show slices_Min_Lint_int.l0 (k + 1) _ _ _ = _
    rw [slices_Min_Lint_int.l0, if_pos (mid_lt _ _ _), if_pos (nn _), mid_rd]
theorem max_ev (x : Int) (rest : List Int) (hb : rest.length < 1000) : Ev (fun k => slices_Max_Lint_int.f k (x :: rest)) (rest.foldl mx x) := by
  have h := max_at rest [x] x (by simp <;> omega)
  unfold slices_Max_Lint_int.f
  simp only [if_neg (show ¬ (((x :: rest).length : Int) < 1) by simp <;> omega), if_pos (show 0 < ((x :: rest).length : Int) by simp <;> omega)]
  exact h
theorem min_ev (x : Int) (rest : List Int) (hb : rest.length < 1000) : Ev (fun k => slices_Min_Lint_int.f k (x :: rest)) (rest.foldl mn x) := by
  have h := min_at rest [x] x (by simp <;> omega)
  unfold slices_Min_Lint_int.f
  simp only [if_neg (show ¬ (((x :: rest).length : Int) < 1) by simp <;> omega), if_pos (show 0 < ((x :: rest).length : Int) by simp <;> omega)]
  exact h
theorem mx_ge (rest : List Int) : ∀ m : Int, m ≤ rest.foldl mx m ∧ ∀ y ∈ rest, y ≤ rest.foldl mx m := by
  induction rest with
  | nil => intro m; exact ⟨Int.le_refl _, by simp⟩
  | cons x rest ih =>
    intro m
    obtain ⟨h1, h2⟩ := ih (mx m x)
    have h3 : m ≤ mx m x ∧ x ≤ mx m x := by unfold mx; split <;> omega
    refine ⟨by simp only [List.foldl_cons]; omega, fun y hy => ?_⟩
    rcases List.mem_cons.1 hy with rfl | hy
    · simp only [List.foldl_cons]; omega
    · exact h2 y hy
theorem mn_le (rest : List Int) : ∀ m : Int, rest.foldl mn m ≤ m ∧ ∀ y ∈ rest, rest.foldl mn m ≤ y := by
  induction rest with
  | nil => intro m; exact ⟨Int.le_refl _, by simp⟩
  | cons x rest ih =>
    intro m
    obtain ⟨h1, h2⟩ := ih (mn m x)
    have h3 : mn m x ≤ m ∧ mn m x ≤ x := by unfold mn; split <;> omega
    refine ⟨by simp only [List.foldl_cons]; omega, fun y hy => ?_⟩
    rcases List.mem_cons.1 hy with rfl | hy
    · simp only [List.foldl_cons]; omega
    · exact h2 y hy
theorem mx_same (m : Int) : ∀ rest : List Int, (∀ y ∈ rest, y = m) → rest.foldl mx m = m ∧ rest.foldl mn m = m
  | [], _ => ⟨rfl, rfl⟩
  | x :: rest, h => by
    have hx := h x List.mem_cons_self
    subst hx
    have h2 := mx_same x rest (fun y hy => h y (List.mem_cons_of_mem _ hy))
    simp only [List.foldl_cons, show mx x x = x by unfold mx; split <;> omega, show mn x x = x by unfold mn; split <;> omega]
    exact h2
/-- Are all the same? -/
def sameI : List Int → Bool
  | [] => true
  | x :: xs => xs.all (fun y => decide (y = x))
theorem sameI_mx (x : Int) (rest : List Int) : (rest.foldl mx x = rest.foldl mn x) ↔ sameI (x :: rest) = true := by
  unfold sameI
  rw [List.all_eq_true]
  constructor
  · intro h y hy
    obtain ⟨a1, a2⟩ := mx_ge rest x
    obtain ⟨b1, b2⟩ := mn_le rest x
    have := a2 y hy
    have := b2 y hy
    exact decide_eq_true (by omega)
  · intro h
    obtain ⟨e1, e2⟩ := mx_same x rest (fun y hy => of_decide_eq_true (h y hy))
    rw [e1, e2]
theorem same_at (x0 : Int) (tl : List Int) (rest : List Int) : ∀ pre : List Int, (pre ++ rest).length ≤ 1000 → Ev (fun k => spec_l14Same.l0 k (x0 :: tl) (pre ++ rest) ((pre ++ rest).length : Int) (pre.length : Int)) (rest.all (fun y => decide (y = x0))) := by
  induction rest with
  | nil =>
    intro pre hb
    refine Ev.step (f := fun _ => some true) (fun k => ?_) (Ev.now _)
    show spec_l14Same.l0 (k + 1) _ _ _ _ = _
    rw [spec_l14Same.l0, if_neg (mid_nlt _)]
  | cons x rest ih =>
    intro pre hb
    have hrd : rd (x0 :: tl) 0 = x0 := rfl
    have hp : 0 < ((x0 :: tl).length : Int) := by simp <;> omega
    by_cases c : x = x0
    · have h := ih (pre ++ [x]) (by simpa using hb)
      rw [← mid_cons, ← mid_succ pre x (by simp at hb; omega)] at h
      rw [List.all_cons, decide_eq_true c, Bool.true_and]
      refine Ev.step (fun k => ?_) h
      show spec_l14Same.l0 (k + 1) _ _ _ _ = _
      rw [spec_l14Same.l0, if_pos (mid_lt _ _ _), if_pos (nn _), if_pos (mid_lt _ _ _), if_pos hp, mid_rd, hrd, if_pos c]
    · rw [List.all_cons, decide_eq_false c, Bool.false_and]
      refine Ev.step (f := fun _ => some false) (fun k => ?_) (Ev.now _)
      show spec_l14Same.l0 (k + 1) _ _ _ _ = _
      rw [spec_l14Same.l0, if_pos (mid_lt _ _ _), if_pos (nn _), if_pos (mid_lt _ _ _), if_pos hp, mid_rd, hrd, if_neg c]
theorem same_ev (x : Int) (rest : List Int) (hb : rest.length < 1000) : Ev (fun k => spec_l14Same.f k (x :: rest)) (sameI (x :: rest)) := by
  have h := same_at x rest (x :: rest) [] (by simp <;> omega)
  rw [List.all_cons, decide_eq_true rfl, Bool.true_and] at h
  exact h
/-- The places of all cards behind j rounds. -/
def imR (f : Int → Int) (l : List Int) : Nat → List Int
  | 0 => l
  | j + 1 => (imR f l j).map f
theorem imR_len (f : Int → Int) (l : List Int) : ∀ j, (imR f l j).length = l.length
  | 0 => rfl
  | j + 1 => by simp [imR, imR_len f l j]
theorem imR_mem (f : Int → Int) (l : List Int) (n : Int) (hl : ∀ x ∈ l, 0 ≤ x ∧ x < n) (hf : ∀ x, 0 ≤ f x ∧ f x < n) : ∀ j, ∀ x ∈ imR f l j, 0 ≤ x ∧ x < n
  | 0 => hl
  | j + 1 => by
    intro x hx
    obtain ⟨y, _, rfl⟩ := List.mem_map.1 hx
    exact hf y
/-- The first round, from round j on, behind which all are the same. -/
def firstR (f : Int → Int) (l : List Int) : Nat → Nat → Option Nat
  | 0, _ => none
  | m + 1, j => if sameI (imR f l j) = true then some j else firstR f l m (j + 1)
def asR1 : Option Nat → Int
  | some j => (j : Int)
  | none => -1
def asR2 (f : Int → Int) (l : List Int) : Option Nat → Int
  | some j => rd (imR f l j) 0
  | none => -1
theorem firstR_lt (f : Int → Int) (l : List Int) : ∀ m j r, firstR f l m j = some r → j ≤ r ∧ r < j + m
  | 0, _, _, h => by simp [firstR] at h
  | m + 1, j, r, h => by
    unfold firstR at h
    split at h
    · obtain rfl := Option.some.inj h; omega
    · have := firstR_lt f l m (j + 1) r h; omega
theorem seq_in (q s : Nat) : ∀ x ∈ seqFrom 0 (q * s), 0 ≤ x ∧ x < ((q * s : Nat) : Int) := fun x hx => by
  have := seqFrom_mem (q * s) 0 x hx
  omega
theorem im_cons (q s pl : Nat) (h1 : 2 ≤ q) (h3 : 1 ≤ s) (h4 : q * s ≤ 12) (j : Nat) : ∃ x rest, imR (nxF q s pl) (seqFrom 0 (q * s)) j = x :: rest ∧ rest.length < 1000 := by
  have hl := imR_len (nxF q s pl) (seqFrom 0 (q * s)) j
  rw [seqFrom_length] at hl
  have hpos : 0 < q * s := Nat.mul_pos (by omega) (by omega)
  cases h : imR (nxF q s pl) (seqFrom 0 (q * s)) j with
  | nil => rw [h] at hl; simp at hl; omega
  | cons x rest => exact ⟨x, rest, rfl, by rw [h] at hl; simp at hl; omega⟩
section
variable (q s pl : Nat) (h1 : 2 ≤ q) (h2 : q ≤ 4) (h3 : 1 ≤ s) (h4 : q * s ≤ 12) (hp : pl < q)
include h1 h2 h3 h4 hp
theorem rounds_at (m : Nat) : ∀ j : Nat, j + m = q * s + 1 → Ev (fun k => impl_rounds.l0 k ((q * s : Nat) : Int) (q : Int) (pl : Int) (imR (nxF q s pl) (seqFrom 0 (q * s)) j) (j : Int)) (asR1 (firstR (nxF q s pl) (seqFrom 0 (q * s)) m j), asR2 (nxF q s pl) (seqFrom 0 (q * s)) (firstR (nxF q s pl) (seqFrom 0 (q * s)) m j)) := by
  induction m with
  | zero =>
    intro j hj
    refine Ev.step (f := fun _ => some (-1, -1)) (fun k => ?_) (Ev.now _)
    show impl_rounds.l0 (k + 1) _ _ _ _ _ = _
    rw [impl_rounds.l0, if_neg (by omega)]
  | succ m ih =>
    intro j hj
    obtain ⟨x, rest, e, hb⟩ := im_cons q s pl h1 h3 h4 j
    have hmx := max_ev x rest hb
    have hmn := min_ev x rest hb
    have hsame := sameI_mx x rest
    refine Ev.stepb (a := fun k => slices_Max_Lint_int.f k (x :: rest)) hmx (fun k => by rw [impl_rounds.l0, if_pos (by omega), e]) (Ev.bind hmn ?_)
    unfold firstR
    rw [e]
    by_cases c : rest.foldl mx x = rest.foldl mn x
    · simp only [if_pos c, if_pos (hsame.1 c), if_pos (show 0 < ((x :: rest).length : Int) by simp <;> omega)]
      unfold asR1 asR2
      simp only [e]
      exact Ev.now _
    · simp only [if_neg c, if_neg (fun h => c (hsame.2 h))]
      have h := ih (j + 1) (by omega)
      have hm := imR_mem (nxF q s pl) (seqFrom 0 (q * s)) ((q * s : Nat) : Int) (seq_in q s) (nxF_in q s pl h1 h3 hp) j
      rw [e] at hm
      have e2 : imR (nxF q s pl) (seqFrom 0 (q * s)) (j + 1) = (x :: rest).map (nxF q s pl) := by unfold imR; rw [e]
      rw [e2, ← w64_nat j (by omega)] at h
      exact imp_l1 _ _ _ (nxF q s pl) (fun x a b => (ia_nx q s pl h1 h2 h3 h4 hp x a b).1) (j : Int) _ (x :: rest) [] hm (by simp <;> omega) h
theorem images_at (t : Nat) (ht : t ≤ 100) (d : Nat) : ∀ c : Nat, c + d = t → Ev (fun k => spec_l14Images.l0 k ((q * s : Nat) : Int) (q : Int) (pl : Int) (t : Int) (imR (nxF q s pl) (seqFrom 0 (q * s)) c) (c : Int)) (imR (nxF q s pl) (seqFrom 0 (q * s)) t) := by
  induction d with
  | zero =>
    intro c hc
    obtain rfl : c = t := by omega
    refine Ev.step (f := fun _ => some (imR (nxF q s pl) (seqFrom 0 (q * s)) c)) (fun k => ?_) (Ev.now _)
    show spec_l14Images.l0 (k + 1) _ _ _ _ _ _ = _
    rw [spec_l14Images.l0, if_neg (by omega)]
  | succ d ih =>
    intro c hc
    have h := ih (c + 1) (by omega)
    have hm := imR_mem (nxF q s pl) (seqFrom 0 (q * s)) ((q * s : Nat) : Int) (seq_in q s) (nxF_in q s pl h1 h3 hp) c
    have hl := imR_len (nxF q s pl) (seqFrom 0 (q * s)) c
    rw [seqFrom_length] at hl
    rw [← w64_nat c (by omega)] at h
    refine Ev.step (fun k => ?_) (spec_l1i _ _ _ (nxF q s pl) (fun x a b => (ia_nx q s pl h1 h2 h3 h4 hp x a b).2) (t : Int) (c : Int) _ (imR (nxF q s pl) (seqFrom 0 (q * s)) c) [] hm (by simp <;> omega) h)
    show spec_l14Images.l0 (k + 1) _ _ _ _ _ _ = _
    rw [spec_l14Images.l0, if_pos (by omega)]
    rfl
theorem images_ev (t : Nat) (ht : t ≤ 100) : Ev (fun k => spec_l14Images.f k ((q * s : Nat) : Int) (q : Int) (pl : Int) (t : Int)) (imR (nxF q s pl) (seqFrom 0 (q * s)) t) := by
  obtain ⟨_, u2⟩ := upTo_ev ((q * s : Nat) : Int) (by omega) (by omega)
  rw [Int.toNat_natCast] at u2
  exact Ev.bind u2 (images_at q s pl h1 h2 h3 h4 hp t ht t 0 (by omega))
theorem needed_at (m : Nat) : ∀ j : Nat, j + m = q * s + 1 → Ev (fun k => spec_RoundsNeeded.l0 k ((q * s : Nat) : Int) (q : Int) (pl : Int) (j : Int)) (asR1 (firstR (nxF q s pl) (seqFrom 0 (q * s)) m j)) := by
  induction m with
  | zero =>
    intro j hj
    refine Ev.step (f := fun _ => some (-1)) (fun k => ?_) (Ev.now _)
    show spec_RoundsNeeded.l0 (k + 1) _ _ _ _ = _
    rw [spec_RoundsNeeded.l0, if_neg (by omega)]
  | succ m ih =>
    intro j hj
    obtain ⟨x, rest, e, hb⟩ := im_cons q s pl h1 h3 h4 j
    have hi := images_ev q s pl h1 h2 h3 h4 hp j (by omega)
    rw [e] at hi
    refine Ev.stepb hi (fun k => by rw [spec_RoundsNeeded.l0, if_pos (by omega)]) (Ev.bind (same_ev x rest hb) ?_)
    unfold firstR
    rw [e]
    by_cases c : sameI (x :: rest) = true
    · simp only [if_pos c]
      exact Ev.now _
    · simp only [if_neg c]
      have h := ih (j + 1) (by omega)
      rw [← w64_nat j (by omega)] at h
      exact h
/-- Both functions' answer where there is one to be sought. -/
theorem rounds_ev : Ev (fun k => impl_rounds.f k ((q * s : Nat) : Int) (q : Int) (pl : Int)) (asR1 (firstR (nxF q s pl) (seqFrom 0 (q * s)) (q * s + 1) 0), asR2 (nxF q s pl) (seqFrom 0 (q * s)) (firstR (nxF q s pl) (seqFrom 0 (q * s)) (q * s + 1) 0)) := by
  have hpb : pilesB ((q * s : Nat) : Int) (q : Int) = true := by
    rw [pilesB_iff]
    refine ⟨⟨by omega, by omega, ?_, by omega⟩, ?_⟩
    · have : q * 1 ≤ q * s := Nat.mul_le_mul_left q h3
      omega
    · rw [← Int.ofNat_tmod, Nat.mul_mod_right]; rfl
  obtain ⟨u1, _⟩ := upTo_ev ((q * s : Nat) : Int) (by omega) (by omega)
  rw [Int.toNat_natCast] at u1
  unfold impl_rounds.f
  simp only [impl_PilesOk_eq, hpb, Option.bind_some, if_true, if_neg (show ¬ ((pl : Int) < 0) by omega), if_neg (show ¬ ((q : Int) ≤ (pl : Int)) by omega)]
  exact Ev.bind u1 (rounds_at q s pl h1 h2 h3 h4 hp (q * s + 1) 0 (by omega))
theorem needed_ev : Ev (fun k => spec_RoundsNeeded.f k ((q * s : Nat) : Int) (q : Int) (pl : Int)) (asR1 (firstR (nxF q s pl) (seqFrom 0 (q * s)) (q * s + 1) 0)) := by
  have hpb : pilesB ((q * s : Nat) : Int) (q : Int) = true := by
    rw [pilesB_iff]
    refine ⟨⟨by omega, by omega, ?_, by omega⟩, ?_⟩
    · have : q * 1 ≤ q * s := Nat.mul_le_mul_left q h3
      omega
    · rw [← Int.ofNat_tmod, Nat.mul_mod_right]; rfl
  unfold spec_RoundsNeeded.f
  simp only [spec_PilesOk_eq, hpb, Option.bind_some, if_true, l01In_eq, w64_id (show -9223372036854775808 ≤ (q : Int) - 1 by omega) (show (q : Int) - 1 ≤ 9223372036854775807 by omega), decide_eq_true (show 0 ≤ (pl : Int) ∧ (pl : Int) ≤ (q : Int) - 1 by omega), Bool.not_true]
  refine Ev.step (fun k => ?_) (needed_at q s pl h1 h2 h3 h4 hp (q * s + 1) 0 (by omega))
  show spec_RoundsNeeded.j0 (k + 1) _ _ _ _ = _
  rw [spec_RoundsNeeded.j0, if_neg (by decide)]
  rfl
end
/-- What both answer: the number of rounds, and the place. -/
theorem rounds_both (n p pl : Int) (hp : -9223372036854775808 ≤ p ∧ p ≤ 9223372036854775807) : ∃ r : Int × Int, Ev (fun k => impl_rounds.f k n p pl) r ∧ Ev (fun k => spec_RoundsNeeded.f k n p pl) r.1 ∧ Ev (fun k => spec_FixedIndex.f k n p pl) r.2 := by
  have neg : Ev (fun k => spec_RoundsNeeded.f k n p pl) (-1) → Ev (fun k => spec_FixedIndex.f k n p pl) (-1) := fun h => by
    unfold spec_FixedIndex.f
    refine Ev.bind h ?_
    simp only [if_pos (show (-1 : Int) < 0 by omega)]
    exact Ev.now _
  have sj : ∀ x, x = true → Ev (fun k => spec_RoundsNeeded.j0 k n p pl x) (-1) := fun x hx => by
    subst hx
    exact Ev.step (f := fun _ => some (-1)) (fun k => by rw [spec_RoundsNeeded.j0, if_pos rfl]) (Ev.now _)
  by_cases c1 : pilesB n p = true
  · obtain ⟨q, s, h1, h2, h3, h4, rfl, rfl⟩ := piles_nat c1
    by_cases c2 : 0 ≤ pl ∧ pl < (q : Int)
    · obtain ⟨pl, rfl⟩ := Int.eq_ofNat_of_zero_le c2.1
      have hpl : pl < q := by omega
      have e1 := rounds_ev q s pl h1 h2 h3 h4 hpl
      have e2 := needed_ev q s pl h1 h2 h3 h4 hpl
      refine ⟨_, e1, e2, ?_⟩
      unfold spec_FixedIndex.f
      refine Ev.bind e2 ?_
      cases hr : firstR (nxF q s pl) (seqFrom 0 (q * s)) (q * s + 1) 0 with
      | none =>
        unfold asR1 asR2
        simp only [if_pos (show (-1 : Int) < 0 by omega)]
        exact Ev.now _
      | some j =>
        have hj := firstR_lt _ _ _ _ _ hr
        unfold asR1 asR2
        simp only [if_neg (show ¬ ((j : Int) < 0) by omega)]
        refine Ev.bind (images_ev q s pl h1 h2 h3 h4 hpl j (by omega)) ?_
        obtain ⟨x, rest, e, _⟩ := im_cons q s pl h1 h3 h4 j
        rw [e]
        simp only [if_pos (show 0 < ((x :: rest).length : Int) by simp <;> omega)]
        exact Ev.now _
    · have e2 : Ev (fun k => spec_RoundsNeeded.f k ((q * s : Nat) : Int) (q : Int) pl) (-1) := by
        unfold spec_RoundsNeeded.f
        simp only [spec_PilesOk_eq, c1, Option.bind_some, if_true, l01In_eq, w64_id (show -9223372036854775808 ≤ (q : Int) - 1 by omega) (show (q : Int) - 1 ≤ 9223372036854775807 by omega)]
        exact sj _ (by rw [decide_eq_false (by omega)]; rfl)
      refine ⟨(-1, -1), ?_, e2, neg e2⟩
      unfold impl_rounds.f
      simp only [impl_PilesOk_eq, c1, Option.bind_some, if_true]
      by_cases c3 : pl < 0
      · simp only [if_pos c3]; exact Ev.now _
      · simp only [if_neg c3, if_pos (show (q : Int) ≤ pl by omega)]; exact Ev.now _
  · have e2 : Ev (fun k => spec_RoundsNeeded.f k n p pl) (-1) := by
      unfold spec_RoundsNeeded.f
      simp only [spec_PilesOk_eq, Bool.eq_false_iff.mpr c1, Option.bind_some, Bool.false_eq_true, if_false]
      exact sj _ rfl
    refine ⟨(-1, -1), ?_, e2, neg e2⟩
    unfold impl_rounds.f
    simp only [impl_PilesOk_eq, Bool.eq_false_iff.mpr c1, Option.bind_some, Bool.false_eq_true, if_false]
    exact Ev.now _
end Go.Proofs.Ytbeehklibkeecaa.F
end
