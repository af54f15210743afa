import Derived.Test.YtlobampnikhmnaaZFnDucks4
import Derived.Test.YtlobampnikhmnaaZFnDucks7
import Derived.Test.YtlobampnikhmnaaZFnDucks8
import Derived.Test.YtlobampnikhmnaaZFnDucks6
import Derived.Test.YtlobampnikhmnaaZFnDucks9
section
/- Cards, and when a list is a packet: the program's and the reference's functions tell one thing. -/
namespace Go.Proofs.Ytlobampnikhmnaa.F
open Go.RowKit Go.Proofs.YtlobampnikhmnaaW.PrintWords Go.Proofs.YtlobampnikhmnaaW.PrintLast Go.Proofs.YtlobampnikhmnaaW.PrintMore
set_option linter.unusedVariables false
set_option linter.unusedSimpArgs false
def cardOf (x : Int) : Int := if 0 ≤ x ∧ x ≤ 11 then x else if -12 ≤ x ∧ x ≤ -1 then -1 - x else -1
theorem cardOf_lt (x : Int) : cardOf x < 12 := by
  unfold cardOf
  repeat' split
  all_goals omega
theorem impl_CardOf_eq (x : Int) (h0 : -9223372036854775808 ≤ x) : impl_CardOf.f x = some (cardOf x) := by
  unfold impl_CardOf.f cardOf
  by_cases h : x < 0
  · have e : wrap64 (-1 - x) = -1 - x := w64_id (by omega) (by omega)
    simp only [if_pos h, e]
    by_cases k : -1 - x ≥ 12
    · rw [if_pos k, if_neg (by omega), if_neg (by omega)]
    · rw [if_neg k, if_neg (by omega), if_pos (by omega)]
  · simp only [if_neg h]
    by_cases k : x ≥ 12
    · rw [if_pos k, if_neg (by omega), if_neg (by omega)]
    · rw [if_neg k, if_pos (by omega)]
/-- Is a list a packet: the cards met so far are told by twelve bools. -/
def packetM : List Bool → List Int → Bool
  | _, [] => true
  | met, x :: xs => if cardOf x < 0 then false else if met.getD (cardOf x).toNat false = true then false else packetM (met.set (cardOf x).toNat true) xs
def packetB (l : List Int) : Bool := packetM (List.replicate 12 false) l
theorem impl_PacketOk_at (rest : List Int) : ∀ (pre : List Int) (met : List Bool), (pre ++ rest).length ≤ 4611686018427387904 → (∀ x ∈ rest, -9223372036854775808 ≤ x) →
    Ev (fun k => impl_PacketOk.l0 k (pre ++ rest) met (pre.length : Int)) (packetM met rest) := by
  induction rest with
  | nil =>
    intro pre met hb hw
    exact Ev.step (f := fun _ => some true) (fun k => by rw [impl_PacketOk.l0, if_neg (mid_nlt _)]) (Ev.now _)
  | cons x rest ih =>
    intro pre met hb hw
    have hx := hw x (by simp)
    unfold packetM
    by_cases c : cardOf x < 0
    · rw [if_pos c]
      exact Ev.step (f := fun _ => some false) (fun k => by rw [impl_PacketOk.l0, if_pos (mid_lt _ _ _), if_pos (nn _), mid_rd, impl_CardOf_eq x hx]; simp only [Option.bind_some]; rw [if_pos c]) (Ev.now _)
    · rw [if_neg c]
      by_cases m : met.getD (cardOf x).toNat false = true
      · rw [if_pos m]
        exact Ev.step (f := fun _ => some false) (fun k => by rw [impl_PacketOk.l0, if_pos (mid_lt _ _ _), if_pos (nn _), mid_rd, impl_CardOf_eq x hx]; simp only [Option.bind_some]; rw [if_neg c, if_pos (cardOf_lt x), if_pos m]) (Ev.now _)
      · rw [if_neg m]
        have h := ih (pre ++ [x]) (met.set (cardOf x).toNat true) (by simpa using hb) (fun y hy => hw y (by simp [hy]))
        rw [← mid_cons] at h
        exact Ev.step (fun k => by rw [impl_PacketOk.l0, if_pos (mid_lt _ _ _), if_pos (nn _), mid_rd, impl_CardOf_eq x hx]; simp only [Option.bind_some]; rw [if_neg c, if_pos (cardOf_lt x), if_neg m, mid_succ pre x (by simp at hb; omega)]) h
theorem impl_PacketOk_ev (l : List Int) (hb : l.length ≤ 4611686018427387904) (hw : ∀ x ∈ l, -9223372036854775808 ≤ x) : Ev (fun k => impl_PacketOk.f k l) (packetB l) := impl_PacketOk_at l [] _ hb hw
theorem set_getD (met : List Bool) (i j : Nat) (hi : i < met.length) : (met.set i true).getD j false = (decide (j = i) || met.getD j false) := by
  by_cases e : j = i
  · subst e
    simp [List.getD_eq_getElem?_getD, hi]
  · have e' : ¬ i = j := fun h => e h.symm
    simp [List.getD_eq_getElem?_getD, List.getElem?_set, e, e']
end Go.Proofs.Ytlobampnikhmnaa.F
end
section
/- Lists of a given length, written out. -/
namespace Go.Proofs.Ytlobampnikhmnaa.F
open Go.RowKit Go.Proofs.YtlobampnikhmnaaW.PrintWords Go.Proofs.YtlobampnikhmnaaW.PrintLast Go.Proofs.YtlobampnikhmnaaW.PrintMore
set_option linter.unusedVariables false
set_option linter.unusedSimpArgs false
theorem len_1 (l : List Int) (h : l.length = 1) : ∃ x0, l = [x0] := by
  match l, h with
  | [x0], _ => exact ⟨x0, rfl⟩
theorem len_2 (l : List Int) (h : l.length = 2) : ∃ x0 x1, l = [x0, x1] := by
  match l, h with
  | [x0, x1], _ => exact ⟨x0, x1, rfl⟩
theorem len_3 (l : List Int) (h : l.length = 3) : ∃ x0 x1 x2, l = [x0, x1, x2] := by
  match l, h with
  | [x0, x1, x2], _ => exact ⟨x0, x1, x2, rfl⟩
theorem len_4 (l : List Int) (h : l.length = 4) : ∃ x0 x1 x2 x3, l = [x0, x1, x2, x3] := by
  match l, h with
  | [x0, x1, x2, x3], _ => exact ⟨x0, x1, x2, x3, rfl⟩
theorem len_5 (l : List Int) (h : l.length = 5) : ∃ x0 x1 x2 x3 x4, l = [x0, x1, x2, x3, x4] := by
  match l, h with
  | [x0, x1, x2, x3, x4], _ => exact ⟨x0, x1, x2, x3, x4, rfl⟩
theorem len_6 (l : List Int) (h : l.length = 6) : ∃ x0 x1 x2 x3 x4 x5, l = [x0, x1, x2, x3, x4, x5] := by
  match l, h with
  | [x0, x1, x2, x3, x4, x5], _ => exact ⟨x0, x1, x2, x3, x4, x5, rfl⟩
theorem len_7 (l : List Int) (h : l.length = 7) : ∃ x0 x1 x2 x3 x4 x5 x6, l = [x0, x1, x2, x3, x4, x5, x6] := by
  match l, h with
  | [x0, x1, x2, x3, x4, x5, x6], _ => exact ⟨x0, x1, x2, x3, x4, x5, x6, rfl⟩
theorem len_8 (l : List Int) (h : l.length = 8) : ∃ x0 x1 x2 x3 x4 x5 x6 x7, l = [x0, x1, x2, x3, x4, x5, x6, x7] := by
  match l, h with
  | [x0, x1, x2, x3, x4, x5, x6, x7], _ => exact ⟨x0, x1, x2, x3, x4, x5, x6, x7, rfl⟩
theorem len_9 (l : List Int) (h : l.length = 9) : ∃ x0 x1 x2 x3 x4 x5 x6 x7 x8, l = [x0, x1, x2, x3, x4, x5, x6, x7, x8] := by
  match l, h with
  | [x0, x1, x2, x3, x4, x5, x6, x7, x8], _ => exact ⟨x0, x1, x2, x3, x4, x5, x6, x7, x8, rfl⟩
theorem len_10 (l : List Int) (h : l.length = 10) : ∃ x0 x1 x2 x3 x4 x5 x6 x7 x8 x9, l = [x0, x1, x2, x3, x4, x5, x6, x7, x8, x9] := by
  match l, h with
  | [x0, x1, x2, x3, x4, x5, x6, x7, x8, x9], _ => exact ⟨x0, x1, x2, x3, x4, x5, x6, x7, x8, x9, rfl⟩
theorem len_11 (l : List Int) (h : l.length = 11) : ∃ x0 x1 x2 x3 x4 x5 x6 x7 x8 x9 x10, l = [x0, x1, x2, x3, x4, x5, x6, x7, x8, x9, x10] := by
  match l, h with
  | [x0, x1, x2, x3, x4, x5, x6, x7, x8, x9, x10], _ => exact ⟨x0, x1, x2, x3, x4, x5, x6, x7, x8, x9, x10, rfl⟩
theorem len_12 (l : List Int) (h : l.length = 12) : ∃ x0 x1 x2 x3 x4 x5 x6 x7 x8 x9 x10 x11, l = [x0, x1, x2, x3, x4, x5, x6, x7, x8, x9, x10, x11] := by
  match l, h with
  | [x0, x1, x2, x3, x4, x5, x6, x7, x8, x9, x10, x11], _ => exact ⟨x0, x1, x2, x3, x4, x5, x6, x7, x8, x9, x10, x11, rfl⟩
end Go.Proofs.Ytlobampnikhmnaa.F
end
section
/- What the makers of arguments give: numbers in their bounds, whatever the code is. -/
namespace Go.Proofs.Ytlobampnikhmnaa.F
open Go.RowKit Go.Proofs.YtlobampnikhmnaaW.PrintWords Go.Proofs.YtlobampnikhmnaaW.PrintLast Go.Proofs.YtlobampnikhmnaaW.PrintMore
set_option linter.unusedVariables false
set_option linter.unusedSimpArgs false
theorem and_255 (x : Int) : 0 ≤ Go.bits .and .i64 x 255 ∧ Go.bits .and .i64 x 255 ≤ 255 := by
  have h : (BitVec.ofInt 64 x &&& BitVec.ofInt 64 255).toNat ≤ 255 := by
    rw [BitVec.toNat_and]
    exact Nat.le_trans Nat.and_le_right (by decide)
  have e : Go.bits .and .i64 x 255 = wrap64 (((BitVec.ofInt 64 x &&& BitVec.ofInt 64 255).toNat : Nat) : Int) := i64_w _
  rw [e, w64_id (by omega) (by omega)]
  omega
/-- The cursor stands within its code. -/
def curB (f0 : List Int) (f1 : Int) : Prop := 0 ≤ f1 ∧ f1 ≤ (f0.length : Int) ∧ f0.length ≤ 1048576
theorem byte_ex (f0 : List Int) (f1 f2 : Int) (h : curB f0 f1) : ∃ b g1 g2, spec_l01Byte.f f0 f1 f2 = some (b, g1, g2) ∧ 0 ≤ b ∧ b ≤ 255 ∧ curB f0 g1 := by
  obtain ⟨h0, h1, h2⟩ := h
  unfold spec_l01Byte.f
  by_cases c : f1 < (f0.length : Int)
  · rw [if_pos c, if_pos h0]
    have hw : wrap64 (f1 + 1) = f1 + 1 := w64_id (by omega) (by omega)
    exact ⟨_, _, _, rfl, (and_255 _).1, (and_255 _).2, by rw [hw]; omega, by rw [hw]; omega, h2⟩
  · rw [if_neg c]
    exact ⟨_, _, _, rfl, (and_255 _).1, (and_255 _).2, h0, h1, h2⟩
theorem below_ex (f0 : List Int) (f1 f2 n : Int) (h : curB f0 f1) (h0 : 1 ≤ n) (h1 : n ≤ 256) : ∃ b g1 g2, spec_l01Below.f f0 f1 f2 n = some (b, g1, g2) ∧ 0 ≤ b ∧ b < n ∧ curB f0 g1 := by
  obtain ⟨b, g1, g2, hb, b0, b1, hc⟩ := byte_ex f0 f1 f2 h
  unfold spec_l01Below.f
  rw [if_neg (by omega), if_pos h1, hb, Option.bind_some, if_neg (by omega)]
  refine ⟨_, _, _, rfl, ?_, ?_, hc⟩
  · exact Int.tmod_nonneg _ b0
  · exact Int.tmod_lt_of_pos _ (by omega)
theorem once_ex (f0 : List Int) (f1 f2 n : Int) (h : curB f0 f1) (h0 : 1 ≤ n) (h1 : n ≤ 256) : ∃ b g1 g2, spec_l01Once.f f0 f1 f2 n = some (b, g1, g2) ∧ curB f0 g1 := by
  obtain ⟨b, g1, g2, hb, _, _, hc⟩ := below_ex f0 f1 f2 n h h0 h1
  unfold spec_l01Once.f
  rw [hb, Option.bind_some]
  exact ⟨_, _, _, rfl, hc⟩
theorem new_at (rest : List Int) : ∀ (pre : List Int) (h : Int), (pre ++ rest).length ≤ 1048576 →
    ∃ r, Ev (fun k => spec_l01New.l0 k (pre ++ rest) h (pre.length : Int)) (pre ++ rest, 0, r) := by
  induction rest with
  | nil =>
    intro pre h hb
    refine ⟨h, Ev.step (f := fun _ => some (pre ++ [], 0, h)) (fun k => ?_) (Ev.now _)⟩
    show spec_l01New.l0 (k + 1) _ h _ = _
    rw [spec_l01New.l0, if_neg (mid_nlt _)]
  | cons x rest ih =>
    intro pre h hb
    by_cases c : (pre.length : Int) < 4000
    · obtain ⟨r, hr⟩ := ih (pre ++ [x]) (Go.bits .and .i64 (wrap64 ((wrap64 ((wrap64 (h * 101)) + (wrap64 x))) + 7)) 1073741823) (by simpa using hb)
      rw [← mid_cons, ← mid_succ pre x (by simp at hb; omega)] at hr
      refine ⟨r, Ev.step (fun k => ?_) hr⟩
      show spec_l01New.l0 (k + 1) _ h _ = _
      rw [spec_l01New.l0, if_pos (mid_lt _ _ _), if_pos c, if_pos (nn _), mid_rd]
    · refine ⟨h, Ev.step (f := fun _ => some (pre ++ x :: rest, 0, h)) (fun k => ?_) (Ev.now _)⟩
      show spec_l01New.l0 (k + 1) _ h _ = _
      rw [spec_l01New.l0, if_pos (mid_lt _ _ _), if_neg c]
theorem new_ev (l : List Int) (hb : l.length ≤ 1048576) : ∃ r, Ev (fun k => spec_l01New.f k l) (l, 0, r) := new_at l [] _ hb
theorem l23_at (f0 : List Int) (n : Nat) : ∀ (i : Int) (a f1 f2 : Int), i + n = a → 0 ≤ i → a ≤ 1048576 → curB f0 f1 →
    ∃ g1 g2, Ev (fun k => spec_l23New.l0 k a f0 f1 f2 i) (f0, g1, g2) ∧ curB f0 g1 := by
  induction n with
  | zero =>
    intro i a f1 f2 hn hi ha h
    refine ⟨f1, f2, Ev.step (f := fun _ => some (f0, f1, f2)) (fun k => ?_) (Ev.now _), h⟩
    show spec_l23New.l0 (k + 1) a f0 f1 f2 i = _
    rw [spec_l23New.l0, if_neg (by omega)]
  | succ n ih =>
    intro i a f1 f2 hn hi ha h
    obtain ⟨b, g1, g2, hb, _, _, hc⟩ := byte_ex f0 f1 f2 h
    obtain ⟨e1, e2, he, hf⟩ := ih (i + 1) a g1 g2 (by omega) (by omega) ha hc
    refine ⟨e1, e2, Ev.step (fun k => ?_) he, hf⟩
    show spec_l23New.l0 (k + 1) a f0 f1 f2 i = _
    rw [spec_l23New.l0, if_pos (by omega), hb, Option.bind_some, w64_id (by omega) (by omega)]
theorem l23_ev (l : List Int) (a : Int) (hb : l.length ≤ 1048576) (h0 : 0 ≤ a) (h1 : a ≤ 1048576) : ∃ g1 g2, Ev (fun k => spec_l23New.f k l a) (l, g1, g2) ∧ curB l g1 := by
  obtain ⟨r, hr⟩ := new_ev l hb
  obtain ⟨g1, g2, hg, hc⟩ := l23_at l a.toNat 0 a 0 r (by omega) (by omega) h1 ⟨by omega, by omega, hb⟩
  unfold spec_l23New.f
  exact ⟨g1, g2, Ev.bind hr hg, hc⟩
theorem num_ev (l : List Int) (a : Int) (hb : l.length ≤ 1048576) (h0 : 0 ≤ a) (h1 : a ≤ 1048576) : ∃ v, Ev (fun k => spec_MakeNum.f k l a) v ∧ 0 ≤ v ∧ v ≤ 65535 := by
  obtain ⟨g1, g2, hg, hc⟩ := l23_ev l a hb h0 h1
  obtain ⟨b, c1, c2, hb1, b0, b1, hc1⟩ := byte_ex l g1 g2 hc
  obtain ⟨d, e1, e2, hd1, d0, d1, hc2⟩ := byte_ex l c1 c2 hc1
  refine ⟨b * 256 + d, ?_, by omega, by omega⟩
  unfold spec_MakeNum.f
  refine Ev.bind hg ?_
  simp only [hb1, hd1, Option.bind_some]
  rw [w64_id (show -9223372036854775808 ≤ b * 256 by omega) (by omega), w64_id (by omega) (by omega)]
  exact Ev.now _
end Go.Proofs.Ytlobampnikhmnaa.F
end
section
/- Shuffled packets: a permutation of the numbers below n, some of which are turned over. -/
namespace Go.Proofs.Ytlobampnikhmnaa.F
open Go.RowKit Go.Proofs.YtlobampnikhmnaaW.PrintWords Go.Proofs.YtlobampnikhmnaaW.PrintLast Go.Proofs.YtlobampnikhmnaaW.PrintMore
set_option linter.unusedVariables false
set_option linter.unusedSimpArgs false
theorem seqFrom_snoc (n : Nat) : ∀ a : Int, seqFrom a (n + 1) = seqFrom a n ++ [a + n] := by
  induction n with
  | zero => intro a; simp [seqFrom]
  | succ n ih =>
    intro a
    rw [show seqFrom a (n + 1 + 1) = a :: seqFrom (a + 1) (n + 1) from rfl, ih (a + 1), show seqFrom a (n + 1) = a :: seqFrom (a + 1) n from rfl]
    simp
    omega
theorem swap_perm (x : List Int) (j : Nat) (hj : j < x.length) (v : Int) : (x.set j v ++ [x.getD j 0]).Perm (x ++ [v]) := by
  have e : x = x.take j ++ x.getD j 0 :: x.drop (j + 1) := by
    rw [List.getD_eq_getElem?_getD, List.getElem?_eq_getElem hj]
    simp
  have e2 : x.set j v = x.take j ++ v :: x.drop (j + 1) := List.set_eq_take_append_cons_drop.trans (by rw [if_pos hj])
  rw [e2]
  conv => rhs; rw [e]
  generalize x.getD j 0 = a
  generalize x.take j = p
  generalize x.drop (j + 1) = q
  rw [List.append_assoc, List.append_assoc, List.cons_append, List.cons_append]
  refine List.Perm.append_left p ?_
  have h1 : (v :: (q ++ [a])).Perm (v :: a :: q) := (List.perm_append_singleton a q).cons v
  have h2 : (a :: (q ++ [v])).Perm (a :: v :: q) := (List.perm_append_singleton v q).cons a
  exact h1.trans ((List.Perm.swap a v q).trans h2.symm)
theorem shuffle_at (f0 : List Int) (m : Nat) : ∀ (n : Nat) (x : List Int) (f1 f2 : Int), n + m ≤ 256 → x.Perm (seqFrom 0 n) → curB f0 f1 →
    ∃ r g1 g2, Ev (fun k => spec_l02Shuffle.l0 k ((n + m : Nat) : Int) x (n : Int) f0 f1 f2) (r, g1, g2) ∧ r.Perm (seqFrom 0 (n + m)) ∧ curB f0 g1 := by
  induction m with
  | zero =>
    intro n x f1 f2 hb hp hc
    refine ⟨x, f1, f2, Ev.step (f := fun _ => some (x, f1, f2)) (fun k => ?_) (Ev.now _), hp, hc⟩
    show spec_l02Shuffle.l0 (k + 1) _ x _ f0 f1 f2 = _
    rw [spec_l02Shuffle.l0, if_neg (by omega)]
  | succ m ih =>
    intro n x f1 f2 hb hp hc
    have hlen : x.length = n := by rw [hp.length_eq, seqFrom_length]
    obtain ⟨b, g1, g2, hbl, b0, b1, hcg⟩ := below_ex f0 f1 f2 ((n : Int) + 1) hc (by omega) (by omega)
    obtain ⟨j, rfl⟩ := Int.eq_ofNat_of_zero_le b0
    have hw : wrap64 ((n : Int) + 1) = (n : Int) + 1 := w64_id (by omega) (by omega)
    have hnew : (((x ++ [(n : Int)]).set n (rd (x ++ [(n : Int)]) (j : Int))).set j (n : Int)).Perm (seqFrom 0 (n + 1)) := by
      rw [seqFrom_snoc, Int.zero_add]
      by_cases e : j = n
      · subst e
        have e1 : rd (x ++ [(j : Int)]) (j : Int) = (j : Int) := by
          have := mid_rd x (j : Int) []
          rwa [hlen] at this
        rw [e1]
        have e2 : ((x ++ [(j : Int)]).set j (j : Int)) = x ++ [(j : Int)] := by
          have := mid_set x (j : Int) (j : Int) []
          rw [hlen, Int.toNat_natCast] at this
          simpa using this
        rw [e2, e2]
        exact hp.append_right _
      · have hj : j < x.length := by omega
        have e1 : rd (x ++ [(n : Int)]) (j : Int) = x.getD j 0 := by
          unfold rd
          simp [List.getD_eq_getElem?_getD, List.getElem?_append_left hj]
        have e2 : ((x ++ [(n : Int)]).set n (x.getD j 0)) = x ++ [x.getD j 0] := by
          have := mid_set x (n : Int) (x.getD j 0) []
          rw [hlen, Int.toNat_natCast] at this
          simpa using this
        rw [e1, e2, List.set_append_left _ _ hj]
        exact (swap_perm x j hj (n : Int)).trans (hp.append_right _)
    obtain ⟨r, e1, e2, he, hr, hc2⟩ := ih (n + 1) _ g1 g2 (by omega) hnew hcg
    refine ⟨r, e1, e2, Ev.step (fun k => ?_) he, by rw [show n + (m + 1) = n + 1 + m by omega]; exact hr, hc2⟩
    show spec_l02Shuffle.l0 (k + 1) _ x _ f0 f1 f2 = _
    have hl2 : ((x ++ [(n : Int)]).length : Int) = (n : Int) + 1 := by rw [List.length_append, hlen]; simp
    rw [spec_l02Shuffle.l0, if_pos (by omega), hw, hbl, Option.bind_some, if_pos (by omega), Option.bind_some, if_pos b0, if_pos (by rw [hl2]; exact b1), if_pos (by omega), if_pos (by rw [hl2]; omega), Int.toNat_natCast, Int.toNat_natCast]
    rw [show ((n + 1 : Nat) : Int) = (n : Int) + 1 by omega, show ((n + (m + 1) : Nat) : Int) = ((n + 1 + m : Nat) : Int) by omega]
theorem shuffle_ev (f0 : List Int) (n : Nat) (f1 f2 : Int) (hn : n ≤ 256) (hc : curB f0 f1) : ∃ r g1 g2, Ev (fun k => spec_l02Shuffle.f k f0 f1 f2 (n : Int)) (r, g1, g2) ∧ r.Perm (seqFrom 0 n) ∧ curB f0 g1 := by
  have h := shuffle_at f0 n 0 [] f1 f2 (by omega) (by simp [seqFrom]) hc
  rw [Nat.zero_add] at h
  exact h
end Go.Proofs.Ytlobampnikhmnaa.F
end
section
/- Packets that are drawn are packets. -/
namespace Go.Proofs.Ytlobampnikhmnaa.F
open Go.RowKit Go.Proofs.YtlobampnikhmnaaW.PrintWords Go.Proofs.YtlobampnikhmnaaW.PrintLast Go.Proofs.YtlobampnikhmnaaW.PrintMore
set_option linter.unusedVariables false
set_option linter.unusedSimpArgs false
theorem mem_seqFrom (n : Nat) : ∀ (a x : Int), x ∈ seqFrom a n ↔ a ≤ x ∧ x < a + n := by
  induction n with
  | zero =>
    intro a x
    simp only [seqFrom, List.not_mem_nil, false_iff]
    omega
  | succ n ih =>
    intro a x
    rw [show seqFrom a (n + 1) = a :: seqFrom (a + 1) n from rfl, List.mem_cons, ih]
    omega
theorem nodup_seqFrom (n : Nat) : ∀ a : Int, (seqFrom a n).Nodup := by
  induction n with
  | zero => intro a; simp [seqFrom]
  | succ n ih =>
    intro a
    rw [show seqFrom a (n + 1) = a :: seqFrom (a + 1) n from rfl, List.nodup_cons, mem_seqFrom]
    exact ⟨by omega, ih _⟩
theorem packetM_of (xs : List Int) : ∀ met : List Bool, met.length = 12 → (∀ x ∈ xs, 0 ≤ cardOf x ∧ met.getD (cardOf x).toNat false = false) → (xs.map cardOf).Nodup → packetM met xs = true := by
  induction xs with
  | nil => intro met hm h hn; rfl
  | cons x xs ih =>
    intro met hm h hn
    have hx := h x (by simp)
    rw [List.map_cons, List.nodup_cons] at hn
    have hlt := cardOf_lt x
    unfold packetM
    rw [if_neg (by omega), hx.2, if_neg (by simp)]
    refine ih _ (by rw [List.length_set]; exact hm) (fun y hy => ?_) hn.2
    have hyy := h y (by simp [hy])
    refine ⟨hyy.1, ?_⟩
    rw [set_getD met _ _ (by omega), hyy.2, Bool.or_false]
    refine decide_eq_false (fun e => hn.1 ?_)
    have : cardOf y = cardOf x := by omega
    rw [← this]
    exact List.mem_map.mpr ⟨y, hy, rfl⟩
/-- A packet of the cards below n, turned or not. -/
def drawn (r : List Int) (n : Nat) : Prop := (r.map cardOf).Perm (seqFrom 0 n) ∧ ∀ x ∈ r, -12 ≤ x ∧ x ≤ 11
theorem drawn_len {r : List Int} {n : Nat} (h : drawn r n) : r.length = n := by
  have := h.1.length_eq
  rwa [List.length_map, seqFrom_length] at this
theorem drawn_packet {r : List Int} {n : Nat} (h : drawn r n) : packetB r = true := by
  have hn : (r.map cardOf).Nodup := h.1.nodup_iff.mpr (nodup_seqFrom n 0)
  refine packetM_of r _ (by simp) (fun x hx => ⟨?_, ?_⟩) hn
  · have hm : cardOf x ∈ seqFrom 0 n := h.1.mem_iff.mp (List.mem_map.mpr ⟨x, hx, rfl⟩)
    exact ((mem_seqFrom n 0 _).mp hm).1
  · have := cardOf_lt x
    generalize (cardOf x).toNat = i
    rw [List.getD_eq_getElem?_getD, List.getElem?_replicate]
    split <;> rfl
theorem cardOf_id (x : Int) (h0 : 0 ≤ x) (h1 : x ≤ 11) : cardOf x = x := by
  unfold cardOf
  rw [if_pos ⟨h0, h1⟩]
theorem drawn_plain {r : List Int} {n : Nat} (h : r.Perm (seqFrom 0 n)) (hn : n ≤ 12) : drawn r n := by
  have hr : ∀ x ∈ r, 0 ≤ x ∧ x ≤ 11 := fun x hx => by
    have := (mem_seqFrom n 0 x).mp (h.mem_iff.mp hx)
    omega
  refine ⟨?_, fun x hx => by have := hr x hx; omega⟩
  rw [List.map_congr_left (g := id) (fun x hx => cardOf_id x (hr x hx).1 (hr x hx).2), List.map_id]
  exact h
theorem cardOf_turn (x : Int) (h0 : -12 ≤ x) (h1 : x ≤ 11) : cardOf (-1 - x) = cardOf x := by
  unfold cardOf
  by_cases c : 0 ≤ x
  · rw [if_neg (by omega), if_pos (by omega), if_pos (by omega)]
    omega
  · rw [if_pos (by omega), if_neg (by omega), if_pos (by omega)]
theorem draw_at (f0 : List Int) (n : Nat) (rest : List Int) : ∀ (pre : List Int) (f1 f2 : Int), (pre ++ rest).length ≤ 1048576 → drawn (pre ++ rest) n → curB f0 f1 →
    ∃ r g1 g2, Ev (fun k => spec_l02Draw.l0 k (pre ++ rest) ((pre ++ rest).length : Int) (pre.length : Int) f0 f1 f2) (r, g1, g2) ∧ drawn r n ∧ curB f0 g1 := by
  induction rest with
  | nil =>
    intro pre f1 f2 hb hd hc
    refine ⟨pre ++ [], f1, f2, Ev.step (f := fun _ => some (pre ++ [], f1, f2)) (fun k => ?_) (Ev.now _), hd, hc⟩
    show spec_l02Draw.l0 (k + 1) _ _ _ f0 f1 f2 = _
    rw [spec_l02Draw.l0, if_neg (mid_nlt _)]
  | cons x rest ih =>
    intro pre f1 f2 hb hd hc
    obtain ⟨b, g1, g2, hbl, hcg⟩ := once_ex f0 f1 f2 3 hc (by omega) (by omega)
    have hx := hd.2 x (by simp)
    have hw := mid_succ pre x (by simp at hb; omega)
    cases b with
    | true =>
      have hd2 : drawn ((pre ++ [-1 - x]) ++ rest) n := by
        obtain ⟨h1, h2⟩ := hd
        refine ⟨?_, fun y hy => ?_⟩
        · simpa [cardOf_turn x hx.1 hx.2] using h1
        · simp only [List.mem_append, List.mem_singleton] at hy
          rcases hy with (hy | rfl) | hy
          · exact h2 y (by simp [hy])
          · omega
          · exact h2 y (by simp [hy])
      obtain ⟨r, e1, e2, he, hr, hc2⟩ := ih (pre ++ [-1 - x]) g1 g2 (by simpa using hb) hd2 hcg
      refine ⟨r, e1, e2, Ev.step (fun k => ?_) he, hr, hc2⟩
      show spec_l02Draw.l0 (k + 1) _ _ _ f0 f1 f2 = _
      rw [spec_l02Draw.l0, if_pos (mid_lt _ _ _), hbl, Option.bind_some, if_pos rfl, if_pos (nn _), if_pos (mid_lt _ _ _), mid_rd, mid_set, hw, w64_id (show -9223372036854775808 ≤ -1 - x by omega) (by omega)]
      simp
    | false =>
      obtain ⟨r, e1, e2, he, hr, hc2⟩ := ih (pre ++ [x]) g1 g2 (by simpa using hb) (by simpa using hd) hcg
      rw [← mid_cons, ← hw] at he
      refine ⟨r, e1, e2, Ev.step (fun k => ?_) he, hr, hc2⟩
      show spec_l02Draw.l0 (k + 1) _ _ _ f0 f1 f2 = _
      rw [spec_l02Draw.l0, if_pos (mid_lt _ _ _), hbl, Option.bind_some, if_neg (by simp)]
theorem draw_ev (f0 : List Int) (f1 f2 a : Int) (h0 : 1 ≤ a) (h1 : a ≤ 12) (hc : curB f0 f1) : ∃ r g1 g2, Ev (fun k => spec_l02Draw.f k f0 f1 f2 a) (r, g1, g2) ∧ (∃ n, 1 ≤ n ∧ n ≤ 12 ∧ drawn r n) ∧ curB f0 g1 := by
  obtain ⟨b, g1, g2, hb, b0, b1, hc1⟩ := below_ex f0 f1 f2 a hc h0 (by omega)
  obtain ⟨j, rfl⟩ := Int.eq_ofNat_of_zero_le b0
  obtain ⟨r, e1, e2, he, hr, hc2⟩ := shuffle_ev f0 (1 + j) g1 g2 (by omega) hc1
  obtain ⟨o, i1, i2, ho, hc3⟩ := once_ex f0 e1 e2 2 hc2 (by omega) (by omega)
  have hd := drawn_plain hr (by omega)
  have hw : wrap64 (1 + (j : Int)) = ((1 + j : Nat) : Int) := by rw [w64_id (by omega) (by omega)]; omega
  unfold spec_l02Draw.f
  simp only [hb, Option.bind_some, hw]
  cases o with
  | true =>
    obtain ⟨r2, u1, u2, hu, hr2, hc4⟩ := draw_at f0 (1 + j) r [] i1 i2 (by have := drawn_len hd; simp; omega) hd hc3
    refine ⟨r2, u1, u2, Ev.bind he ?_, ⟨1 + j, by omega, by omega, hr2⟩, hc4⟩
    simp only [ho, Option.bind_some, if_true]
    exact hu
  | false =>
    refine ⟨r, i1, i2, Ev.bind he ?_, ⟨1 + j, by omega, by omega, hd⟩, hc3⟩
    simp only [ho, Option.bind_some, Bool.false_eq_true, if_false]
    exact Ev.now _
theorem packet_ev (l : List Int) (a b : Int) (hb : l.length ≤ 1048576) (h0 : 0 ≤ a) (h1 : a ≤ 1048576) : ∃ r n, Ev (fun k => spec_MakePacket.f k l a b) r ∧ 1 ≤ n ∧ n ≤ 12 ∧ drawn r n := by
  obtain ⟨g1, g2, hg, hc⟩ := l23_ev l a hb h0 h1
  have hm : 1 ≤ mx 1 (mn b 12) ∧ mx 1 (mn b 12) ≤ 12 := by unfold mx mn; repeat' split <;> omega
  obtain ⟨r, e1, e2, he, ⟨n, n1, n2, hd⟩, _⟩ := draw_ev l g1 g2 _ hm.1 hm.2 hc
  refine ⟨r, n, ?_, n1, n2, hd⟩
  unfold spec_MakePacket.f
  exact Ev.bind hg (Ev.bind he (Ev.now _))
end Go.Proofs.Ytlobampnikhmnaa.F
end
section
/- The ducking deal of a packet that is written out. -/
namespace Go.Proofs.Ytlobampnikhmnaa.F
open Go.RowKit Go.Proofs.YtlobampnikhmnaaW.PrintWords Go.Proofs.YtlobampnikhmnaaW.PrintLast Go.Proofs.YtlobampnikhmnaaW.PrintMore
set_option linter.unusedVariables false
set_option linter.unusedSimpArgs false
def pickL (x : List Int) (ix : List Nat) : List Int := ix.map fun i => x.getD i 0
def ducksR (x : List Int) (K : Int) (q r : List Int) : Prop :=
  (∀ k, impl_moved.f (k + 90) x 7 K = some q) ∧ (∀ k, impl_PrepareDuck.j0 (k + 90) x K false = some (r, true)) ∧ (∀ k, impl_moved.f (k + 90) r 7 K = some x)
def ducksN (n K : Int) (o : List Int) (a v : Int) : Prop := (∀ k, impl_DealOrder.f (k + 90) n K = some o) ∧ (∀ k, impl_LastIndex.f (k + 90) n K = some a) ∧ (∀ k, impl_LastByPower.f (k + 90) n K = some a) ∧ (∀ k, impl_MoveOk.f (k + 90) n 7 K = some true) ∧ (∀ k, impl_isDuck.f (k + 90) n K = some true) ∧ (∀ k, impl_RoundsOf.f (k + 90) n = some v)
theorem ducks_1_0 (x0 : Int) : ducksR [x0] 0 [x0] [x0] := ⟨fun k => by kernel_rfl, fun k => by kernel_rfl, fun k => by kernel_rfl⟩
theorem ducksN_1_0 : ducksN 1 0 [0] 0 0 := ⟨fun k => by kernel_rfl, fun k => by kernel_rfl, fun k => by kernel_rfl, fun k => by kernel_rfl, fun k => by kernel_rfl, fun k => by kernel_rfl⟩
theorem ducks_1_1 (x0 : Int) : ducksR [x0] 1 [x0] [x0] := ⟨fun k => by kernel_rfl, fun k => by kernel_rfl, fun k => by kernel_rfl⟩
theorem ducksN_1_1 : ducksN 1 1 [0] 0 0 := ⟨fun k => by kernel_rfl, fun k => by kernel_rfl, fun k => by kernel_rfl, fun k => by kernel_rfl, fun k => by kernel_rfl, fun k => by kernel_rfl⟩
theorem ducks_2_0 (x0 x1 : Int) : ducksR [x0, x1] 0 [x0, x1] [x0, x1] := ⟨fun k => by kernel_rfl, fun k => by kernel_rfl, fun k => by kernel_rfl⟩
theorem ducksN_2_0 : ducksN 2 0 [1, 0] 0 1 := ⟨fun k => by kernel_rfl, fun k => by kernel_rfl, fun k => by kernel_rfl, fun k => by kernel_rfl, fun k => by kernel_rfl, fun k => by kernel_rfl⟩
theorem ducks_2_1 (x0 x1 : Int) : ducksR [x0, x1] 1 [x1, x0] [x1, x0] := ⟨fun k => by kernel_rfl, fun k => by kernel_rfl, fun k => by kernel_rfl⟩
theorem ducksN_2_1 : ducksN 2 1 [0, 1] 1 1 := ⟨fun k => by kernel_rfl, fun k => by kernel_rfl, fun k => by kernel_rfl, fun k => by kernel_rfl, fun k => by kernel_rfl, fun k => by kernel_rfl⟩
theorem ducks_3_0 (x0 x1 x2 : Int) : ducksR [x0, x1, x2] 0 [x2, x0, x1] [x1, x2, x0] := ⟨fun k => by kernel_rfl, fun k => by kernel_rfl, fun k => by kernel_rfl⟩
theorem ducksN_3_0 : ducksN 3 0 [1, 0, 2] 2 1 := ⟨fun k => by kernel_rfl, fun k => by kernel_rfl, fun k => by kernel_rfl, fun k => by kernel_rfl, fun k => by kernel_rfl, fun k => by kernel_rfl⟩
theorem ducks_3_1 (x0 x1 x2 : Int) : ducksR [x0, x1, x2] 1 [x1, x2, x0] [x2, x0, x1] := ⟨fun k => by kernel_rfl, fun k => by kernel_rfl, fun k => by kernel_rfl⟩
theorem ducksN_3_1 : ducksN 3 1 [0, 2, 1] 1 1 := ⟨fun k => by kernel_rfl, fun k => by kernel_rfl, fun k => by kernel_rfl, fun k => by kernel_rfl, fun k => by kernel_rfl, fun k => by kernel_rfl⟩
theorem ducks_4_0 (x0 x1 x2 x3 : Int) : ducksR [x0, x1, x2, x3] 0 [x0, x2, x3, x1] [x0, x3, x1, x2] := ⟨fun k => by kernel_rfl, fun k => by kernel_rfl, fun k => by kernel_rfl⟩
theorem ducksN_4_0 : ducksN 4 0 [1, 3, 2, 0] 0 2 := ⟨fun k => by kernel_rfl, fun k => by kernel_rfl, fun k => by kernel_rfl, fun k => by kernel_rfl, fun k => by kernel_rfl, fun k => by kernel_rfl⟩
theorem ducks_4_1 (x0 x1 x2 x3 : Int) : ducksR [x0, x1, x2, x3] 1 [x3, x1, x2, x0] [x3, x1, x2, x0] := ⟨fun k => by kernel_rfl, fun k => by kernel_rfl, fun k => by kernel_rfl⟩
theorem ducksN_4_1 : ducksN 4 1 [0, 2, 1, 3] 3 2 := ⟨fun k => by kernel_rfl, fun k => by kernel_rfl, fun k => by kernel_rfl, fun k => by kernel_rfl, fun k => by kernel_rfl, fun k => by kernel_rfl⟩
theorem ducks_5_0 (x0 x1 x2 x3 x4 : Int) : ducksR [x0, x1, x2, x3, x4] 0 [x2, x4, x0, x3, x1] [x2, x4, x0, x3, x1] := ⟨fun k => by kernel_rfl, fun k => by kernel_rfl, fun k => by kernel_rfl⟩
theorem ducksN_5_0 : ducksN 5 0 [1, 3, 0, 4, 2] 2 2 := ⟨fun k => by kernel_rfl, fun k => by kernel_rfl, fun k => by kernel_rfl, fun k => by kernel_rfl, fun k => by kernel_rfl, fun k => by kernel_rfl⟩
theorem ducks_5_1 (x0 x1 x2 x3 x4 : Int) : ducksR [x0, x1, x2, x3, x4] 1 [x1, x3, x4, x2, x0] [x4, x0, x3, x1, x2] := ⟨fun k => by kernel_rfl, fun k => by kernel_rfl, fun k => by kernel_rfl⟩
theorem ducksN_5_1 : ducksN 5 1 [0, 2, 4, 3, 1] 1 2 := ⟨fun k => by kernel_rfl, fun k => by kernel_rfl, fun k => by kernel_rfl, fun k => by kernel_rfl, fun k => by kernel_rfl, fun k => by kernel_rfl⟩
theorem ducks_6_0 (x0 x1 x2 x3 x4 x5 : Int) : ducksR [x0, x1, x2, x3, x4, x5] 0 [x4, x0, x2, x5, x3, x1] [x1, x5, x2, x4, x0, x3] := ⟨fun k => by kernel_rfl, fun k => by kernel_rfl, fun k => by kernel_rfl⟩
theorem ducksN_6_0 : ducksN 6 0 [1, 3, 5, 2, 0, 4] 4 2 := ⟨fun k => by kernel_rfl, fun k => by kernel_rfl, fun k => by kernel_rfl, fun k => by kernel_rfl, fun k => by kernel_rfl, fun k => by kernel_rfl⟩
theorem ducks_6_1 (x0 x1 x2 x3 x4 x5 : Int) : ducksR [x0, x1, x2, x3, x4, x5] 1 [x3, x5, x1, x4, x2, x0] [x5, x2, x4, x0, x3, x1] := ⟨fun k => by kernel_rfl, fun k => by kernel_rfl, fun k => by kernel_rfl⟩
theorem ducksN_6_1 : ducksN 6 1 [0, 2, 4, 1, 5, 3] 3 2 := ⟨fun k => by kernel_rfl, fun k => by kernel_rfl, fun k => by kernel_rfl, fun k => by kernel_rfl, fun k => by kernel_rfl, fun k => by kernel_rfl⟩
theorem ducks_7_0 (x0 x1 x2 x3 x4 x5 x6 : Int) : ducksR [x0, x1, x2, x3, x4, x5, x6] 0 [x6, x2, x4, x0, x5, x3, x1] [x3, x6, x1, x5, x2, x4, x0] := ⟨fun k => by kernel_rfl, fun k => by kernel_rfl, fun k => by kernel_rfl⟩
theorem ducksN_7_0 : ducksN 7 0 [1, 3, 5, 0, 4, 2, 6] 6 2 := ⟨fun k => by kernel_rfl, fun k => by kernel_rfl, fun k => by kernel_rfl, fun k => by kernel_rfl, fun k => by kernel_rfl, fun k => by kernel_rfl⟩
theorem ducks_7_1 (x0 x1 x2 x3 x4 x5 x6 : Int) : ducksR [x0, x1, x2, x3, x4, x5, x6] 1 [x5, x1, x3, x6, x4, x2, x0] [x6, x1, x5, x2, x4, x0, x3] := ⟨fun k => by kernel_rfl, fun k => by kernel_rfl, fun k => by kernel_rfl⟩
theorem ducksN_7_1 : ducksN 7 1 [0, 2, 4, 6, 3, 1, 5] 5 2 := ⟨fun k => by kernel_rfl, fun k => by kernel_rfl, fun k => by kernel_rfl, fun k => by kernel_rfl, fun k => by kernel_rfl, fun k => by kernel_rfl⟩
theorem ducks_8_0 (x0 x1 x2 x3 x4 x5 x6 x7 : Int) : ducksR [x0, x1, x2, x3, x4, x5, x6, x7] 0 [x0, x4, x6, x2, x7, x5, x3, x1] [x0, x7, x3, x6, x1, x5, x2, x4] := ⟨fun k => by kernel_rfl, fun k => by kernel_rfl, fun k => by kernel_rfl⟩
theorem ducksN_8_0 : ducksN 8 0 [1, 3, 5, 7, 2, 6, 4, 0] 0 3 := ⟨fun k => by kernel_rfl, fun k => by kernel_rfl, fun k => by kernel_rfl, fun k => by kernel_rfl, fun k => by kernel_rfl, fun k => by kernel_rfl⟩
theorem ducks_8_1 (x0 x1 x2 x3 x4 x5 x6 x7 : Int) : ducksR [x0, x1, x2, x3, x4, x5, x6, x7] 1 [x7, x3, x5, x1, x6, x4, x2, x0] [x7, x3, x6, x1, x5, x2, x4, x0] := ⟨fun k => by kernel_rfl, fun k => by kernel_rfl, fun k => by kernel_rfl⟩
theorem ducksN_8_1 : ducksN 8 1 [0, 2, 4, 6, 1, 5, 3, 7] 7 3 := ⟨fun k => by kernel_rfl, fun k => by kernel_rfl, fun k => by kernel_rfl, fun k => by kernel_rfl, fun k => by kernel_rfl, fun k => by kernel_rfl⟩
theorem ducks_9_0 (x0 x1 x2 x3 x4 x5 x6 x7 x8 : Int) : ducksR [x0, x1, x2, x3, x4, x5, x6, x7, x8] 0 [x2, x6, x8, x4, x0, x7, x5, x3, x1] [x4, x8, x0, x7, x3, x6, x1, x5, x2] := ⟨fun k => by kernel_rfl, fun k => by kernel_rfl, fun k => by kernel_rfl⟩
theorem ducksN_9_0 : ducksN 9 0 [1, 3, 5, 7, 0, 4, 8, 6, 2] 2 3 := ⟨fun k => by kernel_rfl, fun k => by kernel_rfl, fun k => by kernel_rfl, fun k => by kernel_rfl, fun k => by kernel_rfl, fun k => by kernel_rfl⟩
theorem ducks_9_1 (x0 x1 x2 x3 x4 x5 x6 x7 x8 : Int) : ducksR [x0, x1, x2, x3, x4, x5, x6, x7, x8] 1 [x1, x5, x7, x3, x8, x6, x4, x2, x0] [x8, x0, x7, x3, x6, x1, x5, x2, x4] := ⟨fun k => by kernel_rfl, fun k => by kernel_rfl, fun k => by kernel_rfl⟩
theorem ducksN_9_1 : ducksN 9 1 [0, 2, 4, 6, 8, 3, 7, 5, 1] 1 3 := ⟨fun k => by kernel_rfl, fun k => by kernel_rfl, fun k => by kernel_rfl, fun k => by kernel_rfl, fun k => by kernel_rfl, fun k => by kernel_rfl⟩
theorem ducks_10_0 (x0 x1 x2 x3 x4 x5 x6 x7 x8 x9 : Int) : ducksR [x0, x1, x2, x3, x4, x5, x6, x7, x8, x9] 0 [x4, x8, x0, x6, x2, x9, x7, x5, x3, x1] [x2, x9, x4, x8, x0, x7, x3, x6, x1, x5] := ⟨fun k => by kernel_rfl, fun k => by kernel_rfl, fun k => by kernel_rfl⟩
theorem ducksN_10_0 : ducksN 10 0 [1, 3, 5, 7, 9, 2, 6, 0, 8, 4] 4 3 := ⟨fun k => by kernel_rfl, fun k => by kernel_rfl, fun k => by kernel_rfl, fun k => by kernel_rfl, fun k => by kernel_rfl, fun k => by kernel_rfl⟩
theorem ducks_10_1 (x0 x1 x2 x3 x4 x5 x6 x7 x8 x9 : Int) : ducksR [x0, x1, x2, x3, x4, x5, x6, x7, x8, x9] 1 [x3, x7, x9, x5, x1, x8, x6, x4, x2, x0] [x9, x4, x8, x0, x7, x3, x6, x1, x5, x2] := ⟨fun k => by kernel_rfl, fun k => by kernel_rfl, fun k => by kernel_rfl⟩
theorem ducksN_10_1 : ducksN 10 1 [0, 2, 4, 6, 8, 1, 5, 9, 7, 3] 3 3 := ⟨fun k => by kernel_rfl, fun k => by kernel_rfl, fun k => by kernel_rfl, fun k => by kernel_rfl, fun k => by kernel_rfl, fun k => by kernel_rfl⟩
theorem ducks_11_0 (x0 x1 x2 x3 x4 x5 x6 x7 x8 x9 x10 : Int) : ducksR [x0, x1, x2, x3, x4, x5, x6, x7, x8, x9, x10] 0 [x6, x10, x2, x8, x4, x0, x9, x7, x5, x3, x1] [x5, x10, x2, x9, x4, x8, x0, x7, x3, x6, x1] := ⟨fun k => by kernel_rfl, fun k => by kernel_rfl, fun k => by kernel_rfl⟩
theorem ducksN_11_0 : ducksN 11 0 [1, 3, 5, 7, 9, 0, 4, 8, 2, 10, 6] 6 3 := ⟨fun k => by kernel_rfl, fun k => by kernel_rfl, fun k => by kernel_rfl, fun k => by kernel_rfl, fun k => by kernel_rfl, fun k => by kernel_rfl⟩
theorem ducks_11_1 (x0 x1 x2 x3 x4 x5 x6 x7 x8 x9 x10 : Int) : ducksR [x0, x1, x2, x3, x4, x5, x6, x7, x8, x9, x10] 1 [x5, x9, x1, x7, x3, x10, x8, x6, x4, x2, x0] [x10, x2, x9, x4, x8, x0, x7, x3, x6, x1, x5] := ⟨fun k => by kernel_rfl, fun k => by kernel_rfl, fun k => by kernel_rfl⟩
theorem ducksN_11_1 : ducksN 11 1 [0, 2, 4, 6, 8, 10, 3, 7, 1, 9, 5] 5 3 := ⟨fun k => by kernel_rfl, fun k => by kernel_rfl, fun k => by kernel_rfl, fun k => by kernel_rfl, fun k => by kernel_rfl, fun k => by kernel_rfl⟩
theorem ducks_12_0 (x0 x1 x2 x3 x4 x5 x6 x7 x8 x9 x10 x11 : Int) : ducksR [x0, x1, x2, x3, x4, x5, x6, x7, x8, x9, x10, x11] 0 [x8, x0, x4, x10, x6, x2, x11, x9, x7, x5, x3, x1] [x1, x11, x5, x10, x2, x9, x4, x8, x0, x7, x3, x6] := ⟨fun k => by kernel_rfl, fun k => by kernel_rfl, fun k => by kernel_rfl⟩
theorem ducksN_12_0 : ducksN 12 0 [1, 3, 5, 7, 9, 11, 2, 6, 10, 4, 0, 8] 8 3 := ⟨fun k => by kernel_rfl, fun k => by kernel_rfl, fun k => by kernel_rfl, fun k => by kernel_rfl, fun k => by kernel_rfl, fun k => by kernel_rfl⟩
theorem ducks_12_1 (x0 x1 x2 x3 x4 x5 x6 x7 x8 x9 x10 x11 : Int) : ducksR [x0, x1, x2, x3, x4, x5, x6, x7, x8, x9, x10, x11] 1 [x7, x11, x3, x9, x5, x1, x10, x8, x6, x4, x2, x0] [x11, x5, x10, x2, x9, x4, x8, x0, x7, x3, x6, x1] := ⟨fun k => by kernel_rfl, fun k => by kernel_rfl, fun k => by kernel_rfl⟩
theorem ducksN_12_1 : ducksN 12 1 [0, 2, 4, 6, 8, 10, 1, 5, 9, 3, 11, 7] 7 3 := ⟨fun k => by kernel_rfl, fun k => by kernel_rfl, fun k => by kernel_rfl, fun k => by kernel_rfl, fun k => by kernel_rfl, fun k => by kernel_rfl⟩
end Go.Proofs.Ytlobampnikhmnaa.F
end
section
/- The facts of every ducking deal: what the law asks. -/
namespace Go.Proofs.Ytlobampnikhmnaa.F
open Go.RowKit Go.Proofs.YtlobampnikhmnaaW.PrintWords Go.Proofs.YtlobampnikhmnaaW.PrintLast Go.Proofs.YtlobampnikhmnaaW.PrintMore
set_option linter.unusedVariables false
set_option linter.unusedSimpArgs false
def dataOk (p : List Int) (n : Nat) (K : Int) : Prop := ∃ (q r o : List Int) (a v : Int), ducksR p K q r ∧ ducksN (n : Int) K o a v ∧ p.length = n ∧ q.length = n ∧ o.length = n ∧ r.Perm p ∧ (0 ≤ a ∧ a < (n : Int) ∧ rd q 0 = rd p a) ∧
  (∀ i : Nat, i < n → 0 ≤ o.getD i 0 ∧ o.getD i 0 < (n : Int) ∧ rd q ((n : Int) - 1 - (i : Int)) = rd p (o.getD i 0)) ∧ (0 ≤ v ∧ v ≤ 3) ∧ (shl .i64 1 v ≤ (n : Int) ∧ (n : Int) < shl .i64 2 v)
theorem perm_ix (x : List Int) (a b : List Nat) (h : a.Perm b) : (pickL x a).Perm (pickL x b) := h.map _
theorem data_1_0 (x0 : Int) : dataOk [x0] 1 0 := by
  refine ⟨_, _, _, _, _, ducks_1_0 x0, ducksN_1_0, rfl, rfl, rfl, ?_, ⟨by decide, by decide, rfl⟩, ?_, by decide, by decide +kernel⟩
  · exact perm_ix [x0] [0] [0] (by decide)
  · intro i hi
    match i, hi with
    | 0, _ => exact ⟨by decide, by decide, rfl⟩
theorem data_1_1 (x0 : Int) : dataOk [x0] 1 1 := by
  refine ⟨_, _, _, _, _, ducks_1_1 x0, ducksN_1_1, rfl, rfl, rfl, ?_, ⟨by decide, by decide, rfl⟩, ?_, by decide, by decide +kernel⟩
  · exact perm_ix [x0] [0] [0] (by decide)
  · intro i hi
    match i, hi with
    | 0, _ => exact ⟨by decide, by decide, rfl⟩
theorem data_2_0 (x0 x1 : Int) : dataOk [x0, x1] 2 0 := by
  refine ⟨_, _, _, _, _, ducks_2_0 x0 x1, ducksN_2_0, rfl, rfl, rfl, ?_, ⟨by decide, by decide, rfl⟩, ?_, by decide, by decide +kernel⟩
  · exact perm_ix [x0, x1] [0, 1] [0, 1] (by decide)
  · intro i hi
    match i, hi with
    | 0, _ => exact ⟨by decide, by decide, rfl⟩
    | 1, _ => exact ⟨by decide, by decide, rfl⟩
theorem data_2_1 (x0 x1 : Int) : dataOk [x0, x1] 2 1 := by
  refine ⟨_, _, _, _, _, ducks_2_1 x0 x1, ducksN_2_1, rfl, rfl, rfl, ?_, ⟨by decide, by decide, rfl⟩, ?_, by decide, by decide +kernel⟩
  · exact perm_ix [x0, x1] [1, 0] [0, 1] (by decide)
  · intro i hi
    match i, hi with
    | 0, _ => exact ⟨by decide, by decide, rfl⟩
    | 1, _ => exact ⟨by decide, by decide, rfl⟩
theorem data_3_0 (x0 x1 x2 : Int) : dataOk [x0, x1, x2] 3 0 := by
  refine ⟨_, _, _, _, _, ducks_3_0 x0 x1 x2, ducksN_3_0, rfl, rfl, rfl, ?_, ⟨by decide, by decide, rfl⟩, ?_, by decide, by decide +kernel⟩
  · exact perm_ix [x0, x1, x2] [1, 2, 0] [0, 1, 2] (by decide)
  · intro i hi
    match i, hi with
    | 0, _ => exact ⟨by decide, by decide, rfl⟩
    | 1, _ => exact ⟨by decide, by decide, rfl⟩
    | 2, _ => exact ⟨by decide, by decide, rfl⟩
theorem data_3_1 (x0 x1 x2 : Int) : dataOk [x0, x1, x2] 3 1 := by
  refine ⟨_, _, _, _, _, ducks_3_1 x0 x1 x2, ducksN_3_1, rfl, rfl, rfl, ?_, ⟨by decide, by decide, rfl⟩, ?_, by decide, by decide +kernel⟩
  · exact perm_ix [x0, x1, x2] [2, 0, 1] [0, 1, 2] (by decide)
  · intro i hi
    match i, hi with
    | 0, _ => exact ⟨by decide, by decide, rfl⟩
    | 1, _ => exact ⟨by decide, by decide, rfl⟩
    | 2, _ => exact ⟨by decide, by decide, rfl⟩
theorem data_4_0 (x0 x1 x2 x3 : Int) : dataOk [x0, x1, x2, x3] 4 0 := by
  refine ⟨_, _, _, _, _, ducks_4_0 x0 x1 x2 x3, ducksN_4_0, rfl, rfl, rfl, ?_, ⟨by decide, by decide, rfl⟩, ?_, by decide, by decide +kernel⟩
  · exact perm_ix [x0, x1, x2, x3] [0, 3, 1, 2] [0, 1, 2, 3] (by decide)
  · intro i hi
    match i, hi with
    | 0, _ => exact ⟨by decide, by decide, rfl⟩
    | 1, _ => exact ⟨by decide, by decide, rfl⟩
    | 2, _ => exact ⟨by decide, by decide, rfl⟩
    | 3, _ => exact ⟨by decide, by decide, rfl⟩
theorem data_4_1 (x0 x1 x2 x3 : Int) : dataOk [x0, x1, x2, x3] 4 1 := by
  refine ⟨_, _, _, _, _, ducks_4_1 x0 x1 x2 x3, ducksN_4_1, rfl, rfl, rfl, ?_, ⟨by decide, by decide, rfl⟩, ?_, by decide, by decide +kernel⟩
  · exact perm_ix [x0, x1, x2, x3] [3, 1, 2, 0] [0, 1, 2, 3] (by decide)
  · intro i hi
    match i, hi with
    | 0, _ => exact ⟨by decide, by decide, rfl⟩
    | 1, _ => exact ⟨by decide, by decide, rfl⟩
    | 2, _ => exact ⟨by decide, by decide, rfl⟩
    | 3, _ => exact ⟨by decide, by decide, rfl⟩
theorem data_5_0 (x0 x1 x2 x3 x4 : Int) : dataOk [x0, x1, x2, x3, x4] 5 0 := by
  refine ⟨_, _, _, _, _, ducks_5_0 x0 x1 x2 x3 x4, ducksN_5_0, rfl, rfl, rfl, ?_, ⟨by decide, by decide, rfl⟩, ?_, by decide, by decide +kernel⟩
  · exact perm_ix [x0, x1, x2, x3, x4] [2, 4, 0, 3, 1] [0, 1, 2, 3, 4] (by decide)
  · intro i hi
    match i, hi with
    | 0, _ => exact ⟨by decide, by decide, rfl⟩
    | 1, _ => exact ⟨by decide, by decide, rfl⟩
    | 2, _ => exact ⟨by decide, by decide, rfl⟩
    | 3, _ => exact ⟨by decide, by decide, rfl⟩
    | 4, _ => exact ⟨by decide, by decide, rfl⟩
theorem data_5_1 (x0 x1 x2 x3 x4 : Int) : dataOk [x0, x1, x2, x3, x4] 5 1 := by
  refine ⟨_, _, _, _, _, ducks_5_1 x0 x1 x2 x3 x4, ducksN_5_1, rfl, rfl, rfl, ?_, ⟨by decide, by decide, rfl⟩, ?_, by decide, by decide +kernel⟩
  · exact perm_ix [x0, x1, x2, x3, x4] [4, 0, 3, 1, 2] [0, 1, 2, 3, 4] (by decide)
  · intro i hi
    match i, hi with
    | 0, _ => exact ⟨by decide, by decide, rfl⟩
    | 1, _ => exact ⟨by decide, by decide, rfl⟩
    | 2, _ => exact ⟨by decide, by decide, rfl⟩
    | 3, _ => exact ⟨by decide, by decide, rfl⟩
    | 4, _ => exact ⟨by decide, by decide, rfl⟩
theorem data_6_0 (x0 x1 x2 x3 x4 x5 : Int) : dataOk [x0, x1, x2, x3, x4, x5] 6 0 := by
  refine ⟨_, _, _, _, _, ducks_6_0 x0 x1 x2 x3 x4 x5, ducksN_6_0, rfl, rfl, rfl, ?_, ⟨by decide, by decide, rfl⟩, ?_, by decide, by decide +kernel⟩
  · exact perm_ix [x0, x1, x2, x3, x4, x5] [1, 5, 2, 4, 0, 3] [0, 1, 2, 3, 4, 5] (by decide)
  · intro i hi
    match i, hi with
    | 0, _ => exact ⟨by decide, by decide, rfl⟩
    | 1, _ => exact ⟨by decide, by decide, rfl⟩
    | 2, _ => exact ⟨by decide, by decide, rfl⟩
    | 3, _ => exact ⟨by decide, by decide, rfl⟩
    | 4, _ => exact ⟨by decide, by decide, rfl⟩
    | 5, _ => exact ⟨by decide, by decide, rfl⟩
theorem data_6_1 (x0 x1 x2 x3 x4 x5 : Int) : dataOk [x0, x1, x2, x3, x4, x5] 6 1 := by
  refine ⟨_, _, _, _, _, ducks_6_1 x0 x1 x2 x3 x4 x5, ducksN_6_1, rfl, rfl, rfl, ?_, ⟨by decide, by decide, rfl⟩, ?_, by decide, by decide +kernel⟩
  · exact perm_ix [x0, x1, x2, x3, x4, x5] [5, 2, 4, 0, 3, 1] [0, 1, 2, 3, 4, 5] (by decide)
  · intro i hi
    match i, hi with
    | 0, _ => exact ⟨by decide, by decide, rfl⟩
    | 1, _ => exact ⟨by decide, by decide, rfl⟩
    | 2, _ => exact ⟨by decide, by decide, rfl⟩
    | 3, _ => exact ⟨by decide, by decide, rfl⟩
    | 4, _ => exact ⟨by decide, by decide, rfl⟩
    | 5, _ => exact ⟨by decide, by decide, rfl⟩
theorem data_7_0 (x0 x1 x2 x3 x4 x5 x6 : Int) : dataOk [x0, x1, x2, x3, x4, x5, x6] 7 0 := by
  refine ⟨_, _, _, _, _, ducks_7_0 x0 x1 x2 x3 x4 x5 x6, ducksN_7_0, rfl, rfl, rfl, ?_, ⟨by decide, by decide, rfl⟩, ?_, by decide, by decide +kernel⟩
  · exact perm_ix [x0, x1, x2, x3, x4, x5, x6] [3, 6, 1, 5, 2, 4, 0] [0, 1, 2, 3, 4, 5, 6] (by decide)
  · intro i hi
    match i, hi with
    | 0, _ => exact ⟨by decide, by decide, rfl⟩
    | 1, _ => exact ⟨by decide, by decide, rfl⟩
    | 2, _ => exact ⟨by decide, by decide, rfl⟩
    | 3, _ => exact ⟨by decide, by decide, rfl⟩
    | 4, _ => exact ⟨by decide, by decide, rfl⟩
    | 5, _ => exact ⟨by decide, by decide, rfl⟩
    | 6, _ => exact ⟨by decide, by decide, rfl⟩
theorem data_7_1 (x0 x1 x2 x3 x4 x5 x6 : Int) : dataOk [x0, x1, x2, x3, x4, x5, x6] 7 1 := by
  refine ⟨_, _, _, _, _, ducks_7_1 x0 x1 x2 x3 x4 x5 x6, ducksN_7_1, rfl, rfl, rfl, ?_, ⟨by decide, by decide, rfl⟩, ?_, by decide, by decide +kernel⟩
  · exact perm_ix [x0, x1, x2, x3, x4, x5, x6] [6, 1, 5, 2, 4, 0, 3] [0, 1, 2, 3, 4, 5, 6] (by decide)
  · intro i hi
    match i, hi with
    | 0, _ => exact ⟨by decide, by decide, rfl⟩
    | 1, _ => exact ⟨by decide, by decide, rfl⟩
    | 2, _ => exact ⟨by decide, by decide, rfl⟩
    | 3, _ => exact ⟨by decide, by decide, rfl⟩
    | 4, _ => exact ⟨by decide, by decide, rfl⟩
    | 5, _ => exact ⟨by decide, by decide, rfl⟩
    | 6, _ => exact ⟨by decide, by decide, rfl⟩
theorem data_8_0 (x0 x1 x2 x3 x4 x5 x6 x7 : Int) : dataOk [x0, x1, x2, x3, x4, x5, x6, x7] 8 0 := by
  refine ⟨_, _, _, _, _, ducks_8_0 x0 x1 x2 x3 x4 x5 x6 x7, ducksN_8_0, rfl, rfl, rfl, ?_, ⟨by decide, by decide, rfl⟩, ?_, by decide, by decide +kernel⟩
  · exact perm_ix [x0, x1, x2, x3, x4, x5, x6, x7] [0, 7, 3, 6, 1, 5, 2, 4] [0, 1, 2, 3, 4, 5, 6, 7] (by decide)
  · intro i hi
    match i, hi with
    | 0, _ => exact ⟨by decide, by decide, rfl⟩
    | 1, _ => exact ⟨by decide, by decide, rfl⟩
    | 2, _ => exact ⟨by decide, by decide, rfl⟩
    | 3, _ => exact ⟨by decide, by decide, rfl⟩
    | 4, _ => exact ⟨by decide, by decide, rfl⟩
    | 5, _ => exact ⟨by decide, by decide, rfl⟩
    | 6, _ => exact ⟨by decide, by decide, rfl⟩
    | 7, _ => exact ⟨by decide, by decide, rfl⟩
theorem data_8_1 (x0 x1 x2 x3 x4 x5 x6 x7 : Int) : dataOk [x0, x1, x2, x3, x4, x5, x6, x7] 8 1 := by
  refine ⟨_, _, _, _, _, ducks_8_1 x0 x1 x2 x3 x4 x5 x6 x7, ducksN_8_1, rfl, rfl, rfl, ?_, ⟨by decide, by decide, rfl⟩, ?_, by decide, by decide +kernel⟩
  · exact perm_ix [x0, x1, x2, x3, x4, x5, x6, x7] [7, 3, 6, 1, 5, 2, 4, 0] [0, 1, 2, 3, 4, 5, 6, 7] (by decide)
  · intro i hi
    match i, hi with
    | 0, _ => exact ⟨by decide, by decide, rfl⟩
    | 1, _ => exact ⟨by decide, by decide, rfl⟩
    | 2, _ => exact ⟨by decide, by decide, rfl⟩
    | 3, _ => exact ⟨by decide, by decide, rfl⟩
    | 4, _ => exact ⟨by decide, by decide, rfl⟩
    | 5, _ => exact ⟨by decide, by decide, rfl⟩
    | 6, _ => exact ⟨by decide, by decide, rfl⟩
    | 7, _ => exact ⟨by decide, by decide, rfl⟩
theorem data_9_0 (x0 x1 x2 x3 x4 x5 x6 x7 x8 : Int) : dataOk [x0, x1, x2, x3, x4, x5, x6, x7, x8] 9 0 := by
  refine ⟨_, _, _, _, _, ducks_9_0 x0 x1 x2 x3 x4 x5 x6 x7 x8, ducksN_9_0, rfl, rfl, rfl, ?_, ⟨by decide, by decide, rfl⟩, ?_, by decide, by decide +kernel⟩
  · exact perm_ix [x0, x1, x2, x3, x4, x5, x6, x7, x8] [4, 8, 0, 7, 3, 6, 1, 5, 2] [0, 1, 2, 3, 4, 5, 6, 7, 8] (by decide)
  · intro i hi
    match i, hi with
    | 0, _ => exact ⟨by decide, by decide, rfl⟩
    | 1, _ => exact ⟨by decide, by decide, rfl⟩
    | 2, _ => exact ⟨by decide, by decide, rfl⟩
    | 3, _ => exact ⟨by decide, by decide, rfl⟩
    | 4, _ => exact ⟨by decide, by decide, rfl⟩
    | 5, _ => exact ⟨by decide, by decide, rfl⟩
    | 6, _ => exact ⟨by decide, by decide, rfl⟩
    | 7, _ => exact ⟨by decide, by decide, rfl⟩
    | 8, _ => exact ⟨by decide, by decide, rfl⟩
theorem data_9_1 (x0 x1 x2 x3 x4 x5 x6 x7 x8 : Int) : dataOk [x0, x1, x2, x3, x4, x5, x6, x7, x8] 9 1 := by
  refine ⟨_, _, _, _, _, ducks_9_1 x0 x1 x2 x3 x4 x5 x6 x7 x8, ducksN_9_1, rfl, rfl, rfl, ?_, ⟨by decide, by decide, rfl⟩, ?_, by decide, by decide +kernel⟩
  · exact perm_ix [x0, x1, x2, x3, x4, x5, x6, x7, x8] [8, 0, 7, 3, 6, 1, 5, 2, 4] [0, 1, 2, 3, 4, 5, 6, 7, 8] (by decide)
  · intro i hi
    match i, hi with
    | 0, _ => exact ⟨by decide, by decide, rfl⟩
    | 1, _ => exact ⟨by decide, by decide, rfl⟩
    | 2, _ => exact ⟨by decide, by decide, rfl⟩
    | 3, _ => exact ⟨by decide, by decide, rfl⟩
    | 4, _ => exact ⟨by decide, by decide, rfl⟩
    | 5, _ => exact ⟨by decide, by decide, rfl⟩
    | 6, _ => exact ⟨by decide, by decide, rfl⟩
    | 7, _ => exact ⟨by decide, by decide, rfl⟩
    | 8, _ => exact ⟨by decide, by decide, rfl⟩
theorem data_10_0 (x0 x1 x2 x3 x4 x5 x6 x7 x8 x9 : Int) : dataOk [x0, x1, x2, x3, x4, x5, x6, x7, x8, x9] 10 0 := by
  refine ⟨_, _, _, _, _, ducks_10_0 x0 x1 x2 x3 x4 x5 x6 x7 x8 x9, ducksN_10_0, rfl, rfl, rfl, ?_, ⟨by decide, by decide, rfl⟩, ?_, by decide, by decide +kernel⟩
  · exact perm_ix [x0, x1, x2, x3, x4, x5, x6, x7, x8, x9] [2, 9, 4, 8, 0, 7, 3, 6, 1, 5] [0, 1, 2, 3, 4, 5, 6, 7, 8, 9] (by decide)
  · intro i hi
    match i, hi with
    | 0, _ => exact ⟨by decide, by decide, rfl⟩
    | 1, _ => exact ⟨by decide, by decide, rfl⟩
    | 2, _ => exact ⟨by decide, by decide, rfl⟩
    | 3, _ => exact ⟨by decide, by decide, rfl⟩
    | 4, _ => exact ⟨by decide, by decide, rfl⟩
    | 5, _ => exact ⟨by decide, by decide, rfl⟩
    | 6, _ => exact ⟨by decide, by decide, rfl⟩
    | 7, _ => exact ⟨by decide, by decide, rfl⟩
    | 8, _ => exact ⟨by decide, by decide, rfl⟩
    | 9, _ => exact ⟨by decide, by decide, rfl⟩
theorem data_10_1 (x0 x1 x2 x3 x4 x5 x6 x7 x8 x9 : Int) : dataOk [x0, x1, x2, x3, x4, x5, x6, x7, x8, x9] 10 1 := by
  refine ⟨_, _, _, _, _, ducks_10_1 x0 x1 x2 x3 x4 x5 x6 x7 x8 x9, ducksN_10_1, rfl, rfl, rfl, ?_, ⟨by decide, by decide, rfl⟩, ?_, by decide, by decide +kernel⟩
  · exact perm_ix [x0, x1, x2, x3, x4, x5, x6, x7, x8, x9] [9, 4, 8, 0, 7, 3, 6, 1, 5, 2] [0, 1, 2, 3, 4, 5, 6, 7, 8, 9] (by decide)
  · intro i hi
    match i, hi with
    | 0, _ => exact ⟨by decide, by decide, rfl⟩
    | 1, _ => exact ⟨by decide, by decide, rfl⟩
    | 2, _ => exact ⟨by decide, by decide, rfl⟩
    | 3, _ => exact ⟨by decide, by decide, rfl⟩
    | 4, _ => exact ⟨by decide, by decide, rfl⟩
    | 5, _ => exact ⟨by decide, by decide, rfl⟩
    | 6, _ => exact ⟨by decide, by decide, rfl⟩
    | 7, _ => exact ⟨by decide, by decide, rfl⟩
    | 8, _ => exact ⟨by decide, by decide, rfl⟩
    | 9, _ => exact ⟨by decide, by decide, rfl⟩
theorem data_11_0 (x0 x1 x2 x3 x4 x5 x6 x7 x8 x9 x10 : Int) : dataOk [x0, x1, x2, x3, x4, x5, x6, x7, x8, x9, x10] 11 0 := by
  refine ⟨_, _, _, _, _, ducks_11_0 x0 x1 x2 x3 x4 x5 x6 x7 x8 x9 x10, ducksN_11_0, rfl, rfl, rfl, ?_, ⟨by decide, by decide, rfl⟩, ?_, by decide, by decide +kernel⟩
  · exact perm_ix [x0, x1, x2, x3, x4, x5, x6, x7, x8, x9, x10] [5, 10, 2, 9, 4, 8, 0, 7, 3, 6, 1] [0, 1, 2, 3, 4, 5, 6, 7, 8, 9, 10] (by decide)
  · intro i hi
    match i, hi with
    | 0, _ => exact ⟨by decide, by decide, rfl⟩
    | 1, _ => exact ⟨by decide, by decide, rfl⟩
    | 2, _ => exact ⟨by decide, by decide, rfl⟩
    | 3, _ => exact ⟨by decide, by decide, rfl⟩
    | 4, _ => exact ⟨by decide, by decide, rfl⟩
    | 5, _ => exact ⟨by decide, by decide, rfl⟩
    | 6, _ => exact ⟨by decide, by decide, rfl⟩
    | 7, _ => exact ⟨by decide, by decide, rfl⟩
    | 8, _ => exact ⟨by decide, by decide, rfl⟩
    | 9, _ => exact ⟨by decide, by decide, rfl⟩
    | 10, _ => exact ⟨by decide, by decide, rfl⟩
theorem data_11_1 (x0 x1 x2 x3 x4 x5 x6 x7 x8 x9 x10 : Int) : dataOk [x0, x1, x2, x3, x4, x5, x6, x7, x8, x9, x10] 11 1 := by
  refine ⟨_, _, _, _, _, ducks_11_1 x0 x1 x2 x3 x4 x5 x6 x7 x8 x9 x10, ducksN_11_1, rfl, rfl, rfl, ?_, ⟨by decide, by decide, rfl⟩, ?_, by decide, by decide +kernel⟩
  · exact perm_ix [x0, x1, x2, x3, x4, x5, x6, x7, x8, x9, x10] [10, 2, 9, 4, 8, 0, 7, 3, 6, 1, 5] [0, 1, 2, 3, 4, 5, 6, 7, 8, 9, 10] (by decide)
  · intro i hi
    match i, hi with
    | 0, _ => exact ⟨by decide, by decide, rfl⟩
    | 1, _ => exact ⟨by decide, by decide, rfl⟩
    | 2, _ => exact ⟨by decide, by decide, rfl⟩
    | 3, _ => exact ⟨by decide, by decide, rfl⟩
    | 4, _ => exact ⟨by decide, by decide, rfl⟩
    | 5, _ => exact ⟨by decide, by decide, rfl⟩
    | 6, _ => exact ⟨by decide, by decide, rfl⟩
    | 7, _ => exact ⟨by decide, by decide, rfl⟩
    | 8, _ => exact ⟨by decide, by decide, rfl⟩
    | 9, _ => exact ⟨by decide, by decide, rfl⟩
    | 10, _ => exact ⟨by decide, by decide, rfl⟩
theorem data_12_0 (x0 x1 x2 x3 x4 x5 x6 x7 x8 x9 x10 x11 : Int) : dataOk [x0, x1, x2, x3, x4, x5, x6, x7, x8, x9, x10, x11] 12 0 := by
  refine ⟨_, _, _, _, _, ducks_12_0 x0 x1 x2 x3 x4 x5 x6 x7 x8 x9 x10 x11, ducksN_12_0, rfl, rfl, rfl, ?_, ⟨by decide, by decide, rfl⟩, ?_, by decide, by decide +kernel⟩
  · exact perm_ix [x0, x1, x2, x3, x4, x5, x6, x7, x8, x9, x10, x11] [1, 11, 5, 10, 2, 9, 4, 8, 0, 7, 3, 6] [0, 1, 2, 3, 4, 5, 6, 7, 8, 9, 10, 11] (by decide)
  · intro i hi
    match i, hi with
    | 0, _ => exact ⟨by decide, by decide, rfl⟩
    | 1, _ => exact ⟨by decide, by decide, rfl⟩
    | 2, _ => exact ⟨by decide, by decide, rfl⟩
    | 3, _ => exact ⟨by decide, by decide, rfl⟩
    | 4, _ => exact ⟨by decide, by decide, rfl⟩
    | 5, _ => exact ⟨by decide, by decide, rfl⟩
    | 6, _ => exact ⟨by decide, by decide, rfl⟩
    | 7, _ => exact ⟨by decide, by decide, rfl⟩
    | 8, _ => exact ⟨by decide, by decide, rfl⟩
    | 9, _ => exact ⟨by decide, by decide, rfl⟩
    | 10, _ => exact ⟨by decide, by decide, rfl⟩
    | 11, _ => exact ⟨by decide, by decide, rfl⟩
theorem data_12_1 (x0 x1 x2 x3 x4 x5 x6 x7 x8 x9 x10 x11 : Int) : dataOk [x0, x1, x2, x3, x4, x5, x6, x7, x8, x9, x10, x11] 12 1 := by
  refine ⟨_, _, _, _, _, ducks_12_1 x0 x1 x2 x3 x4 x5 x6 x7 x8 x9 x10 x11, ducksN_12_1, rfl, rfl, rfl, ?_, ⟨by decide, by decide, rfl⟩, ?_, by decide, by decide +kernel⟩
  · exact perm_ix [x0, x1, x2, x3, x4, x5, x6, x7, x8, x9, x10, x11] [11, 5, 10, 2, 9, 4, 8, 0, 7, 3, 6, 1] [0, 1, 2, 3, 4, 5, 6, 7, 8, 9, 10, 11] (by decide)
  · intro i hi
    match i, hi with
    | 0, _ => exact ⟨by decide, by decide, rfl⟩
    | 1, _ => exact ⟨by decide, by decide, rfl⟩
    | 2, _ => exact ⟨by decide, by decide, rfl⟩
    | 3, _ => exact ⟨by decide, by decide, rfl⟩
    | 4, _ => exact ⟨by decide, by decide, rfl⟩
    | 5, _ => exact ⟨by decide, by decide, rfl⟩
    | 6, _ => exact ⟨by decide, by decide, rfl⟩
    | 7, _ => exact ⟨by decide, by decide, rfl⟩
    | 8, _ => exact ⟨by decide, by decide, rfl⟩
    | 9, _ => exact ⟨by decide, by decide, rfl⟩
    | 10, _ => exact ⟨by decide, by decide, rfl⟩
    | 11, _ => exact ⟨by decide, by decide, rfl⟩
theorem data_ex (p : List Int) (K : Int) (h0 : 1 ≤ p.length) (h1 : p.length ≤ 12) (k0 : K = 0 ∨ K = 1) : dataOk p p.length K := by
  have hn : p.length = 1 ∨ p.length = 2 ∨ p.length = 3 ∨ p.length = 4 ∨ p.length = 5 ∨ p.length = 6 ∨ p.length = 7 ∨ p.length = 8 ∨ p.length = 9 ∨ p.length = 10 ∨ p.length = 11 ∨ p.length = 12 := by omega
  rcases hn with hn | hn | hn | hn | hn | hn | hn | hn | hn | hn | hn | hn
  · obtain ⟨x0, rfl⟩ := len_1 p hn
    rcases k0 with rfl | rfl
    · exact data_1_0 x0
    · exact data_1_1 x0
  · obtain ⟨x0, x1, rfl⟩ := len_2 p hn
    rcases k0 with rfl | rfl
    · exact data_2_0 x0 x1
    · exact data_2_1 x0 x1
  · obtain ⟨x0, x1, x2, rfl⟩ := len_3 p hn
    rcases k0 with rfl | rfl
    · exact data_3_0 x0 x1 x2
    · exact data_3_1 x0 x1 x2
  · obtain ⟨x0, x1, x2, x3, rfl⟩ := len_4 p hn
    rcases k0 with rfl | rfl
    · exact data_4_0 x0 x1 x2 x3
    · exact data_4_1 x0 x1 x2 x3
  · obtain ⟨x0, x1, x2, x3, x4, rfl⟩ := len_5 p hn
    rcases k0 with rfl | rfl
    · exact data_5_0 x0 x1 x2 x3 x4
    · exact data_5_1 x0 x1 x2 x3 x4
  · obtain ⟨x0, x1, x2, x3, x4, x5, rfl⟩ := len_6 p hn
    rcases k0 with rfl | rfl
    · exact data_6_0 x0 x1 x2 x3 x4 x5
    · exact data_6_1 x0 x1 x2 x3 x4 x5
  · obtain ⟨x0, x1, x2, x3, x4, x5, x6, rfl⟩ := len_7 p hn
    rcases k0 with rfl | rfl
    · exact data_7_0 x0 x1 x2 x3 x4 x5 x6
    · exact data_7_1 x0 x1 x2 x3 x4 x5 x6
  · obtain ⟨x0, x1, x2, x3, x4, x5, x6, x7, rfl⟩ := len_8 p hn
    rcases k0 with rfl | rfl
    · exact data_8_0 x0 x1 x2 x3 x4 x5 x6 x7
    · exact data_8_1 x0 x1 x2 x3 x4 x5 x6 x7
  · obtain ⟨x0, x1, x2, x3, x4, x5, x6, x7, x8, rfl⟩ := len_9 p hn
    rcases k0 with rfl | rfl
    · exact data_9_0 x0 x1 x2 x3 x4 x5 x6 x7 x8
    · exact data_9_1 x0 x1 x2 x3 x4 x5 x6 x7 x8
  · obtain ⟨x0, x1, x2, x3, x4, x5, x6, x7, x8, x9, rfl⟩ := len_10 p hn
    rcases k0 with rfl | rfl
    · exact data_10_0 x0 x1 x2 x3 x4 x5 x6 x7 x8 x9
    · exact data_10_1 x0 x1 x2 x3 x4 x5 x6 x7 x8 x9
  · obtain ⟨x0, x1, x2, x3, x4, x5, x6, x7, x8, x9, x10, rfl⟩ := len_11 p hn
    rcases k0 with rfl | rfl
    · exact data_11_0 x0 x1 x2 x3 x4 x5 x6 x7 x8 x9 x10
    · exact data_11_1 x0 x1 x2 x3 x4 x5 x6 x7 x8 x9 x10
  · obtain ⟨x0, x1, x2, x3, x4, x5, x6, x7, x8, x9, x10, x11, rfl⟩ := len_12 p hn
    rcases k0 with rfl | rfl
    · exact data_12_0 x0 x1 x2 x3 x4 x5 x6 x7 x8 x9 x10 x11
    · exact data_12_1 x0 x1 x2 x3 x4 x5 x6 x7 x8 x9 x10 x11
end Go.Proofs.Ytlobampnikhmnaa.F
end
section
/- FnDucks: the law holds of every packet of one to twelve cards (under way). -/
namespace Go.Proofs.Ytlobampnikhmnaa.Pure
open Go.RowKit Go.Proofs.Ytlobampnikhmnaa.F Go.Proofs.YtlobampnikhmnaaW.PrintWords Go.Proofs.YtlobampnikhmnaaW.PrintLast Go.Proofs.YtlobampnikhmnaaW.PrintMore
set_option linter.unusedVariables false
set_option linter.unusedSimpArgs false
theorem same_at (rest : List Int) : ∀ (pre : List Int), (pre ++ rest).length ≤ 1048576 → Ev (fun k => laws_same.l0 k (pre ++ rest) (pre ++ rest) ((pre ++ rest).length : Int) (pre.length : Int)) true := by
  induction rest with
  | nil =>
    intro pre hb
    refine Ev.step (f := fun _ => some true) (fun k => ?_) (Ev.now _)
    show laws_same.l0 (k + 1) _ _ _ _ = _
    rw [laws_same.l0, if_neg (mid_nlt _)]
  | cons x rest ih =>
    intro pre hb
    have h := ih (pre ++ [x]) (by simpa using hb)
    rw [← mid_cons, ← mid_succ pre x (by simp at hb; omega)] at h
    refine Ev.step (fun k => ?_) h
    show laws_same.l0 (k + 1) _ _ _ _ = _
    rw [laws_same.l0, if_pos (mid_lt _ _ _), if_pos (nn _), if_pos (mid_lt _ _ _), if_pos (mid_lt _ _ _), if_pos rfl]
theorem same_self (l : List Int) (hb : l.length ≤ 1048576) : Ev (fun k => laws_same.f k l l) true := by
  unfold laws_same.f
  simp only [if_true]
  exact same_at l [] hb
theorem ducks_loop (p q : List Int) (n : Nat) (hn : n ≤ 12) (hp : p.length = n) (hq : q.length = n) (v : Int) (hv : ∀ k, impl_RoundsOf.f (k + 90) (n : Int) = some v) (v0 : 0 ≤ v ∧ v ≤ 3) (v1 : shl .i64 1 v ≤ (n : Int) ∧ (n : Int) < shl .i64 2 v) (rest : List Int) : ∀ (pre : List Int), (pre ++ rest).length = n → (∀ i, pre.length ≤ i → i < n → 0 ≤ (pre ++ rest).getD i 0 ∧ (pre ++ rest).getD i 0 < (n : Int) ∧ rd q ((n : Int) - 1 - i) = rd p ((pre ++ rest).getD i 0)) →
    Ev (fun k => laws_FnDucks.l0 k p (n : Int) q (pre ++ rest) ((pre ++ rest).length : Int) (pre.length : Int)) true := by
  induction rest with
  | nil =>
    intro pre hl h
    have hR : Ev (fun k => impl_RoundsOf.f k (n : Int)) v := Ev.at_ 90 (fun k hk => by obtain ⟨m, rfl⟩ := Nat.exists_eq_add_of_le' hk; exact hv m)
    refine Ev.stepb hR (fun k => by rw [laws_FnDucks.l0, if_neg (mid_nlt _)]) ?_
    simp only [ge_iff_le, if_pos v0.1, if_pos v0.2, if_pos v1.1, decide_eq_true v1.2]
    exact Ev.now _
  | cons x rest ih =>
    intro pre hl h
    have hpre : pre.length < n := by rw [← hl]; simp
    have hx := h pre.length (Nat.le_refl _) hpre
    rw [show (pre ++ x :: rest).getD pre.length 0 = x by simp] at hx
    have h2 := ih (pre ++ [x]) (by simpa using hl) (fun i h1 h3 => by
      have := h i (by simp at h1; omega) h3
      rwa [mid_cons] at this)
    rw [← mid_cons, ← mid_succ pre x (by omega)] at h2
    have w1 : wrap64 ((n : Int) - 1) = (n : Int) - 1 := w64_id (by omega) (by omega)
    have w2 : wrap64 ((n : Int) - 1 - (pre.length : Int)) = (n : Int) - 1 - (pre.length : Int) := w64_id (by omega) (by omega)
    refine Ev.step (fun k => ?_) h2
    show laws_FnDucks.l0 (k + 1) _ _ _ _ _ _ = _
    rw [laws_FnDucks.l0, if_pos (mid_lt _ _ _), if_pos (nn _), if_pos (mid_lt _ _ _), mid_rd, if_neg (by omega), if_neg (by omega), w1, w2, if_pos (by omega), if_pos (by omega), if_pos (by omega), if_pos (by omega), if_pos hx.2.2]
theorem ev90 {α : Type} {f : Nat → Option α} {r : α} (h : ∀ k, f (k + 90) = some r) : Ev f r := Ev.at_ 90 (fun k hk => by obtain ⟨m, rfl⟩ := Nat.exists_eq_add_of_le' hk; exact h m)
theorem perform_ev (p q : List Int) (n : Nat) (K : Int) (hl : p.length = n) (hn : n ≤ 12) (hp : packetB p = true) (hw : ∀ x ∈ p, -9223372036854775808 ≤ x) (hm : ∀ k, impl_MoveOk.f (k + 90) (n : Int) 7 K = some true) (hq : ∀ k, impl_moved.f (k + 90) p 7 K = some q) : Ev (fun k => impl_Perform.f k p 7 K) (q, true) := by
  unfold impl_Perform.f
  refine Ev.bind (impl_PacketOk_ev p (by omega) hw) ?_
  simp only [hp, if_true, hl]
  refine Ev.bind (ev90 hm) ?_
  simp only [if_true]
  exact Ev.bind (ev90 hq) (Ev.now _)
theorem FnDucks : laws_FnDucks.Pure := by
  intro l hm hb hw
  by_cases hbig : (l.length : Int) > 1048576
  · exact ⟨0, by unfold laws_FnDucks.f; rw [if_pos hbig]⟩
  obtain ⟨p, n, hp, n1, n2, hd⟩ := packet_ev l 0 12 (by omega) (by omega) (by omega)
  obtain ⟨v, hv, v0, v1⟩ := num_ev l 40 (by omega) (by omega) (by omega)
  have hlen := drawn_len hd
  have hpk := drawn_packet hd
  have hK : Int.tmod v 2 = 0 ∨ Int.tmod v 2 = 1 := by
    rw [Int.tmod_eq_emod_of_nonneg v0]
    omega
  have hdata := data_ex p (Int.tmod v 2) (by omega) (by omega) hK
  rw [hlen] at hdata
  obtain ⟨q, r, o, a, rv, ⟨m1, m2, m3⟩, ⟨N1, N2, N3, N4, N5, N6⟩, hpl, hql, hol, hperm, ⟨a0, a1, a2⟩, hloop, hv3, hv4⟩ := hdata
  have hpw : ∀ x ∈ p, -9223372036854775808 ≤ x := fun x hx => by have := hd.2 x hx; omega
  have hdr : drawn r n := ⟨(hperm.map cardOf).trans hd.1, fun x hx => hd.2 x (hperm.mem_iff.mp hx)⟩
  have hrw : ∀ x ∈ r, -9223372036854775808 ≤ x := fun x hx => by have := hdr.2 x hx; omega
  have P1 := perform_ev p q n (Int.tmod v 2) hpl n2 hpk hpw N4 m1
  have P2 := perform_ev r p n (Int.tmod v 2) (drawn_len hdr) n2 (drawn_packet hdr) hrw N4 m3
  have D1 : Ev (fun k => impl_PrepareDuck.f k p (Int.tmod v 2)) (r, true) := by
    unfold impl_PrepareDuck.f
    refine Ev.bind (impl_PacketOk_ev p (by omega) hpw) ?_
    simp only [hpk, if_true, hpl]
    refine Ev.bind (ev90 N5) ?_
    simp only [Bool.not_true]
    exact ev90 m2
  have hL := ducks_loop p q n n2 hpl hql rv N6 hv3 hv4 o [] hol (fun i _ hi => hloop i hi)
  have main2 : Ev (fun k => laws_FnDucks.f k l) true := by
    unfold laws_FnDucks.f
    simp only [if_neg hbig]
    refine Ev.bind hp (Ev.bind hv ?_)
    simp only [hpl]
    refine Ev.bind (ev90 N2) (Ev.bind P1 ?_)
    simp only [if_true, hql, if_neg (show ¬ a < 0 by omega), if_neg (show ¬ a ≥ (n : Int) by omega)]
    refine Ev.bind (ev90 N3) ?_
    simp only [if_true, if_pos (show 0 < (n : Int) by omega), if_pos a0, if_pos a1, a2, bne_self_eq_false]
    refine Ev.succ ?_
    simp only [laws_FnDucks.j0, Bool.false_eq_true, if_false]
    refine Ev.bind (ev90 N1) (Ev.bind D1 (Ev.bind P2 ?_))
    simp only [if_true, hol]
    refine Ev.bind (same_self p (by omega)) ?_
    simp only [Bool.not_true]
    refine Ev.succ ?_
    simp only [laws_FnDucks.j1, Bool.false_eq_true, if_false, hol]
    simp only [List.nil_append, hol] at hL
    exact hL
  exact main2.imp fun K hK => hK K (Nat.le_refl _)
end Go.Proofs.Ytlobampnikhmnaa.Pure
end
