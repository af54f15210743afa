import Derived.Test.YtlobampnikhmnaaZFnFaros4
import Derived.Test.YtlobampnikhmnaaZFnFaros5
import Derived.Test.YtlobampnikhmnaaZFnFaros6
import Derived.Test.YtlobampnikhmnaaZFnFaros9
section
/- Cards, and when a list is a packet: the program's and the reference's functions tell one thing. -/
namespace Go.Proofs.Ytlobampnikhmnaa.F
open Go.RowKit Go.Proofs.YtlobampnikhmnaaW.PrintWords Go.Proofs.YtlobampnikhmnaaW.PrintLast Go.Proofs.YtlobampnikhmnaaW.PrintMore
set_option linter.unusedVariables false
set_option linter.unusedSimpArgs false
def cardOf (x : Int) : Int := if 0 ≤ x ∧ x ≤ 11 then x else if -12 ≤ x ∧ x ≤ -1 then -1 - x else -1
theorem cardOf_lt (x : Int) : cardOf x < 12 := by
  unfold cardOf
  repeat' split
  all_goals omega
theorem impl_CardOf_eq (x : Int) (h0 : -9223372036854775808 ≤ x) : impl_CardOf.f x = some (cardOf x) := by
  unfold impl_CardOf.f cardOf
  by_cases h : x < 0
  · have e : wrap64 (-1 - x) = -1 - x := w64_id (by omega) (by omega)
    simp only [if_pos h, e]
    by_cases k : -1 - x ≥ 12
    · rw [if_pos k, if_neg (by omega), if_neg (by omega)]
    · rw [if_neg k, if_neg (by omega), if_pos (by omega)]
  · simp only [if_neg h]
    by_cases k : x ≥ 12
    · rw [if_pos k, if_neg (by omega), if_neg (by omega)]
    · rw [if_neg k, if_pos (by omega)]
/-- Is a list a packet: the cards met so far are told by twelve bools. -/
def packetM : List Bool → List Int → Bool
  | _, [] => true
  | met, x :: xs => if cardOf x < 0 then false else if met.getD (cardOf x).toNat false = true then false else packetM (met.set (cardOf x).toNat true) xs
def packetB (l : List Int) : Bool := packetM (List.replicate 12 false) l
theorem impl_PacketOk_at (rest : List Int) : ∀ (pre : List Int) (met : List Bool), (pre ++ rest).length ≤ 4611686018427387904 → (∀ x ∈ rest, -9223372036854775808 ≤ x) →
    Ev (fun k => impl_PacketOk.l0 k (pre ++ rest) met (pre.length : Int)) (packetM met rest) := by
  induction rest with
  | nil =>
    intro pre met hb hw
    exact Ev.step (f := fun _ => some true) (fun k => by rw [impl_PacketOk.l0, if_neg (mid_nlt _)]) (Ev.now _)
  | cons x rest ih =>
    intro pre met hb hw
    have hx := hw x (by simp)
    unfold packetM
    by_cases c : cardOf x < 0
    · rw [if_pos c]
      exact Ev.step (f := fun _ => some false) (fun k => by rw [impl_PacketOk.l0, if_pos (mid_lt _ _ _), if_pos (nn _), mid_rd, impl_CardOf_eq x hx]; simp only [Option.bind_some]; rw [if_pos c]) (Ev.now _)
    · rw [if_neg c]
      by_cases m : met.getD (cardOf x).toNat false = true
      · rw [if_pos m]
        exact Ev.step (f := fun _ => some false) (fun k => by rw [impl_PacketOk.l0, if_pos (mid_lt _ _ _), if_pos (nn _), mid_rd, impl_CardOf_eq x hx]; simp only [Option.bind_some]; rw [if_neg c, if_pos (cardOf_lt x), if_pos m]) (Ev.now _)
      · rw [if_neg m]
        have h := ih (pre ++ [x]) (met.set (cardOf x).toNat true) (by simpa using hb) (fun y hy => hw y (by simp [hy]))
        rw [← mid_cons] at h
        exact Ev.step (fun k => by rw [impl_PacketOk.l0, if_pos (mid_lt _ _ _), if_pos (nn _), mid_rd, impl_CardOf_eq x hx]; simp only [Option.bind_some]; rw [if_neg c, if_pos (cardOf_lt x), if_neg m, mid_succ pre x (by simp at hb; omega)]) h
theorem impl_PacketOk_ev (l : List Int) (hb : l.length ≤ 4611686018427387904) (hw : ∀ x ∈ l, -9223372036854775808 ≤ x) : Ev (fun k => impl_PacketOk.f k l) (packetB l) := impl_PacketOk_at l [] _ hb hw
theorem count_set (l : List Bool) : ∀ i, i < l.length → l.getD i false ≠ true → (l.set i true).count true = l.count true + 1 := by
  induction l with
  | nil => intro i h; simp at h
  | cons b l ih =>
    intro i h hb
    cases i with
    | zero =>
      cases b with
      | true => simp at hb
      | false => simp
    | succ i =>
      have := ih i (by simpa using h) (by simpa using hb)
      simp only [List.set_cons_succ, List.count_cons]
      omega
theorem packetM_len (xs : List Int) : ∀ met : List Bool, met.length = 12 → packetM met xs = true → met.count true + xs.length ≤ 12 := by
  induction xs with
  | nil =>
    intro met hl _
    have := List.count_le_length (a := true) (l := met)
    simp; omega
  | cons x xs ih =>
    intro met hl h
    unfold packetM at h
    by_cases c : cardOf x < 0
    · rw [if_pos c] at h; cases h
    · rw [if_neg c] at h
      by_cases m : met.getD (cardOf x).toNat false = true
      · rw [if_pos m] at h; cases h
      · rw [if_neg m] at h
        have h1 := ih _ (by simpa using hl) h
        have := cardOf_lt x
        rw [count_set met _ (by omega) m] at h1
        simp; omega
theorem packetB_len {l : List Int} (h : packetB l = true) : l.length ≤ 12 := by
  have := packetM_len l _ (by simp) h
  simp at this
  omega
theorem set_getD (met : List Bool) (i j : Nat) (hi : i < met.length) : (met.set i true).getD j false = (decide (j = i) || met.getD j false) := by
  by_cases e : j = i
  · subst e
    simp [List.getD_eq_getElem?_getD, hi]
  · have e' : ¬ i = j := fun h => e h.symm
    simp [List.getD_eq_getElem?_getD, List.getElem?_set, e, e']
end Go.Proofs.Ytlobampnikhmnaa.F
end
section
/- Lists of a given length, written out. -/
namespace Go.Proofs.Ytlobampnikhmnaa.F
open Go.RowKit Go.Proofs.YtlobampnikhmnaaW.PrintWords Go.Proofs.YtlobampnikhmnaaW.PrintLast Go.Proofs.YtlobampnikhmnaaW.PrintMore
set_option linter.unusedVariables false
set_option linter.unusedSimpArgs false
theorem len_2 (l : List Int) (h : l.length = 2) : ∃ x0 x1, l = [x0, x1] := by
  match l, h with
  | [x0, x1], _ => exact ⟨x0, x1, rfl⟩
theorem len_4 (l : List Int) (h : l.length = 4) : ∃ x0 x1 x2 x3, l = [x0, x1, x2, x3] := by
  match l, h with
  | [x0, x1, x2, x3], _ => exact ⟨x0, x1, x2, x3, rfl⟩
theorem len_6 (l : List Int) (h : l.length = 6) : ∃ x0 x1 x2 x3 x4 x5, l = [x0, x1, x2, x3, x4, x5] := by
  match l, h with
  | [x0, x1, x2, x3, x4, x5], _ => exact ⟨x0, x1, x2, x3, x4, x5, rfl⟩
theorem len_8 (l : List Int) (h : l.length = 8) : ∃ x0 x1 x2 x3 x4 x5 x6 x7, l = [x0, x1, x2, x3, x4, x5, x6, x7] := by
  match l, h with
  | [x0, x1, x2, x3, x4, x5, x6, x7], _ => exact ⟨x0, x1, x2, x3, x4, x5, x6, x7, rfl⟩
theorem len_10 (l : List Int) (h : l.length = 10) : ∃ x0 x1 x2 x3 x4 x5 x6 x7 x8 x9, l = [x0, x1, x2, x3, x4, x5, x6, x7, x8, x9] := by
  match l, h with
  | [x0, x1, x2, x3, x4, x5, x6, x7, x8, x9], _ => exact ⟨x0, x1, x2, x3, x4, x5, x6, x7, x8, x9, rfl⟩
theorem len_12 (l : List Int) (h : l.length = 12) : ∃ x0 x1 x2 x3 x4 x5 x6 x7 x8 x9 x10 x11, l = [x0, x1, x2, x3, x4, x5, x6, x7, x8, x9, x10, x11] := by
  match l, h with
  | [x0, x1, x2, x3, x4, x5, x6, x7, x8, x9, x10, x11], _ => exact ⟨x0, x1, x2, x3, x4, x5, x6, x7, x8, x9, x10, x11, rfl⟩
end Go.Proofs.Ytlobampnikhmnaa.F
end
section
/- What the makers of arguments give: numbers in their bounds, whatever the code is. -/
namespace Go.Proofs.Ytlobampnikhmnaa.F
open Go.RowKit Go.Proofs.YtlobampnikhmnaaW.PrintWords Go.Proofs.YtlobampnikhmnaaW.PrintLast Go.Proofs.YtlobampnikhmnaaW.PrintMore
set_option linter.unusedVariables false
set_option linter.unusedSimpArgs false
theorem and_255 (x : Int) : 0 ≤ Go.bits .and .i64 x 255 ∧ Go.bits .and .i64 x 255 ≤ 255 := by
  have h : (BitVec.ofInt 64 x &&& BitVec.ofInt 64 255).toNat ≤ 255 := by
    rw [BitVec.toNat_and]
    exact Nat.le_trans Nat.and_le_right (by decide)
  have e : Go.bits .and .i64 x 255 = wrap64 (((BitVec.ofInt 64 x &&& BitVec.ofInt 64 255).toNat : Nat) : Int) := i64_w _
  rw [e, w64_id (by omega) (by omega)]
  omega
/-- The cursor stands within its code. -/
def curB (f0 : List Int) (f1 : Int) : Prop := 0 ≤ f1 ∧ f1 ≤ (f0.length : Int) ∧ f0.length ≤ 1048576
theorem byte_ex (f0 : List Int) (f1 f2 : Int) (h : curB f0 f1) : ∃ b g1 g2, spec_l01Byte.f f0 f1 f2 = some (b, g1, g2) ∧ 0 ≤ b ∧ b ≤ 255 ∧ curB f0 g1 := by
  obtain ⟨h0, h1, h2⟩ := h
  unfold spec_l01Byte.f
  by_cases c : f1 < (f0.length : Int)
  · rw [if_pos c, if_pos h0]
    have hw : wrap64 (f1 + 1) = f1 + 1 := w64_id (by omega) (by omega)
    exact ⟨_, _, _, rfl, (and_255 _).1, (and_255 _).2, by rw [hw]; omega, by rw [hw]; omega, h2⟩
  · rw [if_neg c]
    exact ⟨_, _, _, rfl, (and_255 _).1, (and_255 _).2, h0, h1, h2⟩
theorem below_ex (f0 : List Int) (f1 f2 n : Int) (h : curB f0 f1) (h0 : 1 ≤ n) (h1 : n ≤ 256) : ∃ b g1 g2, spec_l01Below.f f0 f1 f2 n = some (b, g1, g2) ∧ 0 ≤ b ∧ b < n ∧ curB f0 g1 := by
  obtain ⟨b, g1, g2, hb, b0, b1, hc⟩ := byte_ex f0 f1 f2 h
  unfold spec_l01Below.f
  rw [if_neg (by omega), if_pos h1, hb, Option.bind_some, if_neg (by omega)]
  refine ⟨_, _, _, rfl, ?_, ?_, hc⟩
  · exact Int.tmod_nonneg _ b0
  · exact Int.tmod_lt_of_pos _ (by omega)
theorem new_at (rest : List Int) : ∀ (pre : List Int) (h : Int), (pre ++ rest).length ≤ 1048576 →
    ∃ r, Ev (fun k => spec_l01New.l0 k (pre ++ rest) h (pre.length : Int)) (pre ++ rest, 0, r) := by
  induction rest with
  | nil =>
    intro pre h hb
    refine ⟨h, Ev.step (f := fun _ => some (pre ++ [], 0, h)) (fun k => ?_) (Ev.now _)⟩
    show spec_l01New.l0 (k + 1) _ h _ = _
    rw [spec_l01New.l0, if_neg (mid_nlt _)]
  | cons x rest ih =>
    intro pre h hb
    by_cases c : (pre.length : Int) < 4000
    · obtain ⟨r, hr⟩ := ih (pre ++ [x]) (Go.bits .and .i64 (wrap64 ((wrap64 ((wrap64 (h * 101)) + (wrap64 x))) + 7)) 1073741823) (by simpa using hb)
      rw [← mid_cons, ← mid_succ pre x (by simp at hb; omega)] at hr
      refine ⟨r, Ev.step (fun k => ?_) hr⟩
      show spec_l01New.l0 (k + 1) _ h _ = _
      rw [spec_l01New.l0, if_pos (mid_lt _ _ _), if_pos c, if_pos (nn _), mid_rd]
    · refine ⟨h, Ev.step (f := fun _ => some (pre ++ x :: rest, 0, h)) (fun k => ?_) (Ev.now _)⟩
      show spec_l01New.l0 (k + 1) _ h _ = _
      rw [spec_l01New.l0, if_pos (mid_lt _ _ _), if_neg c]
theorem new_ev (l : List Int) (hb : l.length ≤ 1048576) : ∃ r, Ev (fun k => spec_l01New.f k l) (l, 0, r) := new_at l [] _ hb
theorem l23_at (f0 : List Int) (n : Nat) : ∀ (i : Int) (a f1 f2 : Int), i + n = a → 0 ≤ i → a ≤ 1048576 → curB f0 f1 →
    ∃ g1 g2, Ev (fun k => spec_l23New.l0 k a f0 f1 f2 i) (f0, g1, g2) ∧ curB f0 g1 := by
  induction n with
  | zero =>
    intro i a f1 f2 hn hi ha h
    refine ⟨f1, f2, Ev.step (f := fun _ => some (f0, f1, f2)) (fun k => ?_) (Ev.now _), h⟩
    show spec_l23New.l0 (k + 1) a f0 f1 f2 i = _
    rw [spec_l23New.l0, if_neg (by omega)]
  | succ n ih =>
    intro i a f1 f2 hn hi ha h
    obtain ⟨b, g1, g2, hb, _, _, hc⟩ := byte_ex f0 f1 f2 h
    obtain ⟨e1, e2, he, hf⟩ := ih (i + 1) a g1 g2 (by omega) (by omega) ha hc
    refine ⟨e1, e2, Ev.step (fun k => ?_) he, hf⟩
    show spec_l23New.l0 (k + 1) a f0 f1 f2 i = _
    rw [spec_l23New.l0, if_pos (by omega), hb, Option.bind_some, w64_id (by omega) (by omega)]
theorem l23_ev (l : List Int) (a : Int) (hb : l.length ≤ 1048576) (h0 : 0 ≤ a) (h1 : a ≤ 1048576) : ∃ g1 g2, Ev (fun k => spec_l23New.f k l a) (l, g1, g2) ∧ curB l g1 := by
  obtain ⟨r, hr⟩ := new_ev l hb
  obtain ⟨g1, g2, hg, hc⟩ := l23_at l a.toNat 0 a 0 r (by omega) (by omega) h1 ⟨by omega, by omega, hb⟩
  unfold spec_l23New.f
  exact ⟨g1, g2, Ev.bind hr hg, hc⟩
theorem num_ev (l : List Int) (a : Int) (hb : l.length ≤ 1048576) (h0 : 0 ≤ a) (h1 : a ≤ 1048576) : ∃ v, Ev (fun k => spec_MakeNum.f k l a) v ∧ 0 ≤ v ∧ v ≤ 65535 := by
  obtain ⟨g1, g2, hg, hc⟩ := l23_ev l a hb h0 h1
  obtain ⟨b, c1, c2, hb1, b0, b1, hc1⟩ := byte_ex l g1 g2 hc
  obtain ⟨d, e1, e2, hd1, d0, d1, hc2⟩ := byte_ex l c1 c2 hc1
  refine ⟨b * 256 + d, ?_, by omega, by omega⟩
  unfold spec_MakeNum.f
  refine Ev.bind hg ?_
  simp only [hb1, hd1, Option.bind_some]
  rw [w64_id (show -9223372036854775808 ≤ b * 256 by omega) (by omega), w64_id (by omega) (by omega)]
  exact Ev.now _
end Go.Proofs.Ytlobampnikhmnaa.F
end
section
/- Shuffled packets: a permutation of the numbers below n, some of which are turned over. -/
namespace Go.Proofs.Ytlobampnikhmnaa.F
open Go.RowKit Go.Proofs.YtlobampnikhmnaaW.PrintWords Go.Proofs.YtlobampnikhmnaaW.PrintLast Go.Proofs.YtlobampnikhmnaaW.PrintMore
set_option linter.unusedVariables false
set_option linter.unusedSimpArgs false
theorem seqFrom_snoc (n : Nat) : ∀ a : Int, seqFrom a (n + 1) = seqFrom a n ++ [a + n] := by
  induction n with
  | zero => intro a; simp [seqFrom]
  | succ n ih =>
    intro a
    rw [show seqFrom a (n + 1 + 1) = a :: seqFrom (a + 1) (n + 1) from rfl, ih (a + 1), show seqFrom a (n + 1) = a :: seqFrom (a + 1) n from rfl]
    simp
    omega
theorem swap_perm (x : List Int) (j : Nat) (hj : j < x.length) (v : Int) : (x.set j v ++ [x.getD j 0]).Perm (x ++ [v]) := by
  have e : x = x.take j ++ x.getD j 0 :: x.drop (j + 1) := by
    rw [List.getD_eq_getElem?_getD, List.getElem?_eq_getElem hj]
    simp
  have e2 : x.set j v = x.take j ++ v :: x.drop (j + 1) := List.set_eq_take_append_cons_drop.trans (by rw [if_pos hj])
  rw [e2]
  conv => rhs; rw [e]
  generalize x.getD j 0 = a
  generalize x.take j = p
  generalize x.drop (j + 1) = q
  rw [List.append_assoc, List.append_assoc, List.cons_append, List.cons_append]
  refine List.Perm.append_left p ?_
  have h1 : (v :: (q ++ [a])).Perm (v :: a :: q) := (List.perm_append_singleton a q).cons v
  have h2 : (a :: (q ++ [v])).Perm (a :: v :: q) := (List.perm_append_singleton v q).cons a
  exact h1.trans ((List.Perm.swap a v q).trans h2.symm)
theorem shuffle_at (f0 : List Int) (m : Nat) : ∀ (n : Nat) (x : List Int) (f1 f2 : Int), n + m ≤ 256 → x.Perm (seqFrom 0 n) → curB f0 f1 →
    ∃ r g1 g2, Ev (fun k => spec_l02Shuffle.l0 k ((n + m : Nat) : Int) x (n : Int) f0 f1 f2) (r, g1, g2) ∧ r.Perm (seqFrom 0 (n + m)) ∧ curB f0 g1 := by
  induction m with
  | zero =>
    intro n x f1 f2 hb hp hc
    refine ⟨x, f1, f2, Ev.step (f := fun _ => some (x, f1, f2)) (fun k => ?_) (Ev.now _), hp, hc⟩
    show spec_l02Shuffle.l0 (k + 1) _ x _ f0 f1 f2 = _
    rw [spec_l02Shuffle.l0, if_neg (by omega)]
  | succ m ih =>
    intro n x f1 f2 hb hp hc
    have hlen : x.length = n := by rw [hp.length_eq, seqFrom_length]
    obtain ⟨b, g1, g2, hbl, b0, b1, hcg⟩ := below_ex f0 f1 f2 ((n : Int) + 1) hc (by omega) (by omega)
    obtain ⟨j, rfl⟩ := Int.eq_ofNat_of_zero_le b0
    have hw : wrap64 ((n : Int) + 1) = (n : Int) + 1 := w64_id (by omega) (by omega)
    have hnew : (((x ++ [(n : Int)]).set n (rd (x ++ [(n : Int)]) (j : Int))).set j (n : Int)).Perm (seqFrom 0 (n + 1)) := by
      rw [seqFrom_snoc, Int.zero_add]
      by_cases e : j = n
      · subst e
        have e1 : rd (x ++ [(j : Int)]) (j : Int) = (j : Int) := by
          have := mid_rd x (j : Int) []
          rwa [hlen] at this
        rw [e1]
        have e2 : ((x ++ [(j : Int)]).set j (j : Int)) = x ++ [(j : Int)] := by
          have := mid_set x (j : Int) (j : Int) []
          rw [hlen, Int.toNat_natCast] at this
          simpa using this
        rw [e2, e2]
        exact hp.append_right _
      · have hj : j < x.length := by omega
        have e1 : rd (x ++ [(n : Int)]) (j : Int) = x.getD j 0 := by
          unfold rd
          simp [List.getD_eq_getElem?_getD, List.getElem?_append_left hj]
        have e2 : ((x ++ [(n : Int)]).set n (x.getD j 0)) = x ++ [x.getD j 0] := by
          have := mid_set x (n : Int) (x.getD j 0) []
          rw [hlen, Int.toNat_natCast] at this
          simpa using this
        rw [e1, e2, List.set_append_left _ _ hj]
        exact (swap_perm x j hj (n : Int)).trans (hp.append_right _)
    obtain ⟨r, e1, e2, he, hr, hc2⟩ := ih (n + 1) _ g1 g2 (by omega) hnew hcg
    refine ⟨r, e1, e2, Ev.step (fun k => ?_) he, by rw [show n + (m + 1) = n + 1 + m by omega]; exact hr, hc2⟩
    show spec_l02Shuffle.l0 (k + 1) _ x _ f0 f1 f2 = _
    have hl2 : ((x ++ [(n : Int)]).length : Int) = (n : Int) + 1 := by rw [List.length_append, hlen]; simp
    rw [spec_l02Shuffle.l0, if_pos (by omega), hw, hbl, Option.bind_some, if_pos (by omega), Option.bind_some, if_pos b0, if_pos (by rw [hl2]; exact b1), if_pos (by omega), if_pos (by rw [hl2]; omega), Int.toNat_natCast, Int.toNat_natCast]
    rw [show ((n + 1 : Nat) : Int) = (n : Int) + 1 by omega, show ((n + (m + 1) : Nat) : Int) = ((n + 1 + m : Nat) : Int) by omega]
theorem shuffle_ev (f0 : List Int) (n : Nat) (f1 f2 : Int) (hn : n ≤ 256) (hc : curB f0 f1) : ∃ r g1 g2, Ev (fun k => spec_l02Shuffle.f k f0 f1 f2 (n : Int)) (r, g1, g2) ∧ r.Perm (seqFrom 0 n) ∧ curB f0 g1 := by
  have h := shuffle_at f0 n 0 [] f1 f2 (by omega) (by simp [seqFrom]) hc
  rw [Nat.zero_add] at h
  exact h
end Go.Proofs.Ytlobampnikhmnaa.F
end
section
/- Packets that are drawn are packets. -/
namespace Go.Proofs.Ytlobampnikhmnaa.F
open Go.RowKit Go.Proofs.YtlobampnikhmnaaW.PrintWords Go.Proofs.YtlobampnikhmnaaW.PrintLast Go.Proofs.YtlobampnikhmnaaW.PrintMore
set_option linter.unusedVariables false
set_option linter.unusedSimpArgs false
theorem mem_seqFrom (n : Nat) : ∀ (a x : Int), x ∈ seqFrom a n ↔ a ≤ x ∧ x < a + n := by
  induction n with
  | zero =>
    intro a x
    simp only [seqFrom, List.not_mem_nil, false_iff]
    omega
  | succ n ih =>
    intro a x
    rw [show seqFrom a (n + 1) = a :: seqFrom (a + 1) n from rfl, List.mem_cons, ih]
    omega
theorem nodup_seqFrom (n : Nat) : ∀ a : Int, (seqFrom a n).Nodup := by
  induction n with
  | zero => intro a; simp [seqFrom]
  | succ n ih =>
    intro a
    rw [show seqFrom a (n + 1) = a :: seqFrom (a + 1) n from rfl, List.nodup_cons, mem_seqFrom]
    exact ⟨by omega, ih _⟩
theorem packetM_of (xs : List Int) : ∀ met : List Bool, met.length = 12 → (∀ x ∈ xs, 0 ≤ cardOf x ∧ met.getD (cardOf x).toNat false = false) → (xs.map cardOf).Nodup → packetM met xs = true := by
  induction xs with
  | nil => intro met hm h hn; rfl
  | cons x xs ih =>
    intro met hm h hn
    have hx := h x (by simp)
    rw [List.map_cons, List.nodup_cons] at hn
    have hlt := cardOf_lt x
    unfold packetM
    rw [if_neg (by omega), hx.2, if_neg (by simp)]
    refine ih _ (by rw [List.length_set]; exact hm) (fun y hy => ?_) hn.2
    have hyy := h y (by simp [hy])
    refine ⟨hyy.1, ?_⟩
    rw [set_getD met _ _ (by omega), hyy.2, Bool.or_false]
    refine decide_eq_false (fun e => hn.1 ?_)
    have : cardOf y = cardOf x := by omega
    rw [← this]
    exact List.mem_map.mpr ⟨y, hy, rfl⟩
/-- A packet of the cards below n, turned or not. -/
def drawn (r : List Int) (n : Nat) : Prop := (r.map cardOf).Perm (seqFrom 0 n) ∧ ∀ x ∈ r, -12 ≤ x ∧ x ≤ 11
theorem drawn_len {r : List Int} {n : Nat} (h : drawn r n) : r.length = n := by
  have := h.1.length_eq
  rwa [List.length_map, seqFrom_length] at this
theorem drawn_packet {r : List Int} {n : Nat} (h : drawn r n) : packetB r = true := by
  have hn : (r.map cardOf).Nodup := h.1.nodup_iff.mpr (nodup_seqFrom n 0)
  refine packetM_of r _ (by simp) (fun x hx => ⟨?_, ?_⟩) hn
  · have hm : cardOf x ∈ seqFrom 0 n := h.1.mem_iff.mp (List.mem_map.mpr ⟨x, hx, rfl⟩)
    exact ((mem_seqFrom n 0 _).mp hm).1
  · have := cardOf_lt x
    generalize (cardOf x).toNat = i
    rw [List.getD_eq_getElem?_getD, List.getElem?_replicate]
    split <;> rfl
theorem cardOf_id (x : Int) (h0 : 0 ≤ x) (h1 : x ≤ 11) : cardOf x = x := by
  unfold cardOf
  rw [if_pos ⟨h0, h1⟩]
theorem drawn_plain {r : List Int} {n : Nat} (h : r.Perm (seqFrom 0 n)) (hn : n ≤ 12) : drawn r n := by
  have hr : ∀ x ∈ r, 0 ≤ x ∧ x ≤ 11 := fun x hx => by
    have := (mem_seqFrom n 0 x).mp (h.mem_iff.mp hx)
    omega
  refine ⟨?_, fun x hx => by have := hr x hx; omega⟩
  rw [List.map_congr_left (g := id) (fun x hx => cardOf_id x (hr x hx).1 (hr x hx).2), List.map_id]
  exact h
theorem perm_ev (l : List Int) (a b : Int) (hb : l.length ≤ 1048576) (h0 : 0 ≤ a) (h1 : a ≤ 1048576) (b0 : 1 ≤ b) (b1 : b ≤ 12) : ∃ r, Ev (fun k => spec_MakePerm.f k l a b) r ∧ r.Perm (seqFrom 0 b.toNat) := by
  obtain ⟨g1, g2, hg, hc⟩ := l23_ev l a hb h0 h1
  have hm : mx 1 (mn b 12) = ((b.toNat : Nat) : Int) := by unfold mx mn; repeat' split <;> omega
  obtain ⟨r, e1, e2, he, hd, _⟩ := shuffle_ev l b.toNat g1 g2 (by omega) hc
  refine ⟨r, ?_, hd⟩
  unfold spec_MakePerm.f
  rw [hm]
  exact Ev.bind hg (Ev.bind he (Ev.now _))
end Go.Proofs.Ytlobampnikhmnaa.F
end
section
/- Colours: bits; the check of a list of colours. -/
namespace Go.Proofs.Ytlobampnikhmnaa.F
open Go.RowKit Go.Proofs.YtlobampnikhmnaaW.PrintWords Go.Proofs.YtlobampnikhmnaaW.PrintLast Go.Proofs.YtlobampnikhmnaaW.PrintMore
set_option linter.unusedVariables false
set_option linter.unusedSimpArgs false
def isColor (x : Int) : Bool := decide (0 ≤ x ∧ x ≤ 1)
def colorsB (l : List Int) (most : Int) : Bool := decide ((l.length : Int) ≤ most) && l.all isColor
theorem color_pred (x : Int) : (impl_areColors_1.f x == some true) = !isColor x := by
  unfold impl_areColors_1.f isColor
  by_cases c : x = 0
  · subst c; rfl
  · by_cases d : x = 1
    · subst d; rfl
    · have e : decide (0 ≤ x ∧ x ≤ 1) = false := decide_eq_false (by omega)
      simp [c, d, e]
theorem areColors_eq (l : List Int) (most : Int) : impl_areColors.f l most = some (colorsB l most) := by
  unfold impl_areColors.f slices_ContainsFunc_Lint_int__impl_areColors_1.f colorsB
  by_cases c : (l.length : Int) ≤ most
  · simp only [if_pos c, Option.bind_some, decide_eq_true c, Bool.true_and]
    congr 1
    rw [List.all_eq_not_any_not]
    congr 2
    funext x
    exact color_pred x
  · simp only [if_neg c, decide_eq_false c, Bool.false_and]
end Go.Proofs.Ytlobampnikhmnaa.F
end
section
/- Even numbers of cards (the program's check alone). -/
namespace Go.Proofs.Ytlobampnikhmnaa.F
open Go.RowKit Go.Proofs.YtlobampnikhmnaaW.PrintWords Go.Proofs.YtlobampnikhmnaaW.PrintLast Go.Proofs.YtlobampnikhmnaaW.PrintMore
set_option linter.unusedVariables false
set_option linter.unusedSimpArgs false
/-- An even number of cards, from 2 to 12. -/
def pairedB (n : Int) : Bool := decide (2 ≤ n ∧ n ≤ 12 ∧ n % 2 = 0)
theorem isPaired_eq (n : Int) : impl_isPaired.f n = some (pairedB n) := by
  unfold impl_isPaired.f pairedB
  by_cases h1 : 2 ≤ n
  · by_cases h2 : n ≤ 12
    · have h4 : Int.tmod n 2 = n % 2 := Int.tmod_eq_emod_of_nonneg (by omega)
      by_cases h3 : n % 2 = 0
      · simp [h1, h2, h4, h3]
      · simp [h1, h2, h4, h3]
    · simp [h1, h2]
  · simp [h1]
end Go.Proofs.Ytlobampnikhmnaa.F
end
section
/- FnFaros: where the top card goes, size by size and place by place. -/
namespace Go.Proofs.Ytlobampnikhmnaa.F
open Go.RowKit Go.Proofs.YtlobampnikhmnaaW.PrintWords Go.Proofs.YtlobampnikhmnaaW.PrintLast Go.Proofs.YtlobampnikhmnaaW.PrintMore
set_option linter.unusedVariables false
set_option linter.unusedSimpArgs false
def farosR (p : List Int) (n at_ : Int) (l q : List Int) : Prop := (∀ k, impl_FaroTo.f (k + 90) n at_ = some (l, true)) ∧ (∀ k, impl_FaroRun.l0 (k + 90) p l (l.length : Int) 0 = some (q, true)) ∧ rd q at_ = rd p 0 ∧ (q.length : Int) = n ∧ colorsB l 20 = true
theorem faros_2_0 (x0 x1 : Int) : farosR [x0, x1] 2 0 [] [x0, x1] := ⟨fun k => by kernel_rfl, fun k => by kernel_rfl, by kernel_rfl, by kernel_rfl, by decide⟩
theorem faros_2_1 (x0 x1 : Int) : farosR [x0, x1] 2 1 [1] [x1, x0] := ⟨fun k => by kernel_rfl, fun k => by kernel_rfl, by kernel_rfl, by kernel_rfl, by decide⟩
theorem faros_2 (p : List Int) (a : Int) (hp : p.length = 2) (h0 : 0 ≤ a) (h1 : a < 2) : ∃ l q, farosR p 2 a l q := by
  obtain ⟨x0, x1, rfl⟩ := len_2 p hp
  have h : a = 0 ∨ a = 1 := by omega
  rcases h with rfl | rfl
  · exact ⟨_, _, faros_2_0 x0 x1⟩
  · exact ⟨_, _, faros_2_1 x0 x1⟩
theorem farosEnd_2 : laws_FnFaros.l0 200 2 0 = some true := by decide +kernel
theorem faros_4_0 (x0 x1 x2 x3 : Int) : farosR [x0, x1, x2, x3] 4 0 [] [x0, x1, x2, x3] := ⟨fun k => by kernel_rfl, fun k => by kernel_rfl, by kernel_rfl, by kernel_rfl, by decide⟩
theorem faros_4_1 (x0 x1 x2 x3 : Int) : farosR [x0, x1, x2, x3] 4 1 [1] [x2, x0, x3, x1] := ⟨fun k => by kernel_rfl, fun k => by kernel_rfl, by kernel_rfl, by kernel_rfl, by decide⟩
theorem faros_4_2 (x0 x1 x2 x3 : Int) : farosR [x0, x1, x2, x3] 4 2 [1, 0] [x2, x3, x0, x1] := ⟨fun k => by kernel_rfl, fun k => by kernel_rfl, by kernel_rfl, by kernel_rfl, by decide⟩
theorem faros_4_3 (x0 x1 x2 x3 : Int) : farosR [x0, x1, x2, x3] 4 3 [1, 1] [x3, x2, x1, x0] := ⟨fun k => by kernel_rfl, fun k => by kernel_rfl, by kernel_rfl, by kernel_rfl, by decide⟩
theorem faros_4 (p : List Int) (a : Int) (hp : p.length = 4) (h0 : 0 ≤ a) (h1 : a < 4) : ∃ l q, farosR p 4 a l q := by
  obtain ⟨x0, x1, x2, x3, rfl⟩ := len_4 p hp
  have h : a = 0 ∨ a = 1 ∨ a = 2 ∨ a = 3 := by omega
  rcases h with rfl | rfl | rfl | rfl
  · exact ⟨_, _, faros_4_0 x0 x1 x2 x3⟩
  · exact ⟨_, _, faros_4_1 x0 x1 x2 x3⟩
  · exact ⟨_, _, faros_4_2 x0 x1 x2 x3⟩
  · exact ⟨_, _, faros_4_3 x0 x1 x2 x3⟩
theorem farosEnd_4 : laws_FnFaros.l0 200 4 0 = some true := by decide +kernel
theorem faros_6_0 (x0 x1 x2 x3 x4 x5 : Int) : farosR [x0, x1, x2, x3, x4, x5] 6 0 [] [x0, x1, x2, x3, x4, x5] := ⟨fun k => by kernel_rfl, fun k => by kernel_rfl, by kernel_rfl, by kernel_rfl, by decide⟩
theorem faros_6_1 (x0 x1 x2 x3 x4 x5 : Int) : farosR [x0, x1, x2, x3, x4, x5] 6 1 [1] [x3, x0, x4, x1, x5, x2] := ⟨fun k => by kernel_rfl, fun k => by kernel_rfl, by kernel_rfl, by kernel_rfl, by decide⟩
theorem faros_6_2 (x0 x1 x2 x3 x4 x5 : Int) : farosR [x0, x1, x2, x3, x4, x5] 6 2 [1, 0] [x3, x1, x0, x5, x4, x2] := ⟨fun k => by kernel_rfl, fun k => by kernel_rfl, by kernel_rfl, by kernel_rfl, by decide⟩
theorem faros_6_3 (x0 x1 x2 x3 x4 x5 : Int) : farosR [x0, x1, x2, x3, x4, x5] 6 3 [1, 1] [x1, x3, x5, x0, x2, x4] := ⟨fun k => by kernel_rfl, fun k => by kernel_rfl, by kernel_rfl, by kernel_rfl, by decide⟩
theorem faros_6_4 (x0 x1 x2 x3 x4 x5 : Int) : farosR [x0, x1, x2, x3, x4, x5] 6 4 [1, 0, 0] [x3, x5, x1, x4, x0, x2] := ⟨fun k => by kernel_rfl, fun k => by kernel_rfl, by kernel_rfl, by kernel_rfl, by decide⟩
theorem faros_6_5 (x0 x1 x2 x3 x4 x5 : Int) : farosR [x0, x1, x2, x3, x4, x5] 6 5 [1, 0, 1] [x5, x3, x4, x1, x2, x0] := ⟨fun k => by kernel_rfl, fun k => by kernel_rfl, by kernel_rfl, by kernel_rfl, by decide⟩
theorem faros_6 (p : List Int) (a : Int) (hp : p.length = 6) (h0 : 0 ≤ a) (h1 : a < 6) : ∃ l q, farosR p 6 a l q := by
  obtain ⟨x0, x1, x2, x3, x4, x5, rfl⟩ := len_6 p hp
  have h : a = 0 ∨ a = 1 ∨ a = 2 ∨ a = 3 ∨ a = 4 ∨ a = 5 := by omega
  rcases h with rfl | rfl | rfl | rfl | rfl | rfl
  · exact ⟨_, _, faros_6_0 x0 x1 x2 x3 x4 x5⟩
  · exact ⟨_, _, faros_6_1 x0 x1 x2 x3 x4 x5⟩
  · exact ⟨_, _, faros_6_2 x0 x1 x2 x3 x4 x5⟩
  · exact ⟨_, _, faros_6_3 x0 x1 x2 x3 x4 x5⟩
  · exact ⟨_, _, faros_6_4 x0 x1 x2 x3 x4 x5⟩
  · exact ⟨_, _, faros_6_5 x0 x1 x2 x3 x4 x5⟩
theorem farosEnd_6 : laws_FnFaros.l0 200 6 0 = some true := by decide +kernel
theorem faros_8_0 (x0 x1 x2 x3 x4 x5 x6 x7 : Int) : farosR [x0, x1, x2, x3, x4, x5, x6, x7] 8 0 [] [x0, x1, x2, x3, x4, x5, x6, x7] := ⟨fun k => by kernel_rfl, fun k => by kernel_rfl, by kernel_rfl, by kernel_rfl, by decide⟩
theorem faros_8_1 (x0 x1 x2 x3 x4 x5 x6 x7 : Int) : farosR [x0, x1, x2, x3, x4, x5, x6, x7] 8 1 [1] [x4, x0, x5, x1, x6, x2, x7, x3] := ⟨fun k => by kernel_rfl, fun k => by kernel_rfl, by kernel_rfl, by kernel_rfl, by decide⟩
theorem faros_8_2 (x0 x1 x2 x3 x4 x5 x6 x7 : Int) : farosR [x0, x1, x2, x3, x4, x5, x6, x7] 8 2 [1, 0] [x4, x6, x0, x2, x5, x7, x1, x3] := ⟨fun k => by kernel_rfl, fun k => by kernel_rfl, by kernel_rfl, by kernel_rfl, by decide⟩
theorem faros_8_3 (x0 x1 x2 x3 x4 x5 x6 x7 : Int) : farosR [x0, x1, x2, x3, x4, x5, x6, x7] 8 3 [1, 1] [x6, x4, x2, x0, x7, x5, x3, x1] := ⟨fun k => by kernel_rfl, fun k => by kernel_rfl, by kernel_rfl, by kernel_rfl, by decide⟩
theorem faros_8_4 (x0 x1 x2 x3 x4 x5 x6 x7 : Int) : farosR [x0, x1, x2, x3, x4, x5, x6, x7] 8 4 [1, 0, 0] [x4, x5, x6, x7, x0, x1, x2, x3] := ⟨fun k => by kernel_rfl, fun k => by kernel_rfl, by kernel_rfl, by kernel_rfl, by decide⟩
theorem faros_8_5 (x0 x1 x2 x3 x4 x5 x6 x7 : Int) : farosR [x0, x1, x2, x3, x4, x5, x6, x7] 8 5 [1, 0, 1] [x5, x4, x7, x6, x1, x0, x3, x2] := ⟨fun k => by kernel_rfl, fun k => by kernel_rfl, by kernel_rfl, by kernel_rfl, by decide⟩
theorem faros_8_6 (x0 x1 x2 x3 x4 x5 x6 x7 : Int) : farosR [x0, x1, x2, x3, x4, x5, x6, x7] 8 6 [1, 1, 0] [x6, x7, x4, x5, x2, x3, x0, x1] := ⟨fun k => by kernel_rfl, fun k => by kernel_rfl, by kernel_rfl, by kernel_rfl, by decide⟩
theorem faros_8_7 (x0 x1 x2 x3 x4 x5 x6 x7 : Int) : farosR [x0, x1, x2, x3, x4, x5, x6, x7] 8 7 [1, 1, 1] [x7, x6, x5, x4, x3, x2, x1, x0] := ⟨fun k => by kernel_rfl, fun k => by kernel_rfl, by kernel_rfl, by kernel_rfl, by decide⟩
theorem faros_8 (p : List Int) (a : Int) (hp : p.length = 8) (h0 : 0 ≤ a) (h1 : a < 8) : ∃ l q, farosR p 8 a l q := by
  obtain ⟨x0, x1, x2, x3, x4, x5, x6, x7, rfl⟩ := len_8 p hp
  have h : a = 0 ∨ a = 1 ∨ a = 2 ∨ a = 3 ∨ a = 4 ∨ a = 5 ∨ a = 6 ∨ a = 7 := by omega
  rcases h with rfl | rfl | rfl | rfl | rfl | rfl | rfl | rfl
  · exact ⟨_, _, faros_8_0 x0 x1 x2 x3 x4 x5 x6 x7⟩
  · exact ⟨_, _, faros_8_1 x0 x1 x2 x3 x4 x5 x6 x7⟩
  · exact ⟨_, _, faros_8_2 x0 x1 x2 x3 x4 x5 x6 x7⟩
  · exact ⟨_, _, faros_8_3 x0 x1 x2 x3 x4 x5 x6 x7⟩
  · exact ⟨_, _, faros_8_4 x0 x1 x2 x3 x4 x5 x6 x7⟩
  · exact ⟨_, _, faros_8_5 x0 x1 x2 x3 x4 x5 x6 x7⟩
  · exact ⟨_, _, faros_8_6 x0 x1 x2 x3 x4 x5 x6 x7⟩
  · exact ⟨_, _, faros_8_7 x0 x1 x2 x3 x4 x5 x6 x7⟩
theorem farosEnd_8 : laws_FnFaros.l0 200 8 0 = some true := by decide +kernel
theorem faros_10_0 (x0 x1 x2 x3 x4 x5 x6 x7 x8 x9 : Int) : farosR [x0, x1, x2, x3, x4, x5, x6, x7, x8, x9] 10 0 [] [x0, x1, x2, x3, x4, x5, x6, x7, x8, x9] := ⟨fun k => by kernel_rfl, fun k => by kernel_rfl, by kernel_rfl, by kernel_rfl, by decide⟩
theorem faros_10_1 (x0 x1 x2 x3 x4 x5 x6 x7 x8 x9 : Int) : farosR [x0, x1, x2, x3, x4, x5, x6, x7, x8, x9] 10 1 [1] [x5, x0, x6, x1, x7, x2, x8, x3, x9, x4] := ⟨fun k => by kernel_rfl, fun k => by kernel_rfl, by kernel_rfl, by kernel_rfl, by decide⟩
theorem faros_10_2 (x0 x1 x2 x3 x4 x5 x6 x7 x8 x9 : Int) : farosR [x0, x1, x2, x3, x4, x5, x6, x7, x8, x9] 10 2 [1, 0] [x5, x2, x0, x8, x6, x3, x1, x9, x7, x4] := ⟨fun k => by kernel_rfl, fun k => by kernel_rfl, by kernel_rfl, by kernel_rfl, by decide⟩
theorem faros_10_3 (x0 x1 x2 x3 x4 x5 x6 x7 x8 x9 : Int) : farosR [x0, x1, x2, x3, x4, x5, x6, x7, x8, x9] 10 3 [1, 1] [x2, x5, x8, x0, x3, x6, x9, x1, x4, x7] := ⟨fun k => by kernel_rfl, fun k => by kernel_rfl, by kernel_rfl, by kernel_rfl, by decide⟩
theorem faros_10_4 (x0 x1 x2 x3 x4 x5 x6 x7 x8 x9 : Int) : farosR [x0, x1, x2, x3, x4, x5, x6, x7, x8, x9] 10 4 [1, 0, 0] [x5, x3, x2, x1, x0, x9, x8, x7, x6, x4] := ⟨fun k => by kernel_rfl, fun k => by kernel_rfl, by kernel_rfl, by kernel_rfl, by decide⟩
theorem faros_10_5 (x0 x1 x2 x3 x4 x5 x6 x7 x8 x9 : Int) : farosR [x0, x1, x2, x3, x4, x5, x6, x7, x8, x9] 10 5 [1, 0, 1] [x3, x5, x1, x2, x9, x0, x7, x8, x4, x6] := ⟨fun k => by kernel_rfl, fun k => by kernel_rfl, by kernel_rfl, by kernel_rfl, by decide⟩
theorem faros_10_6 (x0 x1 x2 x3 x4 x5 x6 x7 x8 x9 : Int) : farosR [x0, x1, x2, x3, x4, x5, x6, x7, x8, x9] 10 6 [1, 1, 0] [x2, x6, x5, x9, x8, x1, x0, x4, x3, x7] := ⟨fun k => by kernel_rfl, fun k => by kernel_rfl, by kernel_rfl, by kernel_rfl, by decide⟩
theorem faros_10_7 (x0 x1 x2 x3 x4 x5 x6 x7 x8 x9 : Int) : farosR [x0, x1, x2, x3, x4, x5, x6, x7, x8, x9] 10 7 [1, 1, 1] [x6, x2, x9, x5, x1, x8, x4, x0, x7, x3] := ⟨fun k => by kernel_rfl, fun k => by kernel_rfl, by kernel_rfl, by kernel_rfl, by decide⟩
theorem faros_10_8 (x0 x1 x2 x3 x4 x5 x6 x7 x8 x9 : Int) : farosR [x0, x1, x2, x3, x4, x5, x6, x7, x8, x9] 10 8 [1, 0, 0, 0] [x5, x9, x3, x8, x2, x7, x1, x6, x0, x4] := ⟨fun k => by kernel_rfl, fun k => by kernel_rfl, by kernel_rfl, by kernel_rfl, by decide⟩
theorem faros_10_9 (x0 x1 x2 x3 x4 x5 x6 x7 x8 x9 : Int) : farosR [x0, x1, x2, x3, x4, x5, x6, x7, x8, x9] 10 9 [1, 0, 0, 1] [x9, x5, x8, x3, x7, x2, x6, x1, x4, x0] := ⟨fun k => by kernel_rfl, fun k => by kernel_rfl, by kernel_rfl, by kernel_rfl, by decide⟩
theorem faros_10 (p : List Int) (a : Int) (hp : p.length = 10) (h0 : 0 ≤ a) (h1 : a < 10) : ∃ l q, farosR p 10 a l q := by
  obtain ⟨x0, x1, x2, x3, x4, x5, x6, x7, x8, x9, rfl⟩ := len_10 p hp
  have h : a = 0 ∨ a = 1 ∨ a = 2 ∨ a = 3 ∨ a = 4 ∨ a = 5 ∨ a = 6 ∨ a = 7 ∨ a = 8 ∨ a = 9 := by omega
  rcases h with rfl | rfl | rfl | rfl | rfl | rfl | rfl | rfl | rfl | rfl
  · exact ⟨_, _, faros_10_0 x0 x1 x2 x3 x4 x5 x6 x7 x8 x9⟩
  · exact ⟨_, _, faros_10_1 x0 x1 x2 x3 x4 x5 x6 x7 x8 x9⟩
  · exact ⟨_, _, faros_10_2 x0 x1 x2 x3 x4 x5 x6 x7 x8 x9⟩
  · exact ⟨_, _, faros_10_3 x0 x1 x2 x3 x4 x5 x6 x7 x8 x9⟩
  · exact ⟨_, _, faros_10_4 x0 x1 x2 x3 x4 x5 x6 x7 x8 x9⟩
  · exact ⟨_, _, faros_10_5 x0 x1 x2 x3 x4 x5 x6 x7 x8 x9⟩
  · exact ⟨_, _, faros_10_6 x0 x1 x2 x3 x4 x5 x6 x7 x8 x9⟩
  · exact ⟨_, _, faros_10_7 x0 x1 x2 x3 x4 x5 x6 x7 x8 x9⟩
  · exact ⟨_, _, faros_10_8 x0 x1 x2 x3 x4 x5 x6 x7 x8 x9⟩
  · exact ⟨_, _, faros_10_9 x0 x1 x2 x3 x4 x5 x6 x7 x8 x9⟩
theorem farosEnd_10 : laws_FnFaros.l0 200 10 0 = some true := by decide +kernel
theorem faros_12_0 (x0 x1 x2 x3 x4 x5 x6 x7 x8 x9 x10 x11 : Int) : farosR [x0, x1, x2, x3, x4, x5, x6, x7, x8, x9, x10, x11] 12 0 [] [x0, x1, x2, x3, x4, x5, x6, x7, x8, x9, x10, x11] := ⟨fun k => by kernel_rfl, fun k => by kernel_rfl, by kernel_rfl, by kernel_rfl, by decide⟩
theorem faros_12_1 (x0 x1 x2 x3 x4 x5 x6 x7 x8 x9 x10 x11 : Int) : farosR [x0, x1, x2, x3, x4, x5, x6, x7, x8, x9, x10, x11] 12 1 [1] [x6, x0, x7, x1, x8, x2, x9, x3, x10, x4, x11, x5] := ⟨fun k => by kernel_rfl, fun k => by kernel_rfl, by kernel_rfl, by kernel_rfl, by decide⟩
theorem faros_12_2 (x0 x1 x2 x3 x4 x5 x6 x7 x8 x9 x10 x11 : Int) : farosR [x0, x1, x2, x3, x4, x5, x6, x7, x8, x9, x10, x11] 12 2 [1, 0] [x6, x9, x0, x3, x7, x10, x1, x4, x8, x11, x2, x5] := ⟨fun k => by kernel_rfl, fun k => by kernel_rfl, by kernel_rfl, by kernel_rfl, by decide⟩
theorem faros_12_3 (x0 x1 x2 x3 x4 x5 x6 x7 x8 x9 x10 x11 : Int) : farosR [x0, x1, x2, x3, x4, x5, x6, x7, x8, x9, x10, x11] 12 3 [1, 1] [x9, x6, x3, x0, x10, x7, x4, x1, x11, x8, x5, x2] := ⟨fun k => by kernel_rfl, fun k => by kernel_rfl, by kernel_rfl, by kernel_rfl, by decide⟩
theorem faros_12_4 (x0 x1 x2 x3 x4 x5 x6 x7 x8 x9 x10 x11 : Int) : farosR [x0, x1, x2, x3, x4, x5, x6, x7, x8, x9, x10, x11] 12 4 [1, 0, 0] [x6, x1, x9, x4, x0, x8, x3, x11, x7, x2, x10, x5] := ⟨fun k => by kernel_rfl, fun k => by kernel_rfl, by kernel_rfl, by kernel_rfl, by decide⟩
theorem faros_12_5 (x0 x1 x2 x3 x4 x5 x6 x7 x8 x9 x10 x11 : Int) : farosR [x0, x1, x2, x3, x4, x5, x6, x7, x8, x9, x10, x11] 12 5 [1, 0, 1] [x1, x6, x4, x9, x8, x0, x11, x3, x2, x7, x5, x10] := ⟨fun k => by kernel_rfl, fun k => by kernel_rfl, by kernel_rfl, by kernel_rfl, by decide⟩
theorem faros_12_6 (x0 x1 x2 x3 x4 x5 x6 x7 x8 x9 x10 x11 : Int) : farosR [x0, x1, x2, x3, x4, x5, x6, x7, x8, x9, x10, x11] 12 6 [1, 1, 0] [x9, x4, x6, x1, x3, x11, x0, x8, x10, x5, x7, x2] := ⟨fun k => by kernel_rfl, fun k => by kernel_rfl, by kernel_rfl, by kernel_rfl, by decide⟩
theorem faros_12_7 (x0 x1 x2 x3 x4 x5 x6 x7 x8 x9 x10 x11 : Int) : farosR [x0, x1, x2, x3, x4, x5, x6, x7, x8, x9, x10, x11] 12 7 [1, 1, 1] [x4, x9, x1, x6, x11, x3, x8, x0, x5, x10, x2, x7] := ⟨fun k => by kernel_rfl, fun k => by kernel_rfl, by kernel_rfl, by kernel_rfl, by decide⟩
theorem faros_12_8 (x0 x1 x2 x3 x4 x5 x6 x7 x8 x9 x10 x11 : Int) : farosR [x0, x1, x2, x3, x4, x5, x6, x7, x8, x9, x10, x11] 12 8 [1, 0, 0, 0] [x6, x3, x1, x11, x9, x7, x4, x2, x0, x10, x8, x5] := ⟨fun k => by kernel_rfl, fun k => by kernel_rfl, by kernel_rfl, by kernel_rfl, by decide⟩
theorem faros_12_9 (x0 x1 x2 x3 x4 x5 x6 x7 x8 x9 x10 x11 : Int) : farosR [x0, x1, x2, x3, x4, x5, x6, x7, x8, x9, x10, x11] 12 9 [1, 0, 0, 1] [x3, x6, x11, x1, x7, x9, x2, x4, x10, x0, x5, x8] := ⟨fun k => by kernel_rfl, fun k => by kernel_rfl, by kernel_rfl, by kernel_rfl, by decide⟩
theorem faros_12_10 (x0 x1 x2 x3 x4 x5 x6 x7 x8 x9 x10 x11 : Int) : farosR [x0, x1, x2, x3, x4, x5, x6, x7, x8, x9, x10, x11] 12 10 [1, 0, 1, 0] [x1, x11, x6, x3, x4, x2, x9, x7, x8, x5, x0, x10] := ⟨fun k => by kernel_rfl, fun k => by kernel_rfl, by kernel_rfl, by kernel_rfl, by decide⟩
theorem faros_12_11 (x0 x1 x2 x3 x4 x5 x6 x7 x8 x9 x10 x11 : Int) : farosR [x0, x1, x2, x3, x4, x5, x6, x7, x8, x9, x10, x11] 12 11 [1, 0, 1, 1] [x11, x1, x3, x6, x2, x4, x7, x9, x5, x8, x10, x0] := ⟨fun k => by kernel_rfl, fun k => by kernel_rfl, by kernel_rfl, by kernel_rfl, by decide⟩
theorem faros_12 (p : List Int) (a : Int) (hp : p.length = 12) (h0 : 0 ≤ a) (h1 : a < 12) : ∃ l q, farosR p 12 a l q := by
  obtain ⟨x0, x1, x2, x3, x4, x5, x6, x7, x8, x9, x10, x11, rfl⟩ := len_12 p hp
  have h : a = 0 ∨ a = 1 ∨ a = 2 ∨ a = 3 ∨ a = 4 ∨ a = 5 ∨ a = 6 ∨ a = 7 ∨ a = 8 ∨ a = 9 ∨ a = 10 ∨ a = 11 := by omega
  rcases h with rfl | rfl | rfl | rfl | rfl | rfl | rfl | rfl | rfl | rfl | rfl | rfl
  · exact ⟨_, _, faros_12_0 x0 x1 x2 x3 x4 x5 x6 x7 x8 x9 x10 x11⟩
  · exact ⟨_, _, faros_12_1 x0 x1 x2 x3 x4 x5 x6 x7 x8 x9 x10 x11⟩
  · exact ⟨_, _, faros_12_2 x0 x1 x2 x3 x4 x5 x6 x7 x8 x9 x10 x11⟩
  · exact ⟨_, _, faros_12_3 x0 x1 x2 x3 x4 x5 x6 x7 x8 x9 x10 x11⟩
  · exact ⟨_, _, faros_12_4 x0 x1 x2 x3 x4 x5 x6 x7 x8 x9 x10 x11⟩
  · exact ⟨_, _, faros_12_5 x0 x1 x2 x3 x4 x5 x6 x7 x8 x9 x10 x11⟩
  · exact ⟨_, _, faros_12_6 x0 x1 x2 x3 x4 x5 x6 x7 x8 x9 x10 x11⟩
  · exact ⟨_, _, faros_12_7 x0 x1 x2 x3 x4 x5 x6 x7 x8 x9 x10 x11⟩
  · exact ⟨_, _, faros_12_8 x0 x1 x2 x3 x4 x5 x6 x7 x8 x9 x10 x11⟩
  · exact ⟨_, _, faros_12_9 x0 x1 x2 x3 x4 x5 x6 x7 x8 x9 x10 x11⟩
  · exact ⟨_, _, faros_12_10 x0 x1 x2 x3 x4 x5 x6 x7 x8 x9 x10 x11⟩
  · exact ⟨_, _, faros_12_11 x0 x1 x2 x3 x4 x5 x6 x7 x8 x9 x10 x11⟩
theorem farosEnd_12 : laws_FnFaros.l0 200 12 0 = some true := by decide +kernel
end Go.Proofs.Ytlobampnikhmnaa.F
end
section
/- FnFaros: every size of a packet by itself. -/
namespace Go.Proofs.Ytlobampnikhmnaa.Pure
open Go.RowKit Go.Proofs.Ytlobampnikhmnaa.F Go.Proofs.YtlobampnikhmnaaW.PrintWords Go.Proofs.YtlobampnikhmnaaW.PrintLast Go.Proofs.YtlobampnikhmnaaW.PrintMore
set_option linter.unusedVariables false
set_option linter.unusedSimpArgs false
theorem fev90 {α : Type} {f : Nat → Option α} {r : α} (h : ∀ k, f (k + 90) = some r) : Ev f r := Ev.at_ 90 (fun k hk => by obtain ⟨m, rfl⟩ := Nat.exists_eq_add_of_le' hk; exact h m)
theorem faros_run (p l q : List Int) (n a : Int) (hp : packetB p = true) (hw : ∀ x ∈ p, -9223372036854775808 ≤ x) (hl : (p.length : Int) = n) (hn : pairedB n = true) (h : farosR p n a l q) : Ev (fun k => impl_FaroRun.f k p l) (q, true) := by
  unfold impl_FaroRun.f
  refine Ev.bind (impl_PacketOk_ev p (by have := packetB_len hp; omega) hw) ?_
  simp only [hp, if_true, hl, isPaired_eq, hn, Option.bind_some, areColors_eq, h.2.2.2.2, Bool.not_true]
  refine Ev.succ ?_
  simp only [impl_FaroRun.j0, Bool.false_eq_true, if_false]
  refine Ev.bind (a := p) ?_ (fev90 h.2.1)
  unfold slices_Clone_Lint_int.f
  simp only [if_pos (show p.length < 17592186044416 by have := packetB_len hp; omega)]
  exact Ev.now _
theorem faros_law (l : List Int) (hbig : ¬ (l.length : Int) > 1048576) (v w : Int) (hv : Ev (fun k => spec_MakeNum.f k l 1) v) (hw : Ev (fun k => spec_MakeNum.f k l 3) w) (w0 : 0 ≤ w) (n : Nat) (hn : wrap64 (2 + wrap64 (2 * Int.tmod v 6)) = (n : Int)) (hpr : pairedB (n : Int) = true) (n1 : 1 ≤ n) (n2 : n ≤ 12)
    (hdata : ∀ (p : List Int) (a : Int), p.length = n → 0 ≤ a → a < (n : Int) → ∃ l q, farosR p (n : Int) a l q) (hend : laws_FnFaros.l0 200 (n : Int) 0 = some true) : ∃ k, laws_FnFaros.f k l = some true := by
  obtain ⟨p, hp, hperm⟩ := perm_ev l 20 (n : Int) (by omega) (by omega) (by omega) (by omega) (by omega)
  rw [Int.toNat_natCast] at hperm
  have hd := drawn_plain hperm n2
  have hlen := drawn_len hd
  have hpk := drawn_packet hd
  have hpw : ∀ x ∈ p, -9223372036854775808 ≤ x := fun x hx => by have := hd.2 x hx; omega
  have ha0 : 0 ≤ Int.tmod w (n : Int) := Int.tmod_nonneg _ w0
  have ha1 : Int.tmod w (n : Int) < (n : Int) := Int.tmod_lt_of_pos _ (by omega)
  obtain ⟨b, q, hR⟩ := hdata p (Int.tmod w (n : Int)) hlen ha0 ha1
  have hrun := faros_run p b q (n : Int) _ hpk hpw (by omega) hpr hR
  have main2 : Ev (fun k => laws_FnFaros.f k l) true := by
    unfold laws_FnFaros.f
    simp only [if_neg hbig]
    refine Ev.bind hv (Ev.bind hw ?_)
    simp only [hn, if_neg (show ¬ (n : Int) = 0 by omega)]
    refine Ev.bind hp (Ev.bind (fev90 hR.1) ?_)
    refine Ev.bind hrun ?_
    simp only [if_true, hR.2.2.2.1, if_pos ha0, if_pos ha1, hlen, if_pos (show 0 < (n : Int) by omega), hR.2.2.1, bne_self_eq_false]
    refine Ev.succ ?_
    simp only [laws_FnFaros.j0, Bool.false_eq_true, if_false]
    exact Ev.of (fun k => (laws_FnFaros.mono_l k).2 _ _) hend
  exact main2.imp fun K hK => hK K (Nat.le_refl _)
theorem FnFaros : laws_FnFaros.Pure := by
  intro l hm hb hw
  by_cases hbig : (l.length : Int) > 1048576
  · exact ⟨0, by unfold laws_FnFaros.f; rw [if_pos hbig]⟩
  obtain ⟨v, hv, v0, v1⟩ := num_ev l 1 (by omega) (by omega) (by omega)
  obtain ⟨w, hw2, w0, w1⟩ := num_ev l 3 (by omega) (by omega) (by omega)
  have hmod : Int.tmod v 6 = 0 ∨ Int.tmod v 6 = 1 ∨ Int.tmod v 6 = 2 ∨ Int.tmod v 6 = 3 ∨ Int.tmod v 6 = 4 ∨ Int.tmod v 6 = 5 := by
    rw [Int.tmod_eq_emod_of_nonneg v0]
    omega
  rcases hmod with h | h | h | h | h | h
  · exact faros_law l hbig v w hv hw2 w0 2 (by rw [h]; decide +kernel) (by decide +kernel) (by omega) (by omega) faros_2 farosEnd_2
  · exact faros_law l hbig v w hv hw2 w0 4 (by rw [h]; decide +kernel) (by decide +kernel) (by omega) (by omega) faros_4 farosEnd_4
  · exact faros_law l hbig v w hv hw2 w0 6 (by rw [h]; decide +kernel) (by decide +kernel) (by omega) (by omega) faros_6 farosEnd_6
  · exact faros_law l hbig v w hv hw2 w0 8 (by rw [h]; decide +kernel) (by decide +kernel) (by omega) (by omega) faros_8 farosEnd_8
  · exact faros_law l hbig v w hv hw2 w0 10 (by rw [h]; decide +kernel) (by decide +kernel) (by omega) (by omega) faros_10 farosEnd_10
  · exact faros_law l hbig v w hv hw2 w0 12 (by rw [h]; decide +kernel) (by decide +kernel) (by omega) (by omega) faros_12 farosEnd_12
end Go.Proofs.Ytlobampnikhmnaa.Pure
end
