import Derived.Test.YtgldcbcefncjjaaZFnEquivocal4
import Derived.Test.YtgldcbcefncjjaaZFnEquivocal6
import Derived.Test.YtgldcbcefncjjaaZFnEquivocal8
import Derived.Test.YtgldcbcefncjjaaZFnEquivocal7
import Derived.Test.YtgldcbcefncjjaaZFnEquivocal5
section
/- Laid by a program of this claim's own. What the Go function does, as a Lean function, and the proof that the Go code does just that; Lean checks it. -/
namespace Go.Proofs.Ytgldcbcefncjjaa.F
open Go.RowKit Go.Proofs.YtgldcbcefncjjaaW.PrintWords Go.Proofs.YtgldcbcefncjjaaW.PrintLast Go.Proofs.YtgldcbcefncjjaaW.PrintMore
attribute [local go_sem] max2_int min2_int max_two min_two max_three min_three max_four min_four   -- for this text's walks alone
set_option linter.unusedVariables false
set_option linter.unusedSimpArgs false
/-! ### spec_l01Once: function 97 -/
def spec_l01Once.f (s0_0 : List Int) (s0_1 : Int) (s0_2 : Int) (a1 : Int) : Option (Bool × Int × Int) := (spec_l01Below.f s0_0 s0_1 s0_2 a1).bind fun bt449 => (some ((bt449.1 == 0), bt449.2.1, bt449.2.2))
end Go.Proofs.Ytgldcbcefncjjaa.F
end
section
/- What the makers of arguments give: numbers in their bounds, whatever the code is. -/
namespace Go.Proofs.Ytgldcbcefncjjaa.F
open Go.RowKit Go.Proofs.YtgldcbcefncjjaaW.PrintWords Go.Proofs.YtgldcbcefncjjaaW.PrintLast Go.Proofs.YtgldcbcefncjjaaW.PrintMore
set_option linter.unusedVariables false
set_option linter.unusedSimpArgs false
theorem and_255 (x : Int) : 0 ≤ Go.bits .and .i64 x 255 ∧ Go.bits .and .i64 x 255 ≤ 255 := by
  have h : (BitVec.ofInt 64 x &&& BitVec.ofInt 64 255).toNat ≤ 255 := by
    rw [BitVec.toNat_and]
    exact Nat.le_trans Nat.and_le_right (by decide)
  have e : Go.bits .and .i64 x 255 = wrap64 (((BitVec.ofInt 64 x &&& BitVec.ofInt 64 255).toNat : Nat) : Int) := i64_w _
  rw [e, w64_id (by omega) (by omega)]
  omega
/-- The cursor stands within its code. -/
def curB (f0 : List Int) (f1 : Int) : Prop := 0 ≤ f1 ∧ f1 ≤ (f0.length : Int) ∧ f0.length ≤ 1048576
theorem byte_ex (f0 : List Int) (f1 f2 : Int) (h : curB f0 f1) : ∃ b g1 g2, spec_l01Byte.f f0 f1 f2 = some (b, g1, g2) ∧ 0 ≤ b ∧ b ≤ 255 ∧ curB f0 g1 := by
  obtain ⟨h0, h1, h2⟩ := h
  unfold spec_l01Byte.f
  by_cases c : f1 < (f0.length : Int)
  · rw [if_pos c, if_pos h0]
    have hw : wrap64 (f1 + 1) = f1 + 1 := w64_id (by omega) (by omega)
    exact ⟨_, _, _, rfl, (and_255 _).1, (and_255 _).2, by rw [hw]; omega, by rw [hw]; omega, h2⟩
  · rw [if_neg c]
    exact ⟨_, _, _, rfl, (and_255 _).1, (and_255 _).2, h0, h1, h2⟩
theorem below_ex (f0 : List Int) (f1 f2 n : Int) (h : curB f0 f1) (h0 : 1 ≤ n) (h1 : n ≤ 256) : ∃ b g1 g2, spec_l01Below.f f0 f1 f2 n = some (b, g1, g2) ∧ 0 ≤ b ∧ b < n ∧ curB f0 g1 := by
  obtain ⟨b, g1, g2, hb, b0, b1, hc⟩ := byte_ex f0 f1 f2 h
  unfold spec_l01Below.f
  rw [if_neg (by omega), if_pos h1, hb, Option.bind_some, if_neg (by omega)]
  refine ⟨_, _, _, rfl, ?_, ?_, hc⟩
  · exact Int.tmod_nonneg _ b0
  · exact Int.tmod_lt_of_pos _ (by omega)
theorem new_at (rest : List Int) : ∀ (pre : List Int) (h : Int), (pre ++ rest).length ≤ 1048576 →
    ∃ r, Ev (fun k => spec_l01New.l0 k (pre ++ rest) h (pre.length : Int)) (pre ++ rest, 0, r) := by
  induction rest with
  | nil =>
    intro pre h hb
    refine ⟨h, Ev.step (f := fun _ => some (pre ++ [], 0, h)) (fun k => ?_) (Ev.now _)⟩
    show spec_l01New.l0 (k + 1) _ h _ = _
    rw [spec_l01New.l0, if_neg (mid_nlt _)]
  | cons x rest ih =>
    intro pre h hb
    by_cases c : (pre.length : Int) < 4000
    · obtain ⟨r, hr⟩ := ih (pre ++ [x]) (Go.bits .and .i64 (wrap64 ((wrap64 ((wrap64 (h * 101)) + (wrap64 x))) + 7)) 1073741823) (by simpa using hb)
      rw [← mid_cons, ← mid_succ pre x (by simp at hb; omega)] at hr
      refine ⟨r, Ev.step (fun k => ?_) hr⟩
      show spec_l01New.l0 (k + 1) _ h _ = _
      rw [spec_l01New.l0, if_pos (mid_lt _ _ _), if_pos c, if_pos (nn _), mid_rd]
    · refine ⟨h, Ev.step (f := fun _ => some (pre ++ x :: rest, 0, h)) (fun k => ?_) (Ev.now _)⟩
      show spec_l01New.l0 (k + 1) _ h _ = _
      rw [spec_l01New.l0, if_pos (mid_lt _ _ _), if_neg c]
theorem new_ev (l : List Int) (hb : l.length ≤ 1048576) : ∃ r, Ev (fun k => spec_l01New.f k l) (l, 0, r) := new_at l [] _ hb
theorem l23_at (f0 : List Int) (n : Nat) : ∀ (i : Int) (a f1 f2 : Int), i + n = a → 0 ≤ i → a ≤ 1048576 → curB f0 f1 →
    ∃ g1 g2, Ev (fun k => spec_l23New.l0 k a f0 f1 f2 i) (f0, g1, g2) ∧ curB f0 g1 := by
  induction n with
  | zero =>
    intro i a f1 f2 hn hi ha h
    refine ⟨f1, f2, Ev.step (f := fun _ => some (f0, f1, f2)) (fun k => ?_) (Ev.now _), h⟩
    show spec_l23New.l0 (k + 1) a f0 f1 f2 i = _
    rw [spec_l23New.l0, if_neg (by omega)]
  | succ n ih =>
    intro i a f1 f2 hn hi ha h
    obtain ⟨b, g1, g2, hb, _, _, hc⟩ := byte_ex f0 f1 f2 h
    obtain ⟨e1, e2, he, hf⟩ := ih (i + 1) a g1 g2 (by omega) (by omega) ha hc
    refine ⟨e1, e2, Ev.step (fun k => ?_) he, hf⟩
    show spec_l23New.l0 (k + 1) a f0 f1 f2 i = _
    rw [spec_l23New.l0, if_pos (by omega), hb, Option.bind_some, w64_id (by omega) (by omega)]
theorem l23_ev (l : List Int) (a : Int) (hb : l.length ≤ 1048576) (h0 : 0 ≤ a) (h1 : a ≤ 1048576) : ∃ g1 g2, Ev (fun k => spec_l23New.f k l a) (l, g1, g2) ∧ curB l g1 := by
  obtain ⟨r, hr⟩ := new_ev l hb
  obtain ⟨g1, g2, hg, hc⟩ := l23_at l a.toNat 0 a 0 r (by omega) (by omega) h1 ⟨by omega, by omega, hb⟩
  unfold spec_l23New.f
  exact ⟨g1, g2, Ev.bind hr hg, hc⟩
theorem num_ev (l : List Int) (a : Int) (hb : l.length ≤ 1048576) (h0 : 0 ≤ a) (h1 : a ≤ 1048576) : ∃ v, Ev (fun k => spec_MakeNum.f k l a) v ∧ 0 ≤ v ∧ v ≤ 65535 := by
  obtain ⟨g1, g2, hg, hc⟩ := l23_ev l a hb h0 h1
  obtain ⟨b, c1, c2, hb1, b0, b1, hc1⟩ := byte_ex l g1 g2 hc
  obtain ⟨d, e1, e2, hd1, d0, d1, hc2⟩ := byte_ex l c1 c2 hc1
  refine ⟨b * 256 + d, ?_, by omega, by omega⟩
  unfold spec_MakeNum.f
  refine Ev.bind hg ?_
  simp only [hb1, hd1, Option.bind_some]
  rw [w64_id (show -9223372036854775808 ≤ b * 256 by omega) (by omega), w64_id (by omega) (by omega)]
  exact Ev.now _
end Go.Proofs.Ytgldcbcefncjjaa.F
end
section
/- Laid by a program of this claim's own. What the Go function does, as a Lean function, and the proof that the Go code does just that; Lean checks it. -/
namespace Go.Proofs.Ytgldcbcefncjjaa.F
open Go.RowKit Go.Proofs.YtgldcbcefncjjaaW.PrintWords Go.Proofs.YtgldcbcefncjjaaW.PrintLast Go.Proofs.YtgldcbcefncjjaaW.PrintMore
attribute [local go_sem] max2_int min2_int max_two min_two max_three min_three max_four min_four   -- for this text's walks alone
set_option linter.unusedVariables false
set_option linter.unusedSimpArgs false
/-! ### spec_l01In: function 74 -/
def spec_l01In.f (a0 : Int) (a1 : Int) (a2 : Int) : Option (Bool) := if a0 ≥ a1 then (some (decide (a0 ≤ a2))) else (some false)
end Go.Proofs.Ytgldcbcefncjjaa.F
end
section
/- Shuffled packets: a permutation of the numbers below n, some of which are turned over. -/
namespace Go.Proofs.Ytgldcbcefncjjaa.F
open Go.RowKit Go.Proofs.YtgldcbcefncjjaaW.PrintWords Go.Proofs.YtgldcbcefncjjaaW.PrintLast Go.Proofs.YtgldcbcefncjjaaW.PrintMore
set_option linter.unusedVariables false
set_option linter.unusedSimpArgs false
theorem seqFrom_snoc (n : Nat) : ∀ a : Int, seqFrom a (n + 1) = seqFrom a n ++ [a + n] := by
  induction n with
  | zero => intro a; simp [seqFrom]
  | succ n ih =>
    intro a
    rw [show seqFrom a (n + 1 + 1) = a :: seqFrom (a + 1) (n + 1) from rfl, ih (a + 1), show seqFrom a (n + 1) = a :: seqFrom (a + 1) n from rfl]
    simp
    omega
theorem swap_perm (x : List Int) (j : Nat) (hj : j < x.length) (v : Int) : (x.set j v ++ [x.getD j 0]).Perm (x ++ [v]) := by
  have e : x = x.take j ++ x.getD j 0 :: x.drop (j + 1) := by
    rw [List.getD_eq_getElem?_getD, List.getElem?_eq_getElem hj]
    simp
  have e2 : x.set j v = x.take j ++ v :: x.drop (j + 1) := List.set_eq_take_append_cons_drop.trans (by rw [if_pos hj])
  rw [e2]
  conv => rhs; rw [e]
  generalize x.getD j 0 = a
  generalize x.take j = p
  generalize x.drop (j + 1) = q
  rw [List.append_assoc, List.append_assoc, List.cons_append, List.cons_append]
  refine List.Perm.append_left p ?_
  have h1 : (v :: (q ++ [a])).Perm (v :: a :: q) := (List.perm_append_singleton a q).cons v
  have h2 : (a :: (q ++ [v])).Perm (a :: v :: q) := (List.perm_append_singleton v q).cons a
  exact h1.trans ((List.Perm.swap a v q).trans h2.symm)
theorem shuffle_at (f0 : List Int) (m : Nat) : ∀ (n : Nat) (x : List Int) (f1 f2 : Int), n + m ≤ 256 → x.Perm (seqFrom 0 n) → curB f0 f1 →
    ∃ r g1 g2, Ev (fun k => spec_l02Shuffle.l0 k ((n + m : Nat) : Int) x (n : Int) f0 f1 f2) (r, g1, g2) ∧ r.Perm (seqFrom 0 (n + m)) ∧ curB f0 g1 := by
  induction m with
  | zero =>
    intro n x f1 f2 hb hp hc
    refine ⟨x, f1, f2, Ev.step (f := fun _ => some (x, f1, f2)) (fun k => ?_) (Ev.now _), hp, hc⟩
    show spec_l02Shuffle.l0 (k + 1) _ x _ f0 f1 f2 = _
    rw [spec_l02Shuffle.l0, if_neg (by omega)]
  | succ m ih =>
    intro n x f1 f2 hb hp hc
    have hlen : x.length = n := by rw [hp.length_eq, seqFrom_length]
    obtain ⟨b, g1, g2, hbl, b0, b1, hcg⟩ := below_ex f0 f1 f2 ((n : Int) + 1) hc (by omega) (by omega)
    obtain ⟨j, rfl⟩ := Int.eq_ofNat_of_zero_le b0
    have hw : wrap64 ((n : Int) + 1) = (n : Int) + 1 := w64_id (by omega) (by omega)
    have hnew : (((x ++ [(n : Int)]).set n (rd (x ++ [(n : Int)]) (j : Int))).set j (n : Int)).Perm (seqFrom 0 (n + 1)) := by
      rw [seqFrom_snoc, Int.zero_add]
      by_cases e : j = n
      · subst e
        have e1 : rd (x ++ [(j : Int)]) (j : Int) = (j : Int) := by
          have := mid_rd x (j : Int) []
          rwa [hlen] at this
        rw [e1]
        have e2 : ((x ++ [(j : Int)]).set j (j : Int)) = x ++ [(j : Int)] := by
          have := mid_set x (j : Int) (j : Int) []
          rw [hlen, Int.toNat_natCast] at this
          simpa using this
        rw [e2, e2]
        exact hp.append_right _
      · have hj : j < x.length := by omega
        have e1 : rd (x ++ [(n : Int)]) (j : Int) = x.getD j 0 := by
          unfold rd
          simp [List.getD_eq_getElem?_getD, List.getElem?_append_left hj]
        have e2 : ((x ++ [(n : Int)]).set n (x.getD j 0)) = x ++ [x.getD j 0] := by
          have := mid_set x (n : Int) (x.getD j 0) []
          rw [hlen, Int.toNat_natCast] at this
          simpa using this
        rw [e1, e2, List.set_append_left _ _ hj]
        exact (swap_perm x j hj (n : Int)).trans (hp.append_right _)
    obtain ⟨r, e1, e2, he, hr, hc2⟩ := ih (n + 1) _ g1 g2 (by omega) hnew hcg
    refine ⟨r, e1, e2, Ev.step (fun k => ?_) he, by rw [show n + (m + 1) = n + 1 + m by omega]; exact hr, hc2⟩
    show spec_l02Shuffle.l0 (k + 1) _ x _ f0 f1 f2 = _
    have hl2 : ((x ++ [(n : Int)]).length : Int) = (n : Int) + 1 := by rw [List.length_append, hlen]; simp
    rw [spec_l02Shuffle.l0, if_pos (by omega), hw, hbl, Option.bind_some, if_pos (by omega), Option.bind_some, if_pos b0, if_pos (by rw [hl2]; exact b1), if_pos (by omega), if_pos (by rw [hl2]; omega), Int.toNat_natCast, Int.toNat_natCast]
    rw [show ((n + 1 : Nat) : Int) = (n : Int) + 1 by omega, show ((n + (m + 1) : Nat) : Int) = ((n + 1 + m : Nat) : Int) by omega]
theorem shuffle_ev (f0 : List Int) (n : Nat) (f1 f2 : Int) (hn : n ≤ 256) (hc : curB f0 f1) : ∃ r g1 g2, Ev (fun k => spec_l02Shuffle.f k f0 f1 f2 (n : Int)) (r, g1, g2) ∧ r.Perm (seqFrom 0 n) ∧ curB f0 g1 := by
  have h := shuffle_at f0 n 0 [] f1 f2 (by omega) (by simp [seqFrom]) hc
  rw [Nat.zero_add] at h
  exact h
end Go.Proofs.Ytgldcbcefncjjaa.F
end
section
/- Of Draw: numbers below n, and the maker of permutations. -/
namespace Go.Proofs.Ytgldcbcefncjjaa.F
open Go.RowKit Go.Proofs.YtgldcbcefncjjaaW.PrintWords Go.Proofs.YtgldcbcefncjjaaW.PrintLast Go.Proofs.YtgldcbcefncjjaaW.PrintMore
set_option linter.unusedVariables false
set_option linter.unusedSimpArgs false
theorem mem_seqFrom (n : Nat) : ∀ (a x : Int), x ∈ seqFrom a n ↔ a ≤ x ∧ x < a + n := by
  induction n with
  | zero =>
    intro a x
    simp only [seqFrom, List.not_mem_nil, false_iff]
    omega
  | succ n ih =>
    intro a x
    rw [show seqFrom a (n + 1) = a :: seqFrom (a + 1) n from rfl, List.mem_cons, ih]
    omega
theorem nodup_seqFrom (n : Nat) : ∀ a : Int, (seqFrom a n).Nodup := by
  induction n with
  | zero => intro a; simp [seqFrom]
  | succ n ih =>
    intro a
    rw [show seqFrom a (n + 1) = a :: seqFrom (a + 1) n from rfl, List.nodup_cons, mem_seqFrom]
    exact ⟨by omega, ih _⟩
theorem perm_ev (l : List Int) (a b : Int) (hb : l.length ≤ 1048576) (h0 : 0 ≤ a) (h1 : a ≤ 1048576) (b0 : 1 ≤ b) (b1 : b ≤ 12) : ∃ r, Ev (fun k => spec_MakePerm.f k l a b) r ∧ r.Perm (seqFrom 0 b.toNat) := by
  obtain ⟨g1, g2, hg, hc⟩ := l23_ev l a hb h0 h1
  have hm : mx 1 (mn b 12) = ((b.toNat : Nat) : Int) := by unfold mx mn; repeat' split <;> omega
  obtain ⟨r, e1, e2, he, hd, _⟩ := shuffle_ev l b.toNat g1 g2 (by omega) hc
  refine ⟨r, ?_, hd⟩
  unfold spec_MakePerm.f
  rw [hm]
  exact Ev.bind hg (Ev.bind he (Ev.now _))
end Go.Proofs.Ytgldcbcefncjjaa.F
end
section
/- The laws' helpers on lists of nodes. -/
namespace Go.Proofs.Ytgldcbcefncjjaa.F
open Go.RowKit Go.Proofs.YtgldcbcefncjjaaW.PrintWords Go.Proofs.YtgldcbcefncjjaaW.PrintLast Go.Proofs.YtgldcbcefncjjaaW.PrintMore
set_option linter.unusedVariables false
set_option linter.unusedSimpArgs false
abbrev LN := S66
abbrev IN := S49
def conv (x : LN) : IN := ⟨x.f0, x.f1, x.f2⟩
theorem mid_rdIN (pre : List IN) (x : IN) (rest : List IN) : rd_T49 (pre ++ x :: rest) (pre.length : Int) = x := by
  unfold rd_T49
  simp
end Go.Proofs.Ytgldcbcefncjjaa.F
end
section
/- Laid by a program of this claim's own. What the Go function does, as a Lean function, and the proof that the Go code does just that; Lean checks it. -/
namespace Go.Proofs.Ytgldcbcefncjjaa.F
open Go.RowKit Go.Proofs.YtgldcbcefncjjaaW.PrintWords Go.Proofs.YtgldcbcefncjjaaW.PrintLast Go.Proofs.YtgldcbcefncjjaaW.PrintMore
attribute [local go_sem] max2_int min2_int max_two min_two max_three min_three max_four min_four   -- for this text's walks alone
set_option linter.unusedVariables false
set_option linter.unusedSimpArgs false
/-! ### spec_ForceOk: function 57 -/
mutual
def spec_ForceOk.l0 : Nat → List (S49) → List Int → List (S49) → Int → Int → Option (Bool)
  | 0, _, _, _, _, _ => none
  | k + 1, x0, x3, x17, x18, x19 => if x19 < x18 then (if 0 ≤ x19 then (if x19 < (x17.length : Int) then (spec_ForceOk.l1 k x0 x3 x19 x17 x18 x19 ((rd_T49 x17 x19).f1) (((rd_T49 x17 x19).f1).length : Int) 0 ((rd_T49 x17 x19).f0) ((rd_T49 x17 x19).f1) ((rd_T49 x17 x19).f2)) else (none)) else (none)) else (spec_ForceOk.l2 k x3 (x3.length : Int) 0)
def spec_ForceOk.l1 : Nat → List (S49) → List Int → Int → List (S49) → Int → Int → List Int → Int → Int → ByteArray → List Int → Int → Option (Bool)
  | 0, _, _, _, _, _, _, _, _, _, _, _, _ => none
  | k + 1, x0, x3, x4, x17, x18, x19, x25, x26, x27, x175000, x175001, x175002 => if x27 < x26 then (if 0 ≤ x27 then (if x27 < (x25.length : Int) then ((spec_l01In.f (rd x25 x27) (wrap64 (x4 + 1)) (wrap64 ((x0.length : Int) - 1))).bind fun t176 => (if t176 = true then (if 0 ≤ (rd x25 x27) then (if (rd x25 x27) < (x3.length : Int) then (spec_ForceOk.l1 k x0 (x3.set ((rd x25 x27) : Int).toNat (wrap64 ((rd x3 (rd x25 x27)) + 1))) x4 x17 x18 x19 x25 x26 (wrap64 (x27 + 1)) x175000 x175001 x175002) else (none)) else (none)) else (some false))) else (none)) else (none)) else (if x175002 < 0 then (some false) else (if (x175001.length : Int) > 0 then (if x175002 = 0 then (spec_ForceOk.l0 k x0 x3 x17 x18 (wrap64 (x19 + 1))) else (some false)) else (spec_ForceOk.l0 k x0 x3 x17 x18 (wrap64 (x19 + 1)))))
def spec_ForceOk.l2 : Nat → List Int → Int → Int → Option (Bool)
  | 0, _, _, _ => none
  | k + 1, x61, x62, x63 => if x63 < x62 then (if 0 ≤ x63 then (if x63 < (x61.length : Int) then (if x63 > 0 then (if (rd x61 x63) = 1 then (spec_ForceOk.l2 k x61 x62 (wrap64 (x63 + 1))) else (some false)) else (spec_ForceOk.l2 k x61 x62 (wrap64 (x63 + 1)))) else (none)) else (none)) else (some true)
end
end Go.Proofs.Ytgldcbcefncjjaa.F
end
section
/- When a list of nodes is a force: the program's and the reference's check. -/
namespace Go.Proofs.Ytgldcbcefncjjaa.F
open Go.RowKit Go.Proofs.YtgldcbcefncjjaaW.PrintWords Go.Proofs.YtgldcbcefncjjaaW.PrintLast Go.Proofs.YtgldcbcefncjjaaW.PrintMore
set_option linter.unusedVariables false
set_option linter.unusedSimpArgs false
def nextM (i n : Int) : List Int → List Int → Option (List Int)
  | [], c => some c
  | v :: vs, c => if i < v ∧ v < n then nextM i n vs (c.set v.toNat (wrap64 (rd c v + 1))) else none
def nodeB (x : IN) : Bool := decide (0 ≤ x.f2) && (decide (x.f1.length = 0) || decide (x.f2 = 0))
def forceM (n : Int) : Int → List IN → List Int → Option (List Int)
  | _, [], c => some c
  | i, x :: xs, c => if nodeB x = true then (nextM i n x.f1 c).bind (forceM n (i + 1) xs) else none
def finB (c : List Int) : Bool := (c.drop 1).all (· == 1)
def forceR (o : Option (List Int)) : Bool := match o with | none => false | some c => finB c
def forceB (l : List IN) : Bool := decide (1 ≤ (l.length : Int) ∧ (l.length : Int) ≤ 40) && forceR (forceM l.length 0 l (List.replicate l.length 0))
theorem nextM_len (i n : Int) (vs : List Int) : ∀ (c c' : List Int), nextM i n vs c = some c' → c'.length = c.length := by
  induction vs with
  | nil => intro c c' h; simp [nextM] at h; rw [h]
  | cons v vs ih =>
    intro c c' h
    unfold nextM at h
    by_cases q : i < v ∧ v < n
    · rw [if_pos q] at h
      rw [ih _ _ h, List.length_set]
    · rw [if_neg q] at h
      exact absurd h (by simp)
theorem impl_next_at (X : List IN) (i : Int) (hi : 0 ≤ i) (r : Bool) (rest : List Int) : ∀ (pre c : List Int), (pre ++ rest).length ≤ 4611686018427387904 → c.length = X.length →
    (match nextM i X.length rest c with | none => r = false | some c' => Ev (fun k => impl_ForceOk.l0 k X c' X (X.length : Int) (wrap64 (i + 1))) r) →
    Ev (fun k => impl_ForceOk.l1 k X c i X (X.length : Int) i (pre ++ rest) ((pre ++ rest).length : Int) (pre.length : Int)) r := by
  induction rest with
  | nil =>
    intro pre c hb hc h
    simp only [nextM] at h
    refine Ev.step (fun k => ?_) h
    show impl_ForceOk.l1 (k + 1) X c i X _ i _ _ _ = _
    rw [impl_ForceOk.l1, if_neg (mid_nlt _)]
  | cons v rest ih =>
    intro pre c hb hc h
    unfold nextM at h
    by_cases q : i < v ∧ v < (X.length : Int)
    · rw [if_pos q] at h
      have h2 := ih (pre ++ [v]) _ (by simpa using hb) (by rw [List.length_set]; exact hc) h
      rw [← mid_cons, ← mid_succ pre v (by simp at hb; omega)] at h2
      refine Ev.step (fun k => ?_) h2
      show impl_ForceOk.l1 (k + 1) X c i X _ i _ _ _ = _
      rw [impl_ForceOk.l1, if_pos (mid_lt _ _ _), if_pos (nn _), if_pos (mid_lt _ _ _), mid_rd, if_neg (by omega), if_neg (by omega), if_pos (by omega), if_pos (by omega)]
    · rw [if_neg q] at h
      subst h
      refine Ev.step (f := fun _ => some false) (fun k => ?_) (Ev.now _)
      show impl_ForceOk.l1 (k + 1) X c i X _ i _ _ _ = _
      rw [impl_ForceOk.l1, if_pos (mid_lt _ _ _), if_pos (nn _), if_pos (mid_lt _ _ _), mid_rd]
      by_cases q1 : v ≤ i
      · rw [if_pos q1]
      · rw [if_neg q1, if_pos (by omega)]
theorem impl_force_at (rest : List IN) : ∀ (pre : List IN) (c : List Int), (pre ++ rest).length ≤ 1048576 → 1 ≤ (pre ++ rest).length → c.length = (pre ++ rest).length → (∀ x ∈ rest, x.f1.length ≤ 4611686018427387904) →
    Ev (fun k => impl_ForceOk.l0 k (pre ++ rest) c (pre ++ rest) ((pre ++ rest).length : Int) (pre.length : Int)) (forceR (forceM ((pre ++ rest).length : Int) (pre.length : Int) rest c)) := by
  induction rest with
  | nil =>
    intro pre c hb h1 hc hx
    refine Ev.step (f := fun _ => some (finB c)) (fun k => ?_) (Ev.now _)
    show impl_ForceOk.l0 (k + 1) _ c _ _ _ = _
    rw [impl_ForceOk.l0, if_neg (mid_nlt _), if_pos (by omega)]
    unfold slices_ContainsFunc_Lint_int__impl_ForceOk_1.f
    rw [Option.bind_some]
    congr 1
    unfold finB
    rw [List.all_eq_not_any_not]
    congr 2
    funext x
    unfold impl_ForceOk_1.f
    cases hx : x == 1 <;> simp_all
  | cons x rest ih =>
    intro pre c hb h1 hc hx
    have hxl := hx x (by simp)
    have key : Ev (fun k => impl_ForceOk.j2 k (pre ++ x :: rest) c (pre.length : Int) (pre ++ x :: rest) ((pre ++ x :: rest).length : Int) (pre.length : Int) (!nodeB x) x.f0 x.f1 x.f2) (forceR (forceM ((pre ++ x :: rest).length : Int) (pre.length : Int) (x :: rest) c)) := by
      by_cases q : nodeB x = true
      · simp only [forceM, if_pos q]
        rw [q]
        have hn := impl_next_at (pre ++ x :: rest) (pre.length : Int) (nn _) (forceR ((nextM (pre.length : Int) ((pre ++ x :: rest).length : Int) x.f1 c).bind (forceM ((pre ++ x :: rest).length : Int) ((pre.length : Int) + 1) rest))) x.f1 [] c (by simpa using hxl) hc (by
          cases hm : nextM (pre.length : Int) ((pre ++ x :: rest).length : Int) x.f1 c with
          | none => rfl
          | some c' =>
            have h := ih (pre ++ [x]) c' (by simpa using hb) (by simp; omega) (by rw [nextM_len _ _ _ _ _ hm, hc]; simp) (fun y hy => hx y (by simp [hy]))
            rw [← mid_cons] at h
            have e1 : ((pre ++ [x]).length : Int) = wrap64 ((pre.length : Int) + 1) := (mid_succ pre x (by simp at hb; omega)).symm
            have e2 : ((pre ++ [x]).length : Int) = (pre.length : Int) + 1 := by simp
            simp only [Option.bind_some]
            rw [e2] at h
            rw [show wrap64 ((pre.length : Int) + 1) = (pre.length : Int) + 1 by rw [← e1, e2]]
            exact h)
        refine Ev.step (fun k => ?_) hn
        show impl_ForceOk.j2 (k + 1) _ c _ _ _ _ (!true) _ _ _ = _
        rw [impl_ForceOk.j2, if_neg (by simp)]
        rfl
      · simp only [forceM, if_neg q]
        have q' : nodeB x = false := by simpa using q
        rw [q']
        refine Ev.step (f := fun _ => some false) (fun k => ?_) (Ev.now _)
        show impl_ForceOk.j2 (k + 1) _ c _ _ _ _ (!false) _ _ _ = _
        rw [impl_ForceOk.j2, if_pos (by simp)]
    refine Ev.step (fun k => ?_) key
    show impl_ForceOk.l0 (k + 1) _ c _ _ _ = _
    rw [impl_ForceOk.l0, if_pos (mid_lt _ _ _), if_pos (nn _), if_pos (mid_lt _ _ _), mid_rdIN]
    unfold nodeB
    by_cases z : x.f2 < 0
    · rw [if_pos z, decide_eq_false (show ¬ 0 ≤ x.f2 by omega)]
      rfl
    · rw [if_neg z, decide_eq_true (show 0 ≤ x.f2 by omega)]
      by_cases y : (x.f1.length : Int) > 0
      · rw [if_pos y, decide_eq_false (show ¬ x.f1.length = 0 by omega)]
        congr 1
        try (cases hz : decide (x.f2 = 0) <;> simp_all)
      · rw [if_neg y, decide_eq_true (show x.f1.length = 0 by omega)]
        try rfl
theorem impl_Force_ev (l : List IN) (hx : ∀ x ∈ l, x.f1.length ≤ 4611686018427387904) : Ev (fun k => impl_ForceOk.f k l) (forceB l) := by
  have hj : Ev (fun k => impl_ForceOk.j0 k l true) false := Ev.at_ 1 (fun k hk => by obtain ⟨m, rfl⟩ := Nat.exists_eq_add_of_le' hk; rfl)
  unfold impl_ForceOk.f forceB
  by_cases h1 : (l.length : Int) < 1
  · simp only [if_pos h1, decide_eq_false (show ¬ (1 ≤ (l.length : Int) ∧ (l.length : Int) ≤ 40) by omega), Bool.false_and]
    exact hj
  · simp only [if_neg h1]
    by_cases h2 : (l.length : Int) > 40
    · simp only [decide_eq_true h2, decide_eq_false (show ¬ (1 ≤ (l.length : Int) ∧ (l.length : Int) ≤ 40) by omega), Bool.false_and]
      exact hj
    · simp only [decide_eq_false h2, decide_eq_true (show 1 ≤ (l.length : Int) ∧ (l.length : Int) ≤ 40 by omega), Bool.true_and]
      refine Ev.step (fun k => ?_) (impl_force_at l [] (List.replicate l.length 0) (by simp; omega) (by simp; omega) (by simp) hx)
      show impl_ForceOk.j0 (k + 1) l false = _
      rw [impl_ForceOk.j0, if_neg (by simp), if_pos (nn _), Int.toNat_natCast, if_pos (by omega)]
      rfl
end Go.Proofs.Ytgldcbcefncjjaa.F
end
section
/- What a force's check says of it; how deep it is. -/
namespace Go.Proofs.Ytgldcbcefncjjaa.F
open Go.RowKit Go.Proofs.YtgldcbcefncjjaaW.PrintWords Go.Proofs.YtgldcbcefncjjaaW.PrintLast Go.Proofs.YtgldcbcefncjjaaW.PrintMore
set_option linter.unusedVariables false
set_option linter.unusedSimpArgs false
theorem nextM_range (i n : Int) (vs : List Int) : ∀ (c c' : List Int), nextM i n vs c = some c' → ∀ v ∈ vs, i < v ∧ v < n := by
  induction vs with
  | nil => intro c c' h v hv; simp at hv
  | cons w vs ih =>
    intro c c' h v hv
    unfold nextM at h
    by_cases q : i < w ∧ w < n
    · rw [if_pos q] at h
      rcases List.mem_cons.mp hv with rfl | hv
      · exact q
      · exact ih _ _ h v hv
    · rw [if_neg q] at h
      exact absurd h (by simp)
theorem forceM_range (n : Int) (xs : List IN) : ∀ (i : Int) (c c' : List Int), 0 ≤ i → forceM n i xs c = some c' → ∀ x ∈ xs, ∀ v ∈ x.f1, 0 ≤ v ∧ v < n := by
  induction xs with
  | nil => intro i c c' hi h x hx; simp at hx
  | cons y xs ih =>
    intro i c c' hi h x hx v hv
    unfold forceM at h
    by_cases q : nodeB y = true
    · rw [if_pos q] at h
      obtain ⟨c2, h1, h2⟩ := Option.bind_eq_some_iff.mp h
      rcases List.mem_cons.mp hx with rfl | hx
      · have := nextM_range _ _ _ _ _ h1 v hv
        omega
      · exact ih _ _ _ (by omega) h2 x hx v hv
    · rw [if_neg q] at h
      exact absurd h (by simp)
theorem forceB_range (l : List IN) (h : forceB l = true) : (1 ≤ l.length ∧ l.length ≤ 40) ∧ ∀ x ∈ l, ∀ v ∈ x.f1, 0 ≤ v ∧ v < (l.length : Int) := by
  unfold forceB at h
  simp only [Bool.and_eq_true, decide_eq_true_eq] at h
  obtain ⟨h1, h2⟩ := h
  refine ⟨by omega, ?_⟩
  cases hm : forceM l.length 0 l (List.replicate l.length 0) with
  | none => rw [hm] at h2; exact absurd h2 (by simp [forceR])
  | some c => exact forceM_range _ _ _ _ _ (by omega) hm
def nodeAt (l : List IN) (c : Int) : IN := rd_T49 l c
theorem nodeAt_mem (l : List IN) (c : Int) (h0 : 0 ≤ c) (h1 : c < (l.length : Int)) : nodeAt l c ∈ l := by
  obtain ⟨n, rfl⟩ := Int.eq_ofNat_of_zero_le h0
  have hn : n < l.length := by omega
  unfold nodeAt rd_T49
  rw [Int.toNat_natCast, List.getD_eq_getElem?_getD, List.getElem?_eq_getElem hn]
  exact List.getElem_mem hn
theorem rd_mem (l : List Int) (c : Int) (h0 : 0 ≤ c) (h1 : c < (l.length : Int)) : rd l c ∈ l := by
  obtain ⟨n, rfl⟩ := Int.eq_ofNat_of_zero_le h0
  have hn : n < l.length := by omega
  unfold rd
  rw [Int.toNat_natCast, List.getD_eq_getElem?_getD, List.getElem?_eq_getElem hn]
  exact List.getElem_mem hn
def occ (v : Int) (l : List IN) : Nat := (l.flatMap fun x => x.f1).count v
theorem occ_cons (v : Int) (x : IN) (l : List IN) : occ v (x :: l) = x.f1.count v + occ v l := by simp [occ]
theorem occ_append (v : Int) (a b : List IN) : occ v (a ++ b) = occ v a + occ v b := by simp [occ]
theorem rd_set (c : List Int) (i j : Nat) (x : Int) (hi : i < c.length) : rd (c.set i x) (j : Int) = if i = j then x else rd c (j : Int) := by
  unfold rd
  rw [Int.toNat_natCast, List.getD_eq_getElem?_getD, List.getD_eq_getElem?_getD, List.getElem?_set]
  by_cases h : i = j
  · subst h; simp [hi]
  · simp [h]
theorem nextM_count (i n : Int) (h0 : 0 ≤ i) (vs : List Int) : ∀ (c c' : List Int) (v : Nat), nextM i n vs c = some c' → (c.length : Int) = n → 0 ≤ rd c v → rd c v + vs.length ≤ 4611686018427387904 → rd c' v = rd c v + (vs.count (v : Int) : Int) := by
  induction vs with
  | nil => intro c c' v h hc h1 h2; simp [nextM] at h; rw [h]; simp
  | cons w vs ih =>
    intro c c' v h hc h1 h2
    unfold nextM at h
    by_cases q : i < w ∧ w < n
    · rw [if_pos q] at h
      obtain ⟨u, rfl⟩ := Int.eq_ofNat_of_zero_le (show 0 ≤ w by omega)
      have hlt : u < c.length := by omega
      rw [Int.toNat_natCast] at h
      simp only [List.length_cons] at h2
      by_cases e : u = v
      · subst e
        have hw : wrap64 (rd c (u : Int) + 1) = rd c (u : Int) + 1 := w64_id (by omega) (by omega)
        rw [hw] at h
        have h3 := ih _ _ u h (by rw [List.length_set]; exact hc) (by rw [rd_set _ _ _ _ hlt, if_pos rfl]; omega) (by rw [rd_set _ _ _ _ hlt, if_pos rfl]; omega)
        rw [rd_set _ _ _ _ hlt, if_pos rfl] at h3
        rw [h3, List.count_cons_self]
        omega
      · have h3 := ih _ _ v h (by rw [List.length_set]; exact hc) (by rw [rd_set _ _ _ _ hlt, if_neg e]; exact h1) (by rw [rd_set _ _ _ _ hlt, if_neg e]; omega)
        rw [rd_set _ _ _ _ hlt, if_neg e] at h3
        rw [h3, List.count_cons_of_ne (by omega)]
    · rw [if_neg q] at h
      exact absurd h (by simp)
theorem forceM_count (n : Int) (xs : List IN) : ∀ (i : Int) (c c' : List Int) (v : Nat), 0 ≤ i → forceM n i xs c = some c' → (c.length : Int) = n → 0 ≤ rd c v → (∀ x ∈ xs, x.f1.length ≤ 1048576) → rd c v + xs.length * 1048576 ≤ 4611686018427387904 → rd c' v = rd c v + (occ v xs : Int) := by
  induction xs with
  | nil => intro i c c' v hi h hc h0 hx hb; simp [forceM] at h; rw [h]; simp [occ]
  | cons y xs ih =>
    intro i c c' v hi h hc h0 hx hb
    unfold forceM at h
    by_cases q : nodeB y = true
    · rw [if_pos q] at h
      obtain ⟨c2, h1, h2⟩ := Option.bind_eq_some_iff.mp h
      have hy := hx y (by simp)
      simp only [List.length_cons] at hb
      have h3 := nextM_count i n hi y.f1 c c2 v h1 hc h0 (by omega)
      have hle : y.f1.count (v : Int) ≤ y.f1.length := List.count_le_length
      have h4 := ih (i + 1) c2 c' v (by omega) h2 (by rw [nextM_len _ _ _ _ _ h1]; exact hc) (by omega) (fun x hx' => hx x (by simp [hx'])) (by omega)
      rw [h4, h3, occ_cons]
      omega
    · rw [if_neg q] at h
      exact absurd h (by simp)
theorem forceM_up (n : Int) (pre : List IN) : ∀ (x : IN) (rest : List IN) (i : Int) (c c' : List Int), forceM n i (pre ++ x :: rest) c = some c' → ∀ v ∈ x.f1, i + pre.length < v ∧ v < n := by
  induction pre with
  | nil =>
    intro x rest i c c' h v hv
    simp only [List.nil_append] at h
    unfold forceM at h
    by_cases q : nodeB x = true
    · rw [if_pos q] at h
      obtain ⟨c2, h1, h2⟩ := Option.bind_eq_some_iff.mp h
      have := nextM_range _ _ _ _ _ h1 v hv
      simpa using this
    · rw [if_neg q] at h
      exact absurd h (by simp)
  | cons y pre ih =>
    intro x rest i c c' h v hv
    simp only [List.cons_append] at h
    unfold forceM at h
    by_cases q : nodeB y = true
    · rw [if_pos q] at h
      obtain ⟨c2, h1, h2⟩ := Option.bind_eq_some_iff.mp h
      have := ih x rest (i + 1) c2 c' h2 v hv
      simp only [List.length_cons]
      omega
    · rw [if_neg q] at h
      exact absurd h (by simp)
/-- What a force's check says of it: each node leads on to later ones alone; each but the first is led to once. -/
structure Tree (l : List IN) : Prop where
  pos : 1 ≤ l.length
  le : l.length ≤ 40
  up : ∀ pre x rest, l = pre ++ x :: rest → ∀ v ∈ x.f1, (pre.length : Int) < v ∧ v < (l.length : Int)
  once : ∀ v : Nat, 1 ≤ v → v < l.length → occ v l = 1
theorem tree_of (l : List IN) (hx : ∀ x ∈ l, x.f1.length ≤ 1048576) (h : forceB l = true) : Tree l := by
  unfold forceB at h
  simp only [Bool.and_eq_true, decide_eq_true_eq] at h
  obtain ⟨h1, h2⟩ := h
  cases hm : forceM l.length 0 l (List.replicate l.length 0) with
  | none => rw [hm] at h2; exact absurd h2 (by simp [forceR])
  | some c =>
    rw [hm] at h2
    refine ⟨by omega, by omega, ?_, ?_⟩
    · intro pre x rest e v hv
      have hm2 := hm
      rw [e] at hm2
      have := forceM_up _ pre x rest 0 _ _ hm2 v hv
      rw [e]
      omega
    · intro v v1 v2
      have hz : rd (List.replicate l.length 0) (v : Int) = 0 := by
        unfold rd
        rw [Int.toNat_natCast, List.getD_eq_getElem?_getD, List.getElem?_replicate]
        split <;> rfl
      have h3 := forceM_count _ l 0 _ c v (by omega) hm (by simp) (by omega) hx (by rw [hz]; omega)
      rw [hz] at h3
      have hl : c.length = l.length := by
        have : ∀ (xs : List IN) (i : Int) (a b : List Int), forceM l.length i xs a = some b → b.length = a.length := by
          intro xs
          induction xs with
          | nil => intro i a b hh; simp [forceM] at hh; rw [hh]
          | cons y ys ih =>
            intro i a b hh
            unfold forceM at hh
            by_cases q : nodeB y = true
            · rw [if_pos q] at hh
              obtain ⟨c2, g1, g2⟩ := Option.bind_eq_some_iff.mp hh
              rw [ih _ _ _ g2, nextM_len _ _ _ _ _ g1]
            · rw [if_neg q] at hh
              exact absurd hh (by simp)
        simpa using this l 0 _ c hm
      have h4 : c[v]? = some c[v] := List.getElem?_eq_getElem (by omega)
      have h5 : rd c (v : Int) = 1 := by
        change finB c = true at h2
        unfold finB at h2
        rw [List.all_eq_true] at h2
        have hmem : c[v] ∈ c.drop 1 := by
          rw [List.mem_iff_getElem?]
          exact ⟨v - 1, by rw [List.getElem?_drop, show 1 + (v - 1) = v by omega]; exact h4⟩
        have := h2 _ hmem
        unfold rd
        rw [Int.toNat_natCast, List.getD_eq_getElem?_getD, h4]
        simpa using this
      omega
/-! the heights -/
def hgt (l : List IN) : Nat → Nat → Nat
  | 0, _ => 0
  | f + 1, i => ((nodeAt l (i : Int)).f1.map fun v => 1 + hgt l f v.toNat).foldl max 0
theorem foldl_max_ge (xs : List Nat) : ∀ a, a ≤ xs.foldl max a ∧ ∀ x ∈ xs, x ≤ xs.foldl max a := by
  induction xs with
  | nil => intro a; simp
  | cons y ys ih =>
    intro a
    simp only [List.foldl_cons]
    obtain ⟨h1, h2⟩ := ih (max a y)
    refine ⟨by omega, fun x hx => ?_⟩
    rcases List.mem_cons.mp hx with rfl | hx
    · omega
    · exact h2 x hx
theorem foldl_max_in (xs : List Nat) : ∀ a, xs.foldl max a = a ∨ xs.foldl max a ∈ xs := by
  induction xs with
  | nil => intro a; simp
  | cons y ys ih =>
    intro a
    simp only [List.foldl_cons]
    rcases ih (max a y) with h | h
    · by_cases c : a ≤ y
      · right; rw [h, Nat.max_eq_right c]; simp
      · left; rw [h, Nat.max_eq_left (by omega)]
    · right; exact List.mem_cons_of_mem _ h
theorem split_at {l : List IN} {i : Nat} (h : i < l.length) : ∃ pre rest, l = pre ++ nodeAt l (i : Int) :: rest ∧ pre.length = i := by
  refine ⟨l.take i, l.drop (i + 1), ?_, by simp; omega⟩
  have e : nodeAt l (i : Int) = l[i] := by
    unfold nodeAt rd_T49
    rw [Int.toNat_natCast, List.getD_eq_getElem?_getD, List.getElem?_eq_getElem h]
    rfl
  rw [e, ← List.drop_eq_getElem_cons h, List.take_append_drop]
theorem kid_range {l : List IN} (T : Tree l) {i : Nat} (h : i < l.length) {v : Int} (hv : v ∈ (nodeAt l (i : Int)).f1) : (i : Int) < v ∧ v < (l.length : Int) := by
  obtain ⟨pre, rest, e, hl⟩ := split_at h
  have := T.up pre _ rest e v hv
  rwa [hl] at this
/-- More than enough is enough. -/
theorem hgt_more {l : List IN} (T : Tree l) (f : Nat) : ∀ i, i < l.length → l.length ≤ i + f → ∀ g, f ≤ g → hgt l g i = hgt l f i := by
  induction f with
  | zero => intro i h1 h2 g hg; omega
  | succ f ih =>
    intro i h1 h2 g hg
    obtain ⟨g, rfl⟩ : ∃ m, g = m + 1 := ⟨g - 1, by omega⟩
    unfold hgt
    congr 1
    apply List.map_congr_left
    intro v hv
    have := kid_range T h1 hv
    rw [ih v.toNat (by omega) (by omega) g (by omega)]
theorem hgt_kid {l : List IN} (T : Tree l) {i : Nat} (h : i < l.length) {v : Int} (hv : v ∈ (nodeAt l (i : Int)).f1) : 1 + hgt l l.length v.toNat ≤ hgt l l.length i := by
  have hr := kid_range T h hv
  obtain ⟨m, hm⟩ : ∃ m, l.length = m + 1 := ⟨l.length - 1, by omega⟩
  have e : hgt l l.length v.toNat = hgt l m v.toNat := hgt_more T m v.toNat (by omega) (by omega) _ (by omega)
  rw [e, hm]
  conv => rhs; unfold hgt
  exact (foldl_max_ge _ 0).2 _ (List.mem_map.mpr ⟨v, hv, rfl⟩)
theorem hgt_some {l : List IN} (T : Tree l) {i : Nat} (h : i < l.length) (hp : 0 < hgt l l.length i) : ∃ v ∈ (nodeAt l (i : Int)).f1, hgt l l.length i = 1 + hgt l l.length v.toNat := by
  obtain ⟨m, hm⟩ : ∃ m, l.length = m + 1 := ⟨l.length - 1, by omega⟩
  have e : hgt l l.length i = ((nodeAt l (i : Int)).f1.map fun v => 1 + hgt l m v.toNat).foldl max 0 := by rw [hm]; rfl
  rcases foldl_max_in ((nodeAt l (i : Int)).f1.map fun v => 1 + hgt l m v.toNat) 0 with h2 | h2
  · omega
  · obtain ⟨v, hv, hv2⟩ := List.mem_map.mp h2
    have hr := kid_range T h hv
    refine ⟨v, hv, ?_⟩
    rw [e, ← hv2, hgt_more T m v.toNat (by omega) (by omega) l.length (by omega)]
/-! the table of depths -/
def stepD (i : Int) (vs : List Int) (D : List Int) : List Int := vs.foldl (fun D v => D.set v.toNat (wrap64 (rd D i + 1))) D
def runD : Int → List IN → List Int → List Int
  | _, [], D => D
  | i, x :: xs, D => runD (i + 1) xs (stepD i x.f1 D)
def runO : Int → List IN → List Int → Int → Int
  | _, [], _, o => o
  | i, x :: xs, D, o => runO (i + 1) xs (stepD i x.f1 D) (mx o (rd (stepD i x.f1 D) i))
theorem stepD_cons (i v : Int) (vs D : List Int) : stepD i (v :: vs) D = stepD i vs (D.set v.toNat (wrap64 (rd D i + 1))) := rfl
theorem stepD_len (i : Int) (vs : List Int) : ∀ D, (stepD i vs D).length = D.length := by
  induction vs with
  | nil => intro D; rfl
  | cons v vs ih => intro D; rw [stepD_cons, ih, List.length_set]
theorem stepD_other (i : Nat) (vs : List Int) : ∀ (D : List Int) (j : Nat), (∀ v ∈ vs, 0 ≤ v ∧ v < (D.length : Int)) → (j : Int) ∉ vs → rd (stepD i vs D) (j : Int) = rd D (j : Int) := by
  induction vs with
  | nil => intro D j _ _; rfl
  | cons v vs ih =>
    intro D j hv hj
    obtain ⟨u, rfl⟩ := Int.eq_ofNat_of_zero_le (hv v (by simp)).1
    have hu := (hv (u : Int) (by simp)).2
    rw [stepD_cons, ih _ j (by intro v hv2; rw [List.length_set]; exact hv v (by simp [hv2])) (fun h => hj (by simp [h])), Int.toNat_natCast, rd_set _ _ _ _ (by omega), if_neg (by rintro rfl; exact hj (by simp))]
theorem stepD_hit (i : Nat) (vs : List Int) : ∀ (D : List Int) (j : Nat), (∀ v ∈ vs, (i : Int) < v ∧ v < (D.length : Int)) → (j : Int) ∈ vs → rd (stepD i vs D) (j : Int) = wrap64 (rd D (i : Int) + 1) := by
  induction vs with
  | nil => intro D j _ h; simp at h
  | cons v vs ih =>
    intro D j hv hj
    have hv0 := hv v (by simp)
    obtain ⟨u, rfl⟩ := Int.eq_ofNat_of_zero_le (show 0 ≤ v by omega)
    have hset : rd (D.set u (wrap64 (rd D (i : Int) + 1))) (i : Int) = rd D (i : Int) := by rw [rd_set _ _ _ _ (by omega), if_neg (by omega)]
    rw [stepD_cons, Int.toNat_natCast]
    by_cases hm : (j : Int) ∈ vs
    · rw [ih _ j (by intro w hw; rw [List.length_set]; exact hv w (by simp [hw])) hm, hset]
    · have e : j = u := by
        rcases List.mem_cons.mp hj with h | h
        · omega
        · exact absurd h hm
      subst e
      rw [stepD_other i vs _ j (by intro w hw; have := hv w (by simp [hw]); rw [List.length_set]; omega) hm, rd_set _ _ _ _ (by omega), if_pos rfl]
theorem runD_len (xs : List IN) : ∀ (i : Int) (D : List Int), (runD i xs D).length = D.length := by
  induction xs with
  | nil => intro i D; rfl
  | cons x xs ih => intro i D; unfold runD; rw [ih, stepD_len]
theorem runD_other (xs : List IN) : ∀ (i : Nat) (D : List Int) (j : Nat), (∀ x ∈ xs, ∀ v ∈ x.f1, 0 ≤ v ∧ v < (D.length : Int)) → (∀ x ∈ xs, (j : Int) ∉ x.f1) → rd (runD (i : Int) xs D) (j : Int) = rd D (j : Int) := by
  induction xs with
  | nil => intro i D j _ _; rfl
  | cons x xs ih =>
    intro i D j hv hj
    unfold runD
    rw [show (i : Int) + 1 = ((i + 1 : Nat) : Int) by omega, ih (i + 1) _ j (by intro y hy; rw [stepD_len]; exact hv y (by simp [hy])) (fun y hy => hj y (by simp [hy])), stepD_other i _ _ j (hv x (by simp)) (hj x (by simp))]
theorem runD_append (a b : List IN) : ∀ (i : Nat) (D : List Int), runD (i : Int) (a ++ b) D = runD ((i + a.length : Nat) : Int) b (runD (i : Int) a D) := by
  induction a with
  | nil => intro i D; rfl
  | cons x a ih =>
    intro i D
    rw [List.cons_append]
    conv => lhs; unfold runD
    conv => rhs; arg 3; unfold runD
    rw [show (i : Int) + 1 = ((i + 1 : Nat) : Int) by omega, ih]
    congr 2
    simp only [List.length_cons]; omega
theorem tree_vs {l : List IN} (T : Tree l) : ∀ x ∈ l, ∀ v ∈ x.f1, 0 ≤ v ∧ v < (l.length : Int) := by
  intro x hx v hv
  obtain ⟨pre, rest, e⟩ := List.append_of_mem hx
  have := T.up pre x rest e v hv
  omega
/-- The table at its end, round node i. -/
theorem end_here {l : List IN} (T : Tree l) (D : List Int) (hD : D.length = l.length) (pre : List IN) (x : IN) (rest : List IN) (e : l = pre ++ x :: rest) (D1 : List Int) (h1 : D1 = runD 0 pre D) :
    rd (stepD (pre.length : Int) x.f1 D1) (pre.length : Int) = rd (runD 0 l D) (pre.length : Int) ∧ ∀ v : Nat, (v : Int) ∈ x.f1 → rd (runD 0 l D) (v : Int) = wrap64 (rd (runD 0 l D) (pre.length : Int) + 1) := by
  have hup : ∀ v ∈ x.f1, (pre.length : Int) < v ∧ v < (l.length : Int) := T.up pre x rest e
  have hvs := tree_vs T
  have hl1 : D1.length = l.length := by rw [h1, runD_len, hD]
  have hF : runD 0 l D = runD ((pre.length + 1 : Nat) : Int) rest (stepD (pre.length : Int) x.f1 D1) := by
    have := runD_append pre (x :: rest) 0 D
    rw [e, show (0 : Int) = ((0 : Nat) : Int) from rfl, this, Nat.zero_add]
    conv => lhs; unfold runD
    rw [h1, show (pre.length : Int) + 1 = ((pre.length + 1 : Nat) : Int) by omega]
    rfl
  have hlater : ∀ y ∈ rest, ∀ v ∈ y.f1, (pre.length : Int) + 1 < v := by
    intro y hy v hv
    obtain ⟨p2, r2, e2⟩ := List.append_of_mem hy
    have := T.up (pre ++ x :: p2) y r2 (by rw [e, e2]; simp) v hv
    simp at this
    omega
  have hvr : ∀ y ∈ rest, ∀ v ∈ y.f1, 0 ≤ v ∧ v < ((stepD (pre.length : Int) x.f1 D1).length : Int) := by
    intro y hy v hv
    rw [stepD_len, hl1]
    exact hvs y (by rw [e]; simp [hy]) v hv
  have A : rd (stepD (pre.length : Int) x.f1 D1) (pre.length : Int) = rd (runD 0 l D) (pre.length : Int) := by
    rw [hF, runD_other rest _ _ pre.length hvr (fun y hy h => by have := hlater y hy _ h; omega)]
  refine ⟨A, fun v hv => ?_⟩
  have hv1 := hup _ hv
  have honce := T.once v (by omega) (by omega)
  rw [e, occ_append, occ_cons] at honce
  have hc : 0 < x.f1.count (v : Int) := List.count_pos_iff.mpr hv
  have hrest : occ (v : Int) rest = 0 := by omega
  have hno : ∀ y ∈ rest, (v : Int) ∉ y.f1 := by
    intro y hy h
    have : (v : Int) ∈ rest.flatMap fun x => x.f1 := List.mem_flatMap.mpr ⟨y, hy, h⟩
    have := List.count_pos_iff.mpr this
    unfold occ at hrest
    omega
  have h2 : rd (stepD (pre.length : Int) x.f1 D1) (pre.length : Int) = rd D1 (pre.length : Int) := stepD_other pre.length x.f1 D1 pre.length (fun v hv => by have := hup v hv; omega) (fun h => by have := hup _ h; omega)
  rw [← A, h2, hF, runD_other rest _ _ v hvr hno, stepD_hit pre.length x.f1 D1 v (fun w hw => by have := hup w hw; omega) hv]
theorem end_kid {l : List IN} (T : Tree l) (D : List Int) (hD : D.length = l.length) {i : Nat} (h : i < l.length) {v : Nat} (hv : (v : Int) ∈ (nodeAt l (i : Int)).f1) : rd (runD 0 l D) (v : Int) = wrap64 (rd (runD 0 l D) (i : Int) + 1) := by
  obtain ⟨pre, rest, e, hl⟩ := split_at h
  have := (end_here T D hD pre _ rest e _ rfl).2 v hv
  rwa [hl] at this
theorem parent {l : List IN} (T : Tree l) (v : Nat) (h1 : 1 ≤ v) (h2 : v < l.length) : ∃ i, i < v ∧ (v : Int) ∈ (nodeAt l (i : Int)).f1 := by
  have ho := T.once v h1 h2
  have hm : (v : Int) ∈ l.flatMap fun x => x.f1 := by
    rw [← List.count_pos_iff]
    unfold occ at ho
    omega
  obtain ⟨x, hx, hv⟩ := List.mem_flatMap.mp hm
  obtain ⟨pre, rest, e⟩ := List.append_of_mem hx
  have hup := T.up pre x rest e _ hv
  refine ⟨pre.length, by omega, ?_⟩
  have : nodeAt l (pre.length : Int) = x := by
    rw [e]
    unfold nodeAt
    exact mid_rdIN _ _ _
  rw [this]
  exact hv
theorem end_small {l : List IN} (T : Tree l) (D : List Int) (hD : D = List.replicate l.length 0) : ∀ (n v : Nat), v < n → v < l.length → 0 ≤ rd (runD 0 l D) (v : Int) ∧ rd (runD 0 l D) (v : Int) ≤ v := by
  intro n
  induction n with
  | zero => intro v h; omega
  | succ n ih =>
    intro v hv hl
    by_cases h0 : v = 0
    · subst h0
      have h1 : rd (runD 0 l D) ((0 : Nat) : Int) = rd D ((0 : Nat) : Int) := runD_other l 0 D 0 (by rw [hD, List.length_replicate]; exact tree_vs T) (fun x hx h => by
        obtain ⟨pre, rest, e⟩ := List.append_of_mem hx
        have := T.up pre x rest e _ h
        omega)
      have h2 : rd D ((0 : Nat) : Int) = 0 := by
        rw [hD]
        unfold rd
        rw [Int.toNat_natCast, List.getD_eq_getElem?_getD, List.getElem?_replicate]
        split <;> rfl
      omega
    · obtain ⟨i, hi, hm⟩ := parent T v (by omega) hl
      have h3 := ih i (by omega) (by omega)
      have h4 := end_kid T D (by rw [hD]; simp) (show i < l.length by omega) hm
      have := T.le
      rw [w64_id (by omega) (by omega)] at h4
      omega
theorem end_root {l : List IN} (T : Tree l) (D : List Int) (hD : D = List.replicate l.length 0) (v : Nat) (hl : v < l.length) : rd (runD 0 l D) (v : Int) + hgt l l.length v ≤ hgt l l.length 0 := by
  suffices h : ∀ (n v : Nat), v < n → v < l.length → rd (runD 0 l D) (v : Int) + hgt l l.length v ≤ hgt l l.length 0 from h (v + 1) v (by omega) hl
  intro n
  induction n with
  | zero => intro v h; omega
  | succ n ih =>
    intro v hv hl
    by_cases h0 : v = 0
    · subst h0
      have := end_small T D hD 1 0 (by omega) hl
      omega
    · obtain ⟨i, hi, hm⟩ := parent T v (by omega) hl
      have h3 := ih i (by omega) (by omega)
      have h4 := end_kid T D (by rw [hD]; simp) (show i < l.length by omega) hm
      have h5 := end_small T D hD (i + 1) i (by omega) (by omega)
      have h6 := hgt_kid T (show i < l.length by omega) hm
      rw [Int.toNat_natCast] at h6
      have := T.le
      rw [w64_id (by omega) (by omega)] at h4
      omega
theorem end_deep {l : List IN} (T : Tree l) (D : List Int) (hD : D = List.replicate l.length 0) : ∀ (n v : Nat), l.length ≤ v + n → v < l.length → ∃ j, j < l.length ∧ rd (runD 0 l D) (j : Int) = rd (runD 0 l D) (v : Int) + hgt l l.length v := by
  intro n
  induction n with
  | zero => intro v h1 h2; omega
  | succ n ih =>
    intro v h1 h2
    by_cases h0 : hgt l l.length v = 0
    · exact ⟨v, h2, by omega⟩
    · obtain ⟨c, hc, he⟩ := hgt_some T h2 (by omega)
      have hr := kid_range T h2 hc
      obtain ⟨u, rfl⟩ := Int.eq_ofNat_of_zero_le (show 0 ≤ c by omega)
      rw [Int.toNat_natCast] at he
      obtain ⟨j, hj, hj2⟩ := ih u (by omega) (by omega)
      have h4 := end_kid T D (by rw [hD]; simp) h2 hc
      have h5 := end_small T D hD (v + 1) v (by omega) h2
      have := T.le
      rw [w64_id (by omega) (by omega)] at h4
      exact ⟨j, hj, by omega⟩
theorem mx_eq (a b : Int) : mx a b = max a b := by
  unfold mx
  split <;> omega
theorem runO_is {l : List IN} (T : Tree l) (D : List Int) (hD : D.length = l.length) (rest : List IN) : ∀ (pre : List IN) (o : Int), l = pre ++ rest →
    let r := runO (pre.length : Int) rest (runD 0 pre D) o
    o ≤ r ∧ (∀ j, pre.length ≤ j → j < l.length → rd (runD 0 l D) (j : Int) ≤ r) ∧ (r = o ∨ ∃ j, j < l.length ∧ r = rd (runD 0 l D) (j : Int)) := by
  induction rest with
  | nil =>
    intro pre o e
    refine ⟨by simp [runO], fun j h1 h2 => ?_, .inl rfl⟩
    rw [e] at h2
    simp at h2
    omega
  | cons x rest ih =>
    intro pre o e
    have hE := (end_here T D hD pre x rest e _ rfl).1
    have hn := ih (pre ++ [x]) (mx o (rd (stepD (pre.length : Int) x.f1 (runD 0 pre D)) (pre.length : Int))) (by rw [e]; simp)
    have e1 : runD 0 (pre ++ [x]) D = stepD (pre.length : Int) x.f1 (runD 0 pre D) := by
      have := runD_append pre [x] 0 D
      rw [show (0 : Int) = ((0 : Nat) : Int) from rfl, this, Nat.zero_add]
      rfl
    have e2 : (((pre ++ [x]).length : Nat) : Int) = (pre.length : Int) + 1 := by simp
    rw [e1, e2] at hn
    simp only [runO] at hn ⊢
    rw [hE, mx_eq] at hn
    rw [hE, mx_eq]
    obtain ⟨n1, n2, n3⟩ := hn
    have hlen : pre.length < l.length := by rw [e]; simp
    refine ⟨by omega, fun j h1 h2 => ?_, ?_⟩
    · by_cases c : j = pre.length
      · subst c; omega
      · exact n2 j (by simp; omega) h2
    · rcases n3 with n3 | n3
      · by_cases c : o ≤ rd (runD 0 l D) (pre.length : Int)
        · exact .inr ⟨pre.length, hlen, by omega⟩
        · exact .inl (by omega)
      · exact .inr n3
theorem depth_is {l : List IN} (T : Tree l) : runO 0 l (List.replicate l.length 0) 0 = hgt l l.length 0 := by
  have hp := T.pos
  obtain ⟨h1, h2, h3⟩ := runO_is T (List.replicate l.length 0) (by simp) l [] 0 rfl
  obtain ⟨j, hj, hj2⟩ := end_deep T (List.replicate l.length 0) rfl l.length 0 (by omega) (by omega)
  have h4 := h2 j (by simp) hj
  have h5 := end_small T (List.replicate l.length 0) rfl 1 0 (by omega) (by omega)
  simp only [List.length_nil, Int.natCast_zero, runD] at h1 h2 h3 h4
  have e0 : rd (runD 0 l (List.replicate l.length 0)) ((0 : Nat) : Int) = 0 := by omega
  rcases h3 with h3 | ⟨i, hi, h3⟩
  · omega
  · have := end_root T (List.replicate l.length 0) rfl i hi
    omega
/-! the program's functions -/
end Go.Proofs.Ytgldcbcefncjjaa.F
end
section
/- Laid by a program of this claim's own. What the Go function does, as a Lean function, and the proof that the Go code does just that; Lean checks it. -/
namespace Go.Proofs.Ytgldcbcefncjjaa.F
open Go.RowKit Go.Proofs.YtgldcbcefncjjaaW.PrintWords Go.Proofs.YtgldcbcefncjjaaW.PrintLast Go.Proofs.YtgldcbcefncjjaaW.PrintMore
attribute [local go_sem] max2_int min2_int max_two min_two max_three min_three max_four min_four   -- for this text's walks alone
set_option linter.unusedVariables false
set_option linter.unusedSimpArgs false
/-! ### spec_l01Str: function 96 -/
def spec_l01Str.f (s0_0 : List Int) (s0_1 : Int) (s0_2 : Int) (l1 : List ByteArray) : Option (ByteArray × Int × Int) := (spec_l01Below.f s0_0 s0_1 s0_2 (l1.length : Int)).bind fun bt445 => (if 0 ≤ bt445.1 then (if bt445.1 < (l1.length : Int) then (some (rdOf ByteArray.empty l1 bt445.1, bt445.2.1, bt445.2.2)) else (none)) else (none))
end Go.Proofs.Ytgldcbcefncjjaa.F
end
section
/- Laid by a program of this claim's own. What the Go function does, as a Lean function, and the proof that the Go code does just that; Lean checks it. -/
namespace Go.Proofs.Ytgldcbcefncjjaa.F
open Go.RowKit Go.Proofs.YtgldcbcefncjjaaW.PrintWords Go.Proofs.YtgldcbcefncjjaaW.PrintLast Go.Proofs.YtgldcbcefncjjaaW.PrintMore
attribute [local go_sem] max2_int min2_int max_two min_two max_three min_three max_four min_four   -- for this text's walks alone
set_option linter.unusedVariables false
set_option linter.unusedSimpArgs false
/-! ### spec_l13Draw: function 67 -/
mutual
def spec_l13Draw.l0 : Nat → List (S49) → Int → List Int → Int → Int → Option ((List (S49)) × Int × Int)
  | 0, _, _, _, _, _ => none
  | k + 1, x3, x4, x1000, x1001, x1002 => if x4 > 0 then ((spec_l01Below.f x1000 x1001 x1002 (x3.length : Int)).bind fun bt458 => (if 0 ≤ bt458.1 then (if bt458.1 < (x3.length : Int) then (if ((rd_T49 x3 bt458.1).f1).length < 17592186044416 then ((some (x3.set (bt458.1 : Int).toNat (⟨(rd_T49 x3 bt458.1).f0, (((rd_T49 x3 bt458.1).f1) ++ [(x3.length : Int)]), (rd_T49 x3 bt458.1).f2⟩ : S49) : List (S49))).bind fun y465 => (if y465.length < 2932031007402 then (spec_l13Draw.l0 k (y465 ++ [(⟨(⟨#[]⟩ : ByteArray), ([] : List Int), 0⟩ : S49)]) (wrap64 (x4 - 1)) x1000 bt458.2.1 bt458.2.2) else (none))) else (none)) else (none)) else (none))) else ((spec_l01Below.f x1000 x1001 x1002 3).bind fun bt469 => (spec_l13Draw.l1 k x3 bt469.1 (x3.length : Int) 0 x1000 bt469.2.1 bt469.2.2))
def spec_l13Draw.l1 : Nat → List (S49) → Int → Int → Int → List Int → Int → Int → Option ((List (S49)) × Int × Int)
  | 0, _, _, _, _, _, _, _ => none
  | k + 1, x3, x6, x40, x41, x1000, x1001, x1002 => if x41 < x40 then ((spec_l01Str.f x1000 x1001 x1002 (([(⟨#[97]⟩ : ByteArray), (⟨#[98]⟩ : ByteArray)] : List ByteArray))).bind fun bt475 => (if 0 ≤ x41 then (if x41 < (x3.length : Int) then ((some (x3.set (x41 : Int).toNat (⟨bt475.1, (rd_T49 x3 x41).f1, (rd_T49 x3 x41).f2⟩ : S49) : List (S49))).bind fun y478 => (if (((rd_T49 y478 x41).f1).length : Int) = 0 then ((some (y478.set (x41 : Int).toNat (⟨(rd_T49 y478 x41).f0, (rd_T49 y478 x41).f1, x6⟩ : S49) : List (S49))).bind fun y480 => ((spec_l01Once.f x1000 bt475.2.1 bt475.2.2 6).bind fun bt481 => (if bt481.1 = true then ((spec_l01Below.f x1000 bt481.2.1 bt481.2.2 3).bind fun bt484 => (spec_l13Draw.l1 k (y480.set (x41 : Int).toNat (⟨(rd_T49 y480 x41).f0, (rd_T49 y480 x41).f1, bt484.1⟩ : S49)) x6 x40 (wrap64 (x41 + 1)) x1000 bt484.2.1 bt484.2.2)) else (spec_l13Draw.l1 k y480 x6 x40 (wrap64 (x41 + 1)) x1000 bt481.2.1 bt481.2.2)))) else (spec_l13Draw.l1 k y478 x6 x40 (wrap64 (x41 + 1)) x1000 bt475.2.1 bt475.2.2))) else (none)) else (none))) else (some (x3, x1001, x1002))
end
end Go.Proofs.Ytgldcbcefncjjaa.F
-- SPELLED BY THE ROW
end
section
/- The forces that the laws draw are forces. -/
namespace Go.Proofs.Ytgldcbcefncjjaa.F
open Go.RowKit Go.Proofs.YtgldcbcefncjjaaW.PrintWords Go.Proofs.YtgldcbcefncjjaaW.PrintLast Go.Proofs.YtgldcbcefncjjaaW.PrintMore
set_option linter.unusedVariables false
set_option linter.unusedSimpArgs false
/-- What a growing force keeps. -/
structure Grown (l : List IN) : Prop where
  pos : 1 ≤ l.length
  up : ∀ j : Nat, j < l.length → ∀ v ∈ (nodeAt l (j : Int)).f1, (j : Int) < v ∧ v < (l.length : Int)
  once : ∀ v : Nat, 1 ≤ v → v < l.length → occ v l = 1
theorem nodeAt_nat (l : List IN) (j : Nat) (h : j < l.length) : nodeAt l (j : Int) = l[j] := by
  unfold nodeAt rd_T49
  rw [Int.toNat_natCast, List.getD_eq_getElem?_getD, List.getElem?_eq_getElem h]; rfl
end Go.Proofs.Ytgldcbcefncjjaa.F
end
