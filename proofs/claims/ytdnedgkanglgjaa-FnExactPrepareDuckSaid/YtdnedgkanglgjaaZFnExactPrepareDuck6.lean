import Derived.Test.YtdnedgkanglgjaaZFnExactPrepareDuck1
import Derived.Test.YtdnedgkanglgjaaM
import Derived.Test.YtdnedgkanglgjaaZFnExactPrepareDuck3
import Derived.Test.YtdnedgkanglgjaaZFnExactPrepareDuck2
import Derived.Test.YtdnedgkanglgjaaZFnExactPrepareDuck5
/- What the laws' own helpers tell: equality, a copy, marks and whether they are held. -/
namespace Go.Proofs.Ytdnedgkanglgjaa.F
open Go.RowKit Go.Proofs.YtdnedgkanglgjaaW.PrintWords Go.Proofs.YtdnedgkanglgjaaW.PrintLast Go.Proofs.YtdnedgkanglgjaaW.PrintMore
set_option linter.unusedVariables false
set_option linter.unusedSimpArgs false
theorem eqIntS_at (rest : List Int) : ∀ (pre : List Int) (ys : List Int), (pre ++ ys).length ≤ 4611686018427387904 → rest.length = ys.length →
    Ev (fun k => laws_eqIntS.l0 k (pre ++ rest) (pre ++ ys) (pre.length : Int)) (decide (rest = ys)) := by
  induction rest with
  | nil =>
    intro pre ys hb hl
    obtain rfl : ys = [] := List.eq_nil_of_length_eq_zero hl.symm
    exact Ev.step (f := fun _ => some true) (fun k => by rw [laws_eqIntS.l0, if_neg (mid_nlt _)]) (Ev.now _)
  | cons x rest ih =>
    intro pre ys hb hl
    cases ys with
    | nil => simp at hl
    | cons y ys =>
      by_cases e : x = y
      · subst e
        have h := ih (pre ++ [x]) ys (by simpa using hb) (by simpa using hl)
        rw [← mid_cons, ← mid_cons] at h
        rw [show decide (x :: rest = x :: ys) = decide (rest = ys) by simp]
        exact Ev.step (fun k => by rw [laws_eqIntS.l0, if_pos (mid_lt _ _ _), if_pos (nn _), if_pos (mid_lt _ _ _), mid_rd, mid_rd, if_pos rfl, mid_succ pre x (by simp at hb; omega)]) h
      · rw [show decide (x :: rest = y :: ys) = false by simp [e]]
        exact Ev.step (f := fun _ => some false) (fun k => by rw [laws_eqIntS.l0, if_pos (mid_lt _ _ _), if_pos (nn _), if_pos (mid_lt _ _ _), mid_rd, mid_rd, if_neg e]) (Ev.now _)
theorem eqIntS_ev (l m : List Int) (hl : l.length ≤ 4611686018427387904) : Ev (fun k => laws_eqIntS.f k l m) (decide (l = m)) := by
  unfold laws_eqIntS.f
  by_cases e : (l.length : Int) = (m.length : Int)
  · have h := eqIntS_at l [] m (by simp; omega) (by omega)
    simpa [e] using h
  · have e2 : ¬ l = m := fun h => e (by rw [h])
    simp only [if_neg e, e2, decide_false]
    exact Ev.now _
theorem eqIntS_same (l : List Int) (hl : l.length ≤ 4611686018427387904) : Ev (fun k => laws_eqIntS.f k l l) true := by
  have := eqIntS_ev l l hl
  simpa using this
theorem toIntS_at (rest : List Int) : ∀ (pre zs : List Int), (pre ++ rest).length ≤ 4611686018427387904 → zs.length = rest.length →
    Ev (fun k => laws_toIntS.l0 k (pre ++ rest) (pre ++ zs) (pre.length : Int)) (pre ++ rest) := by
  induction rest with
  | nil =>
    intro pre zs hb hl
    obtain rfl : zs = [] := List.eq_nil_of_length_eq_zero hl
    exact Ev.step (f := fun _ => some (pre ++ [])) (fun k => by rw [laws_toIntS.l0, if_neg (mid_nlt _)]) (Ev.now _)
  | cons x rest ih =>
    intro pre zs hb hl
    cases zs with
    | nil => simp at hl
    | cons z zs =>
      have h := ih (pre ++ [x]) zs (by simpa using hb) (by simpa using hl)
      rw [← mid_cons] at h
      exact Ev.step (fun k => by rw [laws_toIntS.l0, if_pos (mid_lt _ _ _), if_pos (nn _), if_pos (mid_lt _ _ _), mid_rd, mid_set, mid_succ pre x (by simp at hb; omega)]) h
theorem toIntS_ev (l : List Int) (hl : l.length ≤ 35184372088832) : Ev (fun k => laws_toIntS.f k l) l := by
  unfold laws_toIntS.f
  have h := toIntS_at l [] (List.replicate l.length 0) (by simp; omega) (by simp)
  have e2 : (0 : Int) ≤ (l.length : Int) := nn _
  simpa [hl] using h
theorem markIntS_at (rest : List Int) : ∀ (pre : List Int) (a : Int), (pre ++ rest).length ≤ 4611686018427387904 → 0 ≤ a → a + rest.length ≤ 4611686018427387904 →
    Ev (fun k => laws_markIntS.l0 k (pre ++ rest) a (pre.length : Int)) (a + rest.length, pre ++ seqFrom a rest.length) := by
  induction rest with
  | nil =>
    intro pre a hb h0 h1
    refine Ev.step (f := fun _ => some (a + 0, pre ++ [])) (fun k => ?_) ?_
    · rw [laws_markIntS.l0, if_neg (mid_nlt _)]
      simp
    · simpa [seqFrom] using Ev.now _
  | cons x rest ih =>
    intro pre a hb h0 h1
    have h := ih (pre ++ [a]) (a + 1) (by simpa using hb) (by omega) (by simp at h1; omega)
    have e : (a + ((x :: rest).length : Int), pre ++ seqFrom a (x :: rest).length) = (a + 1 + (rest.length : Int), pre ++ [a] ++ seqFrom (a + 1) rest.length) := by
      simp [seqFrom]
      omega
    rw [e]
    exact Ev.step (fun k => by rw [laws_markIntS.l0, if_pos (mid_lt _ _ _), if_pos (nn _), mid_set, w64_id (by omega) (by simp at h1; omega), mid_succ pre a (by simp at hb; omega)]) h
theorem markIntS_ev (l : List Int) (a : Int) (hl : l.length ≤ 1152921504606846976) (h0 : 0 ≤ a) (h1 : a ≤ 1152921504606846976) : Ev (fun k => laws_markIntS.f k l a) (a + l.length, seqFrom a l.length) := by
  unfold laws_markIntS.f
  have h := markIntS_at l [] a (by simp; omega) h0 (by omega)
  simpa using h
theorem heldIntS_at (n : Nat) : ∀ (pre : List Int) (a : Int), (pre ++ seqFrom a n).length ≤ 4611686018427387904 → 0 ≤ a → a + n ≤ 4611686018427387904 →
    Ev (fun k => laws_heldIntS.l0 k (pre ++ seqFrom a n) a (pre.length : Int)) (a + n) := by
  induction n with
  | zero =>
    intro pre a hb h0 h1
    refine Ev.step (f := fun _ => some (a + 0)) (fun k => ?_) ?_
    · show laws_heldIntS.l0 (k + 1) (pre ++ []) a _ = _
      rw [laws_heldIntS.l0, if_neg (mid_nlt _)]
      simp
    · simpa using Ev.now _
  | succ n ih =>
    intro pre a hb h0 h1
    have h := ih (pre ++ [a]) (a + 1) (by simpa [seqFrom] using hb) (by omega) (by omega)
    rw [← mid_cons] at h
    have e : a + ((n + 1 : Nat) : Int) = a + 1 + (n : Int) := by omega
    rw [e]
    refine Ev.step (fun k => ?_) h
    show laws_heldIntS.l0 (k + 1) (pre ++ a :: seqFrom (a + 1) n) a _ = _
    rw [laws_heldIntS.l0, if_pos (mid_lt _ _ _), if_pos (nn _), mid_rd, if_pos rfl, w64_id (by omega) (by omega), mid_succ pre a (by simp at hb; omega)]
theorem heldIntS_ev (n : Nat) (a : Int) (hl : n ≤ 1152921504606846976) (h0 : 0 ≤ a) (h1 : a ≤ 1152921504606846976) : Ev (fun k => laws_heldIntS.f k (seqFrom a n) a) (a + n) := by
  unfold laws_heldIntS.f
  have h := heldIntS_at n [] a (by simp [seqFrom_length]; omega) h0 (by omega)
  simpa using h
end Go.Proofs.Ytdnedgkanglgjaa.F
/- Cards, and when a list is a packet: the program's and the reference's functions tell one thing. -/
namespace Go.Proofs.Ytdnedgkanglgjaa.F
open Go.RowKit Go.Proofs.YtdnedgkanglgjaaW.PrintWords Go.Proofs.YtdnedgkanglgjaaW.PrintLast Go.Proofs.YtdnedgkanglgjaaW.PrintMore
set_option linter.unusedVariables false
set_option linter.unusedSimpArgs false
theorem wf64 {x : Int} (h : (Lit.int .i64 x).wf = true) : -9223372036854775808 ≤ x ∧ x ≤ 9223372036854775807 := by
  have := h
  simp only [Lit.wf, Bool.and_eq_true, decide_eq_true_eq] at this
  have a : IntKind.i64.min = -9223372036854775808 := by kernel_rfl
  have b : IntKind.i64.max = 9223372036854775807 := by kernel_rfl
  omega
theorem l01In_eq (a b c : Int) : spec_l01In.f a b c = some (decide (b ≤ a ∧ a ≤ c)) := by
  unfold spec_l01In.f
  by_cases h : b ≤ a
  · simp [h]
  · simp [h]
def cardOf (x : Int) : Int := if 0 ≤ x ∧ x ≤ 11 then x else if -12 ≤ x ∧ x ≤ -1 then -1 - x else -1
theorem cardOf_lt (x : Int) : cardOf x < 12 := by
  unfold cardOf
  repeat' split
  all_goals omega
theorem cardOf_ge (x : Int) : -1 ≤ cardOf x := by
  unfold cardOf
  repeat' split
  all_goals omega
theorem spec_CardOf_eq (x : Int) : spec_CardOf.f x = some (cardOf x) := by
  unfold spec_CardOf.f cardOf
  rw [l01In_eq, l01In_eq]
  by_cases h : 0 ≤ x ∧ x ≤ 11
  · simp [h]
  · by_cases k : -12 ≤ x ∧ x ≤ -1
    · have e : wrap64 (-1 - x) = -1 - x := w64_id (by omega) (by omega)
      simp [h, k, e]
    · simp [h, k]
theorem impl_CardOf_eq (x : Int) (h0 : -9223372036854775808 ≤ x) : impl_CardOf.f x = some (cardOf x) := by
  unfold impl_CardOf.f cardOf
  by_cases h : x < 0
  · have e : wrap64 (-1 - x) = -1 - x := w64_id (by omega) (by omega)
    simp only [if_pos h, e]
    by_cases k : -1 - x ≥ 12
    · rw [if_pos k, if_neg (by omega), if_neg (by omega)]
    · rw [if_neg k, if_neg (by omega), if_pos (by omega)]
  · simp only [if_neg h]
    by_cases k : x ≥ 12
    · rw [if_pos k, if_neg (by omega), if_neg (by omega)]
    · rw [if_neg k, if_pos (by omega)]
theorem l02Has_at (x : Int) (rest : List Int) : ∀ (pre : List Int), (pre ++ rest).length ≤ 4611686018427387904 →
    Ev (fun k => spec_l02Has.l0 k x (pre ++ rest) ((pre ++ rest).length : Int) (pre.length : Int)) (rest.contains x) := by
  induction rest with
  | nil =>
    intro pre hb
    exact Ev.step (f := fun _ => some false) (fun k => by rw [spec_l02Has.l0, if_neg (mid_nlt _)]) (Ev.now _)
  | cons y rest ih =>
    intro pre hb
    by_cases e : y = x
    · subst e
      simp only [List.contains_cons, beq_self_eq_true, Bool.true_or]
      exact Ev.step (f := fun _ => some true) (fun k => by rw [spec_l02Has.l0, if_pos (mid_lt _ _ _), if_pos (nn _), if_pos (mid_lt _ _ _), mid_rd, if_pos rfl]) (Ev.now _)
    · have h := ih (pre ++ [y]) (by simpa using hb)
      rw [← mid_cons] at h
      rw [show (y :: rest).contains x = rest.contains x by simp only [List.contains_cons]; rw [show (x == y) = false by simpa using fun h => e h.symm]; rfl]
      exact Ev.step (fun k => by rw [spec_l02Has.l0, if_pos (mid_lt _ _ _), if_pos (nn _), if_pos (mid_lt _ _ _), mid_rd, if_neg e, mid_succ pre y (by simp at hb; omega)]) h
theorem l02Has_ev (l : List Int) (x : Int) (hb : l.length ≤ 4611686018427387904) : Ev (fun k => spec_l02Has.f k l x) (l.contains x) := l02Has_at x l [] hb
/-- Is a list a packet: the cards met so far are told by twelve bools. -/
def packetM : List Bool → List Int → Bool
  | _, [] => true
  | met, x :: xs => if cardOf x < 0 then false else if met.getD (cardOf x).toNat false = true then false else packetM (met.set (cardOf x).toNat true) xs
def packetB (l : List Int) : Bool := packetM (List.replicate 12 false) l
theorem impl_PacketOk_at (rest : List Int) : ∀ (pre : List Int) (met : List Bool), (pre ++ rest).length ≤ 4611686018427387904 → (∀ x ∈ rest, -9223372036854775808 ≤ x) →
    Ev (fun k => impl_PacketOk.l0 k (pre ++ rest) met (pre.length : Int)) (packetM met rest) := by
  induction rest with
  | nil =>
    intro pre met hb hw
    exact Ev.step (f := fun _ => some true) (fun k => by rw [impl_PacketOk.l0, if_neg (mid_nlt _)]) (Ev.now _)
  | cons x rest ih =>
    intro pre met hb hw
    have hx := hw x (by simp)
    unfold packetM
    by_cases c : cardOf x < 0
    · rw [if_pos c]
      exact Ev.step (f := fun _ => some false) (fun k => by rw [impl_PacketOk.l0, if_pos (mid_lt _ _ _), if_pos (nn _), mid_rd, impl_CardOf_eq x hx]; simp only [Option.bind_some]; rw [if_pos c]) (Ev.now _)
    · rw [if_neg c]
      by_cases m : met.getD (cardOf x).toNat false = true
      · rw [if_pos m]
        exact Ev.step (f := fun _ => some false) (fun k => by rw [impl_PacketOk.l0, if_pos (mid_lt _ _ _), if_pos (nn _), mid_rd, impl_CardOf_eq x hx]; simp only [Option.bind_some]; rw [if_neg c, if_pos (cardOf_lt x), if_pos m]) (Ev.now _)
      · rw [if_neg m]
        have h := ih (pre ++ [x]) (met.set (cardOf x).toNat true) (by simpa using hb) (fun y hy => hw y (by simp [hy]))
        rw [← mid_cons] at h
        exact Ev.step (fun k => by rw [impl_PacketOk.l0, if_pos (mid_lt _ _ _), if_pos (nn _), mid_rd, impl_CardOf_eq x hx]; simp only [Option.bind_some]; rw [if_neg c, if_pos (cardOf_lt x), if_neg m, mid_succ pre x (by simp at hb; omega)]) h
theorem impl_PacketOk_ev (l : List Int) (hb : l.length ≤ 4611686018427387904) (hw : ∀ x ∈ l, -9223372036854775808 ≤ x) : Ev (fun k => impl_PacketOk.f k l) (packetB l) := impl_PacketOk_at l [] _ hb hw
theorem count_set (l : List Bool) : ∀ i, i < l.length → l.getD i false ≠ true → (l.set i true).count true = l.count true + 1 := by
  induction l with
  | nil => intro i h; simp at h
  | cons b l ih =>
    intro i h hb
    cases i with
    | zero =>
      cases b with
      | true => simp at hb
      | false => simp
    | succ i =>
      have := ih i (by simpa using h) (by simpa using hb)
      simp only [List.set_cons_succ, List.count_cons]
      omega
theorem packetM_len (xs : List Int) : ∀ met : List Bool, met.length = 12 → packetM met xs = true → met.count true + xs.length ≤ 12 := by
  induction xs with
  | nil =>
    intro met hl _
    have := List.count_le_length (a := true) (l := met)
    simp; omega
  | cons x xs ih =>
    intro met hl h
    unfold packetM at h
    by_cases c : cardOf x < 0
    · rw [if_pos c] at h; cases h
    · rw [if_neg c] at h
      by_cases m : met.getD (cardOf x).toNat false = true
      · rw [if_pos m] at h; cases h
      · rw [if_neg m] at h
        have h1 := ih _ (by simpa using hl) h
        have := cardOf_lt x
        rw [count_set met _ (by omega) m] at h1
        simp; omega
theorem packetB_len {l : List Int} (h : packetB l = true) : l.length ≤ 12 := by
  have := packetM_len l _ (by simp) h
  simp at this
  omega
theorem set_getD (met : List Bool) (i j : Nat) (hi : i < met.length) : (met.set i true).getD j false = (decide (j = i) || met.getD j false) := by
  by_cases e : j = i
  · subst e
    simp [List.getD_eq_getElem?_getD, hi]
  · have e' : ¬ i = j := fun h => e h.symm
    simp [List.getD_eq_getElem?_getD, List.getElem?_set, e, e']
theorem spec_PacketOk_at (rest : List Int) : ∀ (pre seen : List Int) (met : List Bool), (pre ++ rest).length ≤ 12 → seen.length = pre.length → met.length = 12 → (∀ c : Int, 0 ≤ c → c < 12 → seen.contains c = met.getD c.toNat false) →
    Ev (fun k => spec_PacketOk.l0 k seen (pre ++ rest) ((pre ++ rest).length : Int) (pre.length : Int)) (packetM met rest) := by
  induction rest with
  | nil =>
    intro pre seen met hb hs hm hr
    exact Ev.step (f := fun _ => some true) (fun k => by rw [spec_PacketOk.l0, if_neg (mid_nlt _)]) (Ev.now _)
  | cons x rest ih =>
    intro pre seen met hb hs hm hr
    have hlt := cardOf_lt x
    unfold packetM
    by_cases c : cardOf x < 0
    · rw [if_pos c]
      exact Ev.step (f := fun _ => some false) (fun k => by rw [spec_PacketOk.l0, if_pos (mid_lt _ _ _), if_pos (nn _), if_pos (mid_lt _ _ _), mid_rd, spec_CardOf_eq x]; simp only [Option.bind_some]; rw [if_pos c]) (Ev.now _)
    · rw [if_neg c]
      have hh := l02Has_ev seen (cardOf x) (by simp at hb; omega)
      rw [hr _ (by omega) hlt] at hh
      by_cases m : met.getD (cardOf x).toNat false = true
      · rw [if_pos m]
        rw [m] at hh
        refine Ev.stepb hh (fun k => by rw [spec_PacketOk.l0, if_pos (mid_lt _ _ _), if_pos (nn _), if_pos (mid_lt _ _ _), mid_rd, spec_CardOf_eq x]; simp only [Option.bind_some]; rw [if_neg c]) ?_
        simp only [if_true]
        exact Ev.now _
      · rw [if_neg m]
        have m' : met.getD (cardOf x).toNat false = false := by simpa using m
        rw [m'] at hh
        have h := ih (pre ++ [x]) (seen ++ [cardOf x]) (met.set (cardOf x).toNat true) (by simpa using hb) (by simp [hs]) (by simpa using hm) (by
          intro d d0 d1
          rw [set_getD met _ _ (by omega), ← hr d d0 d1]
          rw [Bool.eq_iff_iff]
          simp only [List.contains_iff_mem, List.mem_append, List.mem_singleton, Bool.or_eq_true, decide_eq_true_eq]
          constructor
          · rintro (h | h)
            · exact .inr h
            · exact .inl (by omega)
          · rintro (h | h)
            · exact .inr (by omega)
            · exact .inl h)
        rw [← mid_cons] at h
        refine Ev.stepb hh (fun k => by rw [spec_PacketOk.l0, if_pos (mid_lt _ _ _), if_pos (nn _), if_pos (mid_lt _ _ _), mid_rd, spec_CardOf_eq x]; simp only [Option.bind_some]; rw [if_neg c]) ?_
        have hl : seen.length < 17592186044416 := by simp at hb; omega
        have hs2 := mid_succ pre x (by simp at hb; omega)
        simpa [hl, hs2] using h
theorem spec_PacketOk_ev (l : List Int) : Ev (fun k => spec_PacketOk.f k l) (packetB l) := by
  unfold spec_PacketOk.f
  by_cases h : (l.length : Int) > 12
  · have : packetB l = false := by
      cases e : packetB l with
      | false => rfl
      | true => have := packetB_len e; omega
    rw [this]
    simp only [if_pos h]
    exact Ev.now _
  · simp only [if_neg h]
    exact spec_PacketOk_at l [] [] _ (by simp; omega) rfl (by simp) (by
      intro c h0 h1
      have : c.toNat < 12 := by omega
      rw [List.getD_eq_getElem?_getD, List.getElem?_replicate, if_pos this]
      rfl)
theorem packetM_cards (xs : List Int) : ∀ met : List Bool, packetM met xs = true → ∀ x ∈ xs, 0 ≤ cardOf x := by
  induction xs with
  | nil => intro met _ x hx; cases hx
  | cons y xs ih =>
    intro met h x hx
    unfold packetM at h
    by_cases c : cardOf y < 0
    · rw [if_pos c] at h; cases h
    · rw [if_neg c] at h
      by_cases m : met.getD (cardOf y).toNat false = true
      · rw [if_pos m] at h; cases h
      · rw [if_neg m] at h
        rcases List.mem_cons.1 hx with rfl | hx
        · omega
        · exact ih _ h x hx
theorem packetB_card {l : List Int} (h : packetB l = true) : ∀ x ∈ l, 0 ≤ cardOf x := packetM_cards l _ h
end Go.Proofs.Ytdnedgkanglgjaa.F
/- When there is no ducking deal. -/
namespace Go.Proofs.Ytdnedgkanglgjaa.F
open Go.RowKit Go.Proofs.YtdnedgkanglgjaaW.PrintWords Go.Proofs.YtdnedgkanglgjaaW.PrintLast Go.Proofs.YtdnedgkanglgjaaW.PrintMore
set_option linter.unusedVariables false
set_option linter.unusedSimpArgs false
theorem isDuck_no (k : Nat) (a0 a1 : Int) (h : ¬ (1 ≤ a0 ∧ a0 ≤ 12 ∧ 0 ≤ a1 ∧ a1 ≤ 1)) : impl_isDuck.f (k + 5) a0 a1 = some false := by
  unfold impl_isDuck.f impl_MoveOk.f
  by_cases c1 : a0 < 1
  · rw [if_pos c1]; rfl
  · rw [if_neg c1]
    by_cases c2 : a0 > 12
    · rw [if_pos c2]; rfl
    · rw [if_neg c2]
      by_cases c3 : a1 < 0
      · rw [decide_eq_true c3]; rfl
      · rw [decide_eq_false c3]
        have c4 : decide (a1 ≤ 1) = false := decide_eq_false (by omega)
        simp [impl_MoveOk.j0, impl_MoveOk.j1, impl_MoveOk.j2, c4]
end Go.Proofs.Ytdnedgkanglgjaa.F
/- Lists of a given length, written out. -/
namespace Go.Proofs.Ytdnedgkanglgjaa.F
open Go.RowKit Go.Proofs.YtdnedgkanglgjaaW.PrintWords Go.Proofs.YtdnedgkanglgjaaW.PrintLast Go.Proofs.YtdnedgkanglgjaaW.PrintMore
set_option linter.unusedVariables false
set_option linter.unusedSimpArgs false
theorem len_1 (l : List Int) (h : l.length = 1) : ∃ x0, l = [x0] := by
  match l, h with
  | [x0], _ => exact ⟨x0, rfl⟩
theorem len_2 (l : List Int) (h : l.length = 2) : ∃ x0 x1, l = [x0, x1] := by
  match l, h with
  | [x0, x1], _ => exact ⟨x0, x1, rfl⟩
theorem len_3 (l : List Int) (h : l.length = 3) : ∃ x0 x1 x2, l = [x0, x1, x2] := by
  match l, h with
  | [x0, x1, x2], _ => exact ⟨x0, x1, x2, rfl⟩
theorem len_4 (l : List Int) (h : l.length = 4) : ∃ x0 x1 x2 x3, l = [x0, x1, x2, x3] := by
  match l, h with
  | [x0, x1, x2, x3], _ => exact ⟨x0, x1, x2, x3, rfl⟩
theorem len_5 (l : List Int) (h : l.length = 5) : ∃ x0 x1 x2 x3 x4, l = [x0, x1, x2, x3, x4] := by
  match l, h with
  | [x0, x1, x2, x3, x4], _ => exact ⟨x0, x1, x2, x3, x4, rfl⟩
theorem len_6 (l : List Int) (h : l.length = 6) : ∃ x0 x1 x2 x3 x4 x5, l = [x0, x1, x2, x3, x4, x5] := by
  match l, h with
  | [x0, x1, x2, x3, x4, x5], _ => exact ⟨x0, x1, x2, x3, x4, x5, rfl⟩
theorem len_7 (l : List Int) (h : l.length = 7) : ∃ x0 x1 x2 x3 x4 x5 x6, l = [x0, x1, x2, x3, x4, x5, x6] := by
  match l, h with
  | [x0, x1, x2, x3, x4, x5, x6], _ => exact ⟨x0, x1, x2, x3, x4, x5, x6, rfl⟩
theorem len_8 (l : List Int) (h : l.length = 8) : ∃ x0 x1 x2 x3 x4 x5 x6 x7, l = [x0, x1, x2, x3, x4, x5, x6, x7] := by
  match l, h with
  | [x0, x1, x2, x3, x4, x5, x6, x7], _ => exact ⟨x0, x1, x2, x3, x4, x5, x6, x7, rfl⟩
theorem len_9 (l : List Int) (h : l.length = 9) : ∃ x0 x1 x2 x3 x4 x5 x6 x7 x8, l = [x0, x1, x2, x3, x4, x5, x6, x7, x8] := by
  match l, h with
  | [x0, x1, x2, x3, x4, x5, x6, x7, x8], _ => exact ⟨x0, x1, x2, x3, x4, x5, x6, x7, x8, rfl⟩
theorem len_10 (l : List Int) (h : l.length = 10) : ∃ x0 x1 x2 x3 x4 x5 x6 x7 x8 x9, l = [x0, x1, x2, x3, x4, x5, x6, x7, x8, x9] := by
  match l, h with
  | [x0, x1, x2, x3, x4, x5, x6, x7, x8, x9], _ => exact ⟨x0, x1, x2, x3, x4, x5, x6, x7, x8, x9, rfl⟩
theorem len_11 (l : List Int) (h : l.length = 11) : ∃ x0 x1 x2 x3 x4 x5 x6 x7 x8 x9 x10, l = [x0, x1, x2, x3, x4, x5, x6, x7, x8, x9, x10] := by
  match l, h with
  | [x0, x1, x2, x3, x4, x5, x6, x7, x8, x9, x10], _ => exact ⟨x0, x1, x2, x3, x4, x5, x6, x7, x8, x9, x10, rfl⟩
theorem len_12 (l : List Int) (h : l.length = 12) : ∃ x0 x1 x2 x3 x4 x5 x6 x7 x8 x9 x10 x11, l = [x0, x1, x2, x3, x4, x5, x6, x7, x8, x9, x10, x11] := by
  match l, h with
  | [x0, x1, x2, x3, x4, x5, x6, x7, x8, x9, x10, x11], _ => exact ⟨x0, x1, x2, x3, x4, x5, x6, x7, x8, x9, x10, x11, rfl⟩
end Go.Proofs.Ytdnedgkanglgjaa.F
/- PrepareDuck: every size of a packet by itself. -/
namespace Go.Proofs.Ytdnedgkanglgjaa.Pure
open Go.RowKit Go.Proofs.Ytdnedgkanglgjaa.F Go.Proofs.YtdnedgkanglgjaaW.PrintWords Go.Proofs.YtdnedgkanglgjaaW.PrintLast Go.Proofs.YtdnedgkanglgjaaW.PrintMore
set_option linter.unusedVariables false
set_option linter.unusedSimpArgs false
def duckR (x : List Int) (p : Int) (r : List Int) : Prop := (∀ k, spec_PrepareDuck.j0 (k + 90) x p false = some (r, true)) ∧ (∀ k, impl_PrepareDuck.j0 (k + 90) x p false = some (r, true)) ∧ (∀ k, impl_isDuck.f (k + 90) (x.length : Int) p = some true) ∧ r.length ≤ 12
theorem duck_1_0 (x0 : Int) : duckR [x0] 0 [x0] := ⟨fun k => by kernel_rfl, fun k => by kernel_rfl, fun k => by kernel_rfl, by simp⟩
theorem duck_1_1 (x0 : Int) : duckR [x0] 1 [x0] := ⟨fun k => by kernel_rfl, fun k => by kernel_rfl, fun k => by kernel_rfl, by simp⟩
theorem duck_2_0 (x0 x1 : Int) : duckR [x0, x1] 0 [x0, x1] := ⟨fun k => by kernel_rfl, fun k => by kernel_rfl, fun k => by kernel_rfl, by simp⟩
theorem duck_2_1 (x0 x1 : Int) : duckR [x0, x1] 1 [x1, x0] := ⟨fun k => by kernel_rfl, fun k => by kernel_rfl, fun k => by kernel_rfl, by simp⟩
theorem duck_3_0 (x0 x1 x2 : Int) : duckR [x0, x1, x2] 0 [x1, x2, x0] := ⟨fun k => by kernel_rfl, fun k => by kernel_rfl, fun k => by kernel_rfl, by simp⟩
theorem duck_3_1 (x0 x1 x2 : Int) : duckR [x0, x1, x2] 1 [x2, x0, x1] := ⟨fun k => by kernel_rfl, fun k => by kernel_rfl, fun k => by kernel_rfl, by simp⟩
theorem duck_4_0 (x0 x1 x2 x3 : Int) : duckR [x0, x1, x2, x3] 0 [x0, x3, x1, x2] := ⟨fun k => by kernel_rfl, fun k => by kernel_rfl, fun k => by kernel_rfl, by simp⟩
theorem duck_4_1 (x0 x1 x2 x3 : Int) : duckR [x0, x1, x2, x3] 1 [x3, x1, x2, x0] := ⟨fun k => by kernel_rfl, fun k => by kernel_rfl, fun k => by kernel_rfl, by simp⟩
theorem duck_5_0 (x0 x1 x2 x3 x4 : Int) : duckR [x0, x1, x2, x3, x4] 0 [x2, x4, x0, x3, x1] := ⟨fun k => by kernel_rfl, fun k => by kernel_rfl, fun k => by kernel_rfl, by simp⟩
theorem duck_5_1 (x0 x1 x2 x3 x4 : Int) : duckR [x0, x1, x2, x3, x4] 1 [x4, x0, x3, x1, x2] := ⟨fun k => by kernel_rfl, fun k => by kernel_rfl, fun k => by kernel_rfl, by simp⟩
theorem duck_6_0 (x0 x1 x2 x3 x4 x5 : Int) : duckR [x0, x1, x2, x3, x4, x5] 0 [x1, x5, x2, x4, x0, x3] := ⟨fun k => by kernel_rfl, fun k => by kernel_rfl, fun k => by kernel_rfl, by simp⟩
theorem duck_6_1 (x0 x1 x2 x3 x4 x5 : Int) : duckR [x0, x1, x2, x3, x4, x5] 1 [x5, x2, x4, x0, x3, x1] := ⟨fun k => by kernel_rfl, fun k => by kernel_rfl, fun k => by kernel_rfl, by simp⟩
theorem duck_7_0 (x0 x1 x2 x3 x4 x5 x6 : Int) : duckR [x0, x1, x2, x3, x4, x5, x6] 0 [x3, x6, x1, x5, x2, x4, x0] := ⟨fun k => by kernel_rfl, fun k => by kernel_rfl, fun k => by kernel_rfl, by simp⟩
theorem duck_7_1 (x0 x1 x2 x3 x4 x5 x6 : Int) : duckR [x0, x1, x2, x3, x4, x5, x6] 1 [x6, x1, x5, x2, x4, x0, x3] := ⟨fun k => by kernel_rfl, fun k => by kernel_rfl, fun k => by kernel_rfl, by simp⟩
theorem duck_8_0 (x0 x1 x2 x3 x4 x5 x6 x7 : Int) : duckR [x0, x1, x2, x3, x4, x5, x6, x7] 0 [x0, x7, x3, x6, x1, x5, x2, x4] := ⟨fun k => by kernel_rfl, fun k => by kernel_rfl, fun k => by kernel_rfl, by simp⟩
theorem duck_8_1 (x0 x1 x2 x3 x4 x5 x6 x7 : Int) : duckR [x0, x1, x2, x3, x4, x5, x6, x7] 1 [x7, x3, x6, x1, x5, x2, x4, x0] := ⟨fun k => by kernel_rfl, fun k => by kernel_rfl, fun k => by kernel_rfl, by simp⟩
theorem duck_9_0 (x0 x1 x2 x3 x4 x5 x6 x7 x8 : Int) : duckR [x0, x1, x2, x3, x4, x5, x6, x7, x8] 0 [x4, x8, x0, x7, x3, x6, x1, x5, x2] := ⟨fun k => by kernel_rfl, fun k => by kernel_rfl, fun k => by kernel_rfl, by simp⟩
theorem duck_9_1 (x0 x1 x2 x3 x4 x5 x6 x7 x8 : Int) : duckR [x0, x1, x2, x3, x4, x5, x6, x7, x8] 1 [x8, x0, x7, x3, x6, x1, x5, x2, x4] := ⟨fun k => by kernel_rfl, fun k => by kernel_rfl, fun k => by kernel_rfl, by simp⟩
theorem duck_10_0 (x0 x1 x2 x3 x4 x5 x6 x7 x8 x9 : Int) : duckR [x0, x1, x2, x3, x4, x5, x6, x7, x8, x9] 0 [x2, x9, x4, x8, x0, x7, x3, x6, x1, x5] := ⟨fun k => by kernel_rfl, fun k => by kernel_rfl, fun k => by kernel_rfl, by simp⟩
theorem duck_10_1 (x0 x1 x2 x3 x4 x5 x6 x7 x8 x9 : Int) : duckR [x0, x1, x2, x3, x4, x5, x6, x7, x8, x9] 1 [x9, x4, x8, x0, x7, x3, x6, x1, x5, x2] := ⟨fun k => by kernel_rfl, fun k => by kernel_rfl, fun k => by kernel_rfl, by simp⟩
theorem duck_11_0 (x0 x1 x2 x3 x4 x5 x6 x7 x8 x9 x10 : Int) : duckR [x0, x1, x2, x3, x4, x5, x6, x7, x8, x9, x10] 0 [x5, x10, x2, x9, x4, x8, x0, x7, x3, x6, x1] := ⟨fun k => by kernel_rfl, fun k => by kernel_rfl, fun k => by kernel_rfl, by simp⟩
theorem duck_11_1 (x0 x1 x2 x3 x4 x5 x6 x7 x8 x9 x10 : Int) : duckR [x0, x1, x2, x3, x4, x5, x6, x7, x8, x9, x10] 1 [x10, x2, x9, x4, x8, x0, x7, x3, x6, x1, x5] := ⟨fun k => by kernel_rfl, fun k => by kernel_rfl, fun k => by kernel_rfl, by simp⟩
theorem duck_12_0 (x0 x1 x2 x3 x4 x5 x6 x7 x8 x9 x10 x11 : Int) : duckR [x0, x1, x2, x3, x4, x5, x6, x7, x8, x9, x10, x11] 0 [x1, x11, x5, x10, x2, x9, x4, x8, x0, x7, x3, x6] := ⟨fun k => by kernel_rfl, fun k => by kernel_rfl, fun k => by kernel_rfl, by simp⟩
theorem duck_12_1 (x0 x1 x2 x3 x4 x5 x6 x7 x8 x9 x10 x11 : Int) : duckR [x0, x1, x2, x3, x4, x5, x6, x7, x8, x9, x10, x11] 1 [x11, x5, x10, x2, x9, x4, x8, x0, x7, x3, x6, x1] := ⟨fun k => by kernel_rfl, fun k => by kernel_rfl, fun k => by kernel_rfl, by simp⟩
theorem duck_ex (l : List Int) (p : Int) (h1 : 1 ≤ l.length) (h2 : l.length ≤ 12) (h3 : 0 ≤ p) (h4 : p ≤ 1) : ∃ r, duckR l p r := by
  have hp : p = 0 ∨ p = 1 := by omega
  have hn : l.length = 1 ∨ l.length = 2 ∨ l.length = 3 ∨ l.length = 4 ∨ l.length = 5 ∨ l.length = 6 ∨ l.length = 7 ∨ l.length = 8 ∨ l.length = 9 ∨ l.length = 10 ∨ l.length = 11 ∨ l.length = 12 := by omega
  rcases hn with hn | hn | hn | hn | hn | hn | hn | hn | hn | hn | hn | hn
  · obtain ⟨x0, rfl⟩ := len_1 l hn
    rcases hp with rfl | rfl
    · exact ⟨_, duck_1_0 x0⟩
    · exact ⟨_, duck_1_1 x0⟩
  · obtain ⟨x0, x1, rfl⟩ := len_2 l hn
    rcases hp with rfl | rfl
    · exact ⟨_, duck_2_0 x0 x1⟩
    · exact ⟨_, duck_2_1 x0 x1⟩
  · obtain ⟨x0, x1, x2, rfl⟩ := len_3 l hn
    rcases hp with rfl | rfl
    · exact ⟨_, duck_3_0 x0 x1 x2⟩
    · exact ⟨_, duck_3_1 x0 x1 x2⟩
  · obtain ⟨x0, x1, x2, x3, rfl⟩ := len_4 l hn
    rcases hp with rfl | rfl
    · exact ⟨_, duck_4_0 x0 x1 x2 x3⟩
    · exact ⟨_, duck_4_1 x0 x1 x2 x3⟩
  · obtain ⟨x0, x1, x2, x3, x4, rfl⟩ := len_5 l hn
    rcases hp with rfl | rfl
    · exact ⟨_, duck_5_0 x0 x1 x2 x3 x4⟩
    · exact ⟨_, duck_5_1 x0 x1 x2 x3 x4⟩
  · obtain ⟨x0, x1, x2, x3, x4, x5, rfl⟩ := len_6 l hn
    rcases hp with rfl | rfl
    · exact ⟨_, duck_6_0 x0 x1 x2 x3 x4 x5⟩
    · exact ⟨_, duck_6_1 x0 x1 x2 x3 x4 x5⟩
  · obtain ⟨x0, x1, x2, x3, x4, x5, x6, rfl⟩ := len_7 l hn
    rcases hp with rfl | rfl
    · exact ⟨_, duck_7_0 x0 x1 x2 x3 x4 x5 x6⟩
    · exact ⟨_, duck_7_1 x0 x1 x2 x3 x4 x5 x6⟩
  · obtain ⟨x0, x1, x2, x3, x4, x5, x6, x7, rfl⟩ := len_8 l hn
    rcases hp with rfl | rfl
    · exact ⟨_, duck_8_0 x0 x1 x2 x3 x4 x5 x6 x7⟩
    · exact ⟨_, duck_8_1 x0 x1 x2 x3 x4 x5 x6 x7⟩
  · obtain ⟨x0, x1, x2, x3, x4, x5, x6, x7, x8, rfl⟩ := len_9 l hn
    rcases hp with rfl | rfl
    · exact ⟨_, duck_9_0 x0 x1 x2 x3 x4 x5 x6 x7 x8⟩
    · exact ⟨_, duck_9_1 x0 x1 x2 x3 x4 x5 x6 x7 x8⟩
  · obtain ⟨x0, x1, x2, x3, x4, x5, x6, x7, x8, x9, rfl⟩ := len_10 l hn
    rcases hp with rfl | rfl
    · exact ⟨_, duck_10_0 x0 x1 x2 x3 x4 x5 x6 x7 x8 x9⟩
    · exact ⟨_, duck_10_1 x0 x1 x2 x3 x4 x5 x6 x7 x8 x9⟩
  · obtain ⟨x0, x1, x2, x3, x4, x5, x6, x7, x8, x9, x10, rfl⟩ := len_11 l hn
    rcases hp with rfl | rfl
    · exact ⟨_, duck_11_0 x0 x1 x2 x3 x4 x5 x6 x7 x8 x9 x10⟩
    · exact ⟨_, duck_11_1 x0 x1 x2 x3 x4 x5 x6 x7 x8 x9 x10⟩
  · obtain ⟨x0, x1, x2, x3, x4, x5, x6, x7, x8, x9, x10, x11, rfl⟩ := len_12 l hn
    rcases hp with rfl | rfl
    · exact ⟨_, duck_12_0 x0 x1 x2 x3 x4 x5 x6 x7 x8 x9 x10 x11⟩
    · exact ⟨_, duck_12_1 x0 x1 x2 x3 x4 x5 x6 x7 x8 x9 x10 x11⟩
theorem spec_no (k : Nat) (l : List Int) (p : Int) : spec_PrepareDuck.j0 (k + 1) l p true = some ([], false) := rfl
theorem impl_no (k : Nat) (l : List Int) (p : Int) : impl_PrepareDuck.j0 (k + 1) l p true = some ([], false) := rfl
theorem FnExactPrepareDuck : laws_FnExactPrepareDuck.Pure := by
  intro l a hm hb hw ha
  by_cases hbig : (l.length : Int) > 1048576
  · exact ⟨0, by unfold laws_FnExactPrepareDuck.f; rw [if_pos hbig]⟩
  have hl : l.length ≤ 1048576 := by omega
  have E2 := spec_PacketOk_ev l
  have E3 := impl_PacketOk_ev l (by omega) (fun x hx => (wf64 (hw x hx)).1)
  have key : ∃ (r : List Int) (b : Bool), Ev (fun k => spec_PrepareDuck.f k l a) (r, b) ∧ Ev (fun k => impl_PrepareDuck.f k l a) (r, b) ∧ r.length ≤ 12 := by
    have n1 : Ev (fun k => spec_PrepareDuck.j0 k l a true) ([], false) := Ev.at_ 1 (fun k hk => by obtain ⟨m, rfl⟩ := Nat.exists_eq_add_of_le' hk; exact spec_no m l a)
    have n2 : Ev (fun k => impl_PrepareDuck.j0 k l a true) ([], false) := Ev.at_ 1 (fun k hk => by obtain ⟨m, rfl⟩ := Nat.exists_eq_add_of_le' hk; exact impl_no m l a)
    by_cases hp : packetB l = true
    · have h12 := packetB_len hp
      by_cases h : 1 ≤ (l.length : Int) ∧ 0 ≤ a ∧ a ≤ 1
      · obtain ⟨r, d1, d2, d3, d4⟩ := duck_ex l a (by omega) h12 h.2.1 h.2.2
        have D1 : Ev (fun k => spec_PrepareDuck.j0 k l a false) (r, true) := Ev.at_ 90 (fun k hk => by obtain ⟨m, rfl⟩ := Nat.exists_eq_add_of_le' hk; exact d1 m)
        have D2 : Ev (fun k => impl_PrepareDuck.j0 k l a false) (r, true) := Ev.at_ 90 (fun k hk => by obtain ⟨m, rfl⟩ := Nat.exists_eq_add_of_le' hk; exact d2 m)
        have D3 : Ev (fun k => impl_isDuck.f k (l.length : Int) a) true := Ev.at_ 90 (fun k hk => by obtain ⟨m, rfl⟩ := Nat.exists_eq_add_of_le' hk; exact d3 m)
        refine ⟨r, true, ?_, ?_, d4⟩
        · unfold spec_PrepareDuck.f
          refine Ev.bind E2 ?_
          simp only [hp, if_true, if_neg (show ¬ (l.length : Int) = 0 by omega), l01In_eq, Option.bind_some, decide_eq_true (show 0 ≤ a ∧ a ≤ 1 from h.2), Bool.not_true]
          exact D1
        · unfold impl_PrepareDuck.f
          refine Ev.bind E3 ?_
          simp only [hp, if_true]
          refine Ev.bind D3 ?_
          simp only [Bool.not_true]
          exact D2
      · refine ⟨[], false, ?_, ?_, by simp⟩
        · unfold spec_PrepareDuck.f
          refine Ev.bind E2 ?_
          simp only [hp, if_true]
          by_cases hz : (l.length : Int) = 0
          · simp only [if_pos hz]
            exact n1
          · simp only [if_neg hz, l01In_eq, Option.bind_some, decide_eq_false (show ¬ (0 ≤ a ∧ a ≤ 1) by omega), Bool.not_false]
            exact n1
        · have D3 : Ev (fun k => impl_isDuck.f k (l.length : Int) a) false := Ev.at_ 5 (fun k hk => by obtain ⟨m, rfl⟩ := Nat.exists_eq_add_of_le' hk; exact isDuck_no m (l.length : Int) a (by omega))
          unfold impl_PrepareDuck.f
          refine Ev.bind E3 ?_
          simp only [hp, if_true]
          refine Ev.bind D3 ?_
          simp only [Bool.not_false]
          exact n2
    · refine ⟨[], false, ?_, ?_, by simp⟩
      · unfold spec_PrepareDuck.f
        refine Ev.bind E2 ?_
        simp only [hp, if_false]
        exact n1
      · unfold impl_PrepareDuck.f
        refine Ev.bind E3 ?_
        simp only [hp, if_false]
        exact n2
  obtain ⟨r, b, hs, hi, hr⟩ := key
  have main2 : Ev (fun k => laws_FnExactPrepareDuck.f k l a) true := by
    unfold laws_FnExactPrepareDuck.f
    simp only [if_neg hbig]
    repeat' first
      | exact Ev.now _
      | with_reducible refine Ev.bind hs ?_
      | with_reducible refine Ev.bind hi ?_
      | with_reducible refine Ev.bind (toIntS_ev _ (by omega)) ?_
      | with_reducible refine Ev.bind (eqIntS_same _ (by omega)) ?_
      | with_reducible refine Ev.bind (markIntS_ev _ _ (by omega) (by omega) (by omega)) ?_
      | with_reducible refine Ev.bind (heldIntS_ev _ _ (by omega) (by omega) (by omega)) ?_
      | simp only [if_true, if_false, Bool.not_true, bne_self_eq_false, Bool.false_eq_true, neg1, neg2, neg3]
      | (refine Ev.succ ?_; simp only [laws_FnExactPrepareDuck.j0, laws_FnExactPrepareDuck.j1, laws_FnExactPrepareDuck.j2])
  exact main2.imp fun K hK => hK K (Nat.le_refl _)
end Go.Proofs.Ytdnedgkanglgjaa.Pure
