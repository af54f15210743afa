import Derived.Test.YtdnedgkanglgjaaZFnExactShiftStack2
import Derived.Test.YtdnedgkanglgjaaM
import Derived.Test.YtdnedgkanglgjaaZFnExactShiftStack1
import Derived.Test.YtdnedgkanglgjaaZFnExactShiftStack4
import Derived.Test.YtdnedgkanglgjaaZFnExactShiftStack3
/- slices.Index and slices.Contains. -/
namespace Go.Proofs.Ytdnedgkanglgjaa.F
open Go.RowKit Go.Proofs.YtdnedgkanglgjaaW.PrintWords Go.Proofs.YtdnedgkanglgjaaW.PrintLast Go.Proofs.YtdnedgkanglgjaaW.PrintMore
set_option linter.unusedVariables false
set_option linter.unusedSimpArgs false
theorem index_at (x : Int) (rest : List Int) : ∀ (pre : List Int), (pre ++ rest).length ≤ 4611686018427387904 →
    ∃ i : Int, Ev (fun k => slices_Index_Lint_int.l0 k (pre ++ rest) x ((pre ++ rest).length : Int) (pre.length : Int)) i ∧ (decide (i ≥ 0) = rest.contains x) ∧ -1 ≤ i ∧ (rest.contains x = true → i < (pre ++ rest).length ∧ rd (pre ++ rest) i = x) := by
  induction rest with
  | nil =>
    intro pre hb
    exact ⟨-1, Ev.step (f := fun _ => some (-1)) (fun k => by rw [slices_Index_Lint_int.l0, if_neg (mid_nlt _)]) (Ev.now _), by simp, by omega, by simp⟩
  | cons y rest ih =>
    intro pre hb
    by_cases e : x = y
    · subst e
      exact ⟨pre.length, Ev.step (f := fun _ => some (pre.length : Int)) (fun k => by rw [slices_Index_Lint_int.l0, if_pos (mid_lt _ _ _), if_pos (nn _), if_pos (mid_lt _ _ _), mid_rd, if_pos rfl]) (Ev.now _), by simp, by omega, fun _ => ⟨mid_lt _ _ _, mid_rd _ _ _⟩⟩
    · obtain ⟨i, h, h1, h2, h3⟩ := ih (pre ++ [y]) (by simpa using hb)
      rw [← mid_cons] at h h3
      have hc : (y :: rest).contains x = rest.contains x := by simp only [List.contains_cons]; rw [show (x == y) = false by simpa using e]; rfl
      exact ⟨i, Ev.step (fun k => by rw [slices_Index_Lint_int.l0, if_pos (mid_lt _ _ _), if_pos (nn _), if_pos (mid_lt _ _ _), mid_rd, if_neg e, mid_succ pre y (by simp at hb; omega)]) h, by rw [hc]; exact h1, h2, by rw [hc]; exact h3⟩
theorem index_ev (l : List Int) (x : Int) (hb : l.length ≤ 4611686018427387904) : ∃ i : Int, Ev (fun k => slices_Index_Lint_int.f k l x) i ∧ (decide (i ≥ 0) = l.contains x) ∧ -1 ≤ i ∧ (l.contains x = true → i < l.length ∧ rd l i = x) := index_at x l [] hb
theorem contains_ev (l : List Int) (x : Int) (hb : l.length ≤ 4611686018427387904) : Ev (fun k => slices_Contains_Lint_int.f k l x) (l.contains x) := by
  obtain ⟨i, h, h1, _⟩ := index_ev l x hb
  unfold slices_Contains_Lint_int.f
  refine Ev.bind h ?_
  rw [h1]
  exact Ev.now _
end Go.Proofs.Ytdnedgkanglgjaa.F
/- Colours: bits; the check of a list of colours. -/
namespace Go.Proofs.Ytdnedgkanglgjaa.F
open Go.RowKit Go.Proofs.YtdnedgkanglgjaaW.PrintWords Go.Proofs.YtdnedgkanglgjaaW.PrintLast Go.Proofs.YtdnedgkanglgjaaW.PrintMore
set_option linter.unusedVariables false
set_option linter.unusedSimpArgs false
def isColor (x : Int) : Bool := decide (0 ≤ x ∧ x ≤ 1)
def colorsB (l : List Int) (most : Int) : Bool := decide ((l.length : Int) ≤ most) && l.all isColor
theorem color_pred (x : Int) : (impl_areColors_1.f x == some true) = !isColor x := by
  unfold impl_areColors_1.f isColor
  by_cases c : x = 0
  · subst c; rfl
  · by_cases d : x = 1
    · subst d; rfl
    · have e : decide (0 ≤ x ∧ x ≤ 1) = false := decide_eq_false (by omega)
      simp [c, d, e]
theorem areColors_eq (l : List Int) (most : Int) : impl_areColors.f l most = some (colorsB l most) := by
  unfold impl_areColors.f slices_ContainsFunc_Lint_int__impl_areColors_1.f colorsB
  by_cases c : (l.length : Int) ≤ most
  · simp only [if_pos c, Option.bind_some, decide_eq_true c, Bool.true_and]
    congr 1
    rw [List.all_eq_not_any_not]
    congr 2
    funext x
    exact color_pred x
  · simp only [if_neg c, decide_eq_false c, Bool.false_and]
end Go.Proofs.Ytdnedgkanglgjaa.F
/- The two functions that run a shift register answer the same where taps and seed are refused. -/
namespace Go.Proofs.Ytdnedgkanglgjaa.F
open Go.RowKit Go.Proofs.YtdnedgkanglgjaaW.PrintWords Go.Proofs.YtdnedgkanglgjaaW.PrintLast Go.Proofs.YtdnedgkanglgjaaW.PrintMore
set_option linter.unusedVariables false
set_option linter.unusedSimpArgs false
theorem impl_j0_true (t s : List Int) (n : Int) : Ev (fun k => impl_ShiftStack.j0 k t s n true) (([] : List Int), 0, false) := Ev.at_ 1 (fun k hk => by obtain ⟨m, rfl⟩ := Nat.exists_eq_add_of_le' hk; rfl)
theorem bits_colors (s : List Int) (h : s.all bitB = true) : s.all isColor = true := by
  rw [List.all_eq_true] at h ⊢
  intro x hx
  have := h x hx
  unfold bitB at this
  unfold isColor
  rcases of_decide_eq_true this with rfl | rfl <;> rfl
theorem spec_Shift_no (t s : List Int) (ht : t.length ≤ 4611686018427387904) (h : tapsB t s = false) : Ev (fun k => spec_ShiftStack.f k t s) (([] : List Int), 0, false) := by
  have E1 := l11Taps_ev t s ht
  rw [h] at E1
  unfold spec_ShiftStack.f
  refine Ev.bind E1 ?_
  simp only [Bool.false_eq_true, if_false]
  exact Ev.now _
theorem impl_Shift_no (t s : List Int) (ht : t.length ≤ 4611686018427387904) (hs : s.length ≤ 4611686018427387904) (h : tapsB t s = false) : Ev (fun k => impl_ShiftStack.f k t s) (([] : List Int), 0, false) := by
  unfold impl_ShiftStack.f
  by_cases h1 : (s.length : Int) < 1
  · simp only [if_pos h1]
    exact impl_j0_true t s _
  · simp only [if_neg h1, areColors_eq, Option.bind_some]
    by_cases h2 : colorsB s 6 = true
    · simp only [h2, if_true]
      refine Ev.bind (contains_ev s 1 hs) ?_
      by_cases h3 : s.contains 1 = true
      · simp only [h3, if_true]
        refine Ev.bind (areTaps_ev t (s.length : Int) ht) ?_
        have h4 : (ascB 0 t && lastB t (s.length : Int)) = false := by
          unfold colorsB at h2
          simp only [Bool.and_eq_true, decide_eq_true_eq] at h2
          have h5 : seedB s = true := by
            unfold seedB
            rw [h3, Bool.and_true, List.all_eq_true]
            intro x hx
            have := List.all_eq_true.mp h2.2 x hx
            unfold isColor at this
            unfold bitB
            have := of_decide_eq_true this
            exact decide_eq_true (by omega)
          unfold tapsB at h
          rw [decide_eq_true (show 1 ≤ (s.length : Int) ∧ (s.length : Int) ≤ 6 by omega), h5, Bool.and_true, Bool.true_and] at h
          rw [Bool.and_comm]
          exact h
        rw [h4]
        exact impl_j0_true t s _
      · simp only [h3, if_false]
        exact impl_j0_true t s _
    · simp only [h2, if_false]
      exact impl_j0_true t s _
end Go.Proofs.Ytdnedgkanglgjaa.F
/- A shift register that is run: both functions make the same word. -/
namespace Go.Proofs.Ytdnedgkanglgjaa.F
open Go.RowKit Go.Proofs.YtdnedgkanglgjaaW.PrintWords Go.Proofs.YtdnedgkanglgjaaW.PrintLast Go.Proofs.YtdnedgkanglgjaaW.PrintMore
set_option linter.unusedVariables false
set_option linter.unusedSimpArgs false
/-- The bits of a register at the taps. -/
def tapSum (w : Nat) (st : List Int) : List Int → Int
  | [] => 0
  | t :: ts => st.getD (w - t.toNat) 0 + tapSum w st ts
def stepR (w : Nat) (t st : List Int) : List Int := st.drop 1 ++ [tapSum w st t % 2]
def outR (w : Nat) (t s : List Int) : Nat → List Int → List Int → List Int
  | 0, Y, _ => Y
  | n + 1, Y, st => if stepR w t st = s then Y ++ st.take 1 else outR w t s n (Y ++ st.take 1) (stepR w t st)
def back (w : Nat) (t s : List Int) : Nat → List Int → Bool
  | 0, _ => false
  | n + 1, st => (stepR w t st == s) || back w t s n (stepR w t st)
end Go.Proofs.Ytdnedgkanglgjaa.F
/- A shift register that is run: what both functions answer. -/
namespace Go.Proofs.Ytdnedgkanglgjaa.F
open Go.RowKit Go.Proofs.YtdnedgkanglgjaaW.PrintWords Go.Proofs.YtdnedgkanglgjaaW.PrintLast Go.Proofs.YtdnedgkanglgjaaW.PrintMore
set_option linter.unusedVariables false
set_option linter.unusedSimpArgs false
theorem rd_reg (Y st : List Int) (t : Int) (h1 : 1 ≤ t) (h2 : t ≤ (st.length : Int)) : rd (Y ++ st) (((Y ++ st).length : Int) - t) = st.getD (st.length - t.toNat) 0 := by
  unfold rd
  rw [show ((((Y ++ st).length : Nat) : Int) - t).toNat = Y.length + (st.length - t.toNat) by rw [List.length_append]; omega]
  simp [List.getD_eq_getElem?_getD, List.getElem?_append_right]
theorem bit_getD (st : List Int) (h : st.all bitB = true) (i : Nat) : 0 ≤ st.getD i 0 ∧ st.getD i 0 ≤ 1 := by
  by_cases c : i < st.length
  · have e : st.getD i 0 = st[i] := by simp [List.getD_eq_getElem?_getD, c]
    have := List.all_eq_true.mp h st[i] (List.getElem_mem c)
    unfold bitB at this
    have := of_decide_eq_true this
    rw [e]
    omega
  · have e : st.getD i 0 = 0 := by simp [List.getD_eq_getElem?_getD, c]
    omega
theorem tapSum_bounds (w : Nat) (st : List Int) (h : st.all bitB = true) (ts : List Int) : 0 ≤ tapSum w st ts ∧ tapSum w st ts ≤ ts.length := by
  induction ts with
  | nil => simp [tapSum]
  | cons t ts ih =>
    have := bit_getD st h (w - t.toNat)
    simp only [tapSum, List.length_cons]
    omega
theorem impl_sum_at (s Y st : List Int) (w : Nat) (hst : st.length = w) (hbit : st.all bitB = true) (hX : (Y ++ st).length ≤ 4611686018427387904) (r : List Int × Int × Bool) (rest : List Int) : ∀ (pre : List Int) (acc : Int), (pre ++ rest).length ≤ 1048576 → (∀ t ∈ rest, 1 ≤ t ∧ t ≤ (w : Int)) → 0 ≤ acc → acc + rest.length ≤ 1048576 →
    Ev (fun k => impl_ShiftStack.l1 k (pre ++ rest) s (w : Int) (Y ++ st) (acc + tapSum w st rest) (pre ++ rest) ((pre ++ rest).length : Int) ((pre ++ rest).length : Int)) r →
    Ev (fun k => impl_ShiftStack.l1 k (pre ++ rest) s (w : Int) (Y ++ st) acc (pre ++ rest) ((pre ++ rest).length : Int) (pre.length : Int)) r := by
  induction rest with
  | nil =>
    intro pre acc hb hr h0 h1 h
    simpa [tapSum] using h
  | cons t rest ih =>
    intro pre acc hb hr h0 h1 h
    have ht := hr t (by simp)
    have hbt := bit_getD st hbit (w - t.toNat)
    simp only [List.length_cons] at h1
    have h2 := ih (pre ++ [t]) (acc + st.getD (w - t.toNat) 0) (by simpa using hb) (fun x hx => hr x (by simp [hx])) (by omega) (by omega)
    rw [← mid_cons, ← mid_succ pre t (by simp at hb; omega)] at h2
    have h3 := h2 (by rw [show acc + st.getD (w - t.toNat) 0 + tapSum w st rest = acc + tapSum w st (t :: rest) by simp only [tapSum]; omega]; exact h)
    have hlen : ((Y ++ st).length : Int) = Y.length + w := by rw [List.length_append, hst]; omega
    have hw : wrap64 (((Y ++ st).length : Int) - t) = ((Y ++ st).length : Int) - t := w64_id (by omega) (by omega)
    have hw2 : wrap64 (acc + st.getD (w - t.toNat) 0) = acc + st.getD (w - t.toNat) 0 := w64_id (by omega) (by omega)
    refine Ev.step (fun k => ?_) h3
    show impl_ShiftStack.l1 (k + 1) _ s _ _ acc _ _ _ = _
    rw [impl_ShiftStack.l1, if_pos (mid_lt _ _ _), if_pos (nn _), if_pos (mid_lt _ _ _), mid_rd, hw, if_pos (by omega), if_pos (by omega), rd_reg Y st t ht.1 (by omega), hst, hw2]
theorem spec_sum_at (s Y st : List Int) (w : Nat) (hst : st.length = w) (hbit : st.all bitB = true) (hX : (Y ++ st).length ≤ 4611686018427387904) (r : List Int × Int × Bool) (rest : List Int) : ∀ (pre : List Int) (acc : Int), (pre ++ rest).length ≤ 1048576 → (∀ t ∈ rest, 1 ≤ t ∧ t ≤ (w : Int)) → (acc = 0 ∨ acc = 1) →
    Ev (fun k => spec_ShiftStack.l1 k (pre ++ rest) s (w : Int) (Y ++ st) ((acc + tapSum w st rest) % 2) (pre ++ rest) ((pre ++ rest).length : Int) ((pre ++ rest).length : Int)) r →
    Ev (fun k => spec_ShiftStack.l1 k (pre ++ rest) s (w : Int) (Y ++ st) acc (pre ++ rest) ((pre ++ rest).length : Int) (pre.length : Int)) r := by
  induction rest with
  | nil =>
    intro pre acc hb hr h0 h
    rw [show (acc + tapSum w st []) % 2 = acc by simp only [tapSum]; omega] at h
    simpa using h
  | cons t rest ih =>
    intro pre acc hb hr h0 h
    have ht := hr t (by simp)
    have hbt := bit_getD st hbit (w - t.toNat)
    have h2 := ih (pre ++ [t]) ((acc + st.getD (w - t.toNat) 0) % 2) (by simpa using hb) (fun x hx => hr x (by simp [hx])) (by omega)
    rw [← mid_cons, ← mid_succ pre t (by simp at hb; omega)] at h2
    have h3 := h2 (by rw [show ((acc + st.getD (w - t.toNat) 0) % 2 + tapSum w st rest) % 2 = (acc + tapSum w st (t :: rest)) % 2 by simp only [tapSum]; omega]; exact h)
    have hlen : ((Y ++ st).length : Int) = Y.length + w := by rw [List.length_append, hst]; omega
    have hw : wrap64 (((Y ++ st).length : Int) - t) = ((Y ++ st).length : Int) - t := w64_id (by omega) (by omega)
    have hw2 : wrap64 (acc + st.getD (w - t.toNat) 0) = acc + st.getD (w - t.toNat) 0 := w64_id (by omega) (by omega)
    have hm : Int.tmod (acc + st.getD (w - t.toNat) 0) 2 = (acc + st.getD (w - t.toNat) 0) % 2 := Int.tmod_eq_emod_of_nonneg (by omega)
    refine Ev.step (fun k => ?_) h3
    show spec_ShiftStack.l1 (k + 1) _ s _ _ acc _ _ _ = _
    rw [spec_ShiftStack.l1, if_pos (mid_lt _ _ _), if_pos (nn _), if_pos (mid_lt _ _ _), mid_rd, hw, if_pos (by omega), if_pos (by omega), rd_reg Y st t ht.1 (by omega), hst, hw2, hm]
theorem stepR_len (w : Nat) (t st : List Int) (h : st.length = w) (hw : 1 ≤ w) : (stepR w t st).length = w := by
  simp [stepR]
  omega
theorem stepR_bits (w : Nat) (t st : List Int) (h : st.all bitB = true) : (stepR w t st).all bitB = true := by
  have h0 := (tapSum_bounds w st h t).1
  rw [List.all_eq_true] at h ⊢
  intro x hx
  unfold stepR at hx
  rcases List.mem_append.mp hx with hx | hx
  · exact h x (List.mem_of_mem_drop hx)
  · have := List.mem_singleton.mp hx
    subst this
    unfold bitB
    exact decide_eq_true (by omega)
theorem stepR_cat (w : Nat) (t Y st : List Int) : Y ++ st ++ [tapSum w st t % 2] = (Y ++ st.take 1) ++ stepR w t st := by
  unfold stepR
  simp only [List.append_assoc]
  rw [← List.append_assoc (st.take 1), List.take_append_drop]
theorem take1_len (st : List Int) (h : 1 ≤ st.length) : (st.take 1).length = 1 := by
  rw [List.length_take]
  omega
theorem impl_run (t s : List Int) (w : Nat) (hw : 1 ≤ w) (ht : ∀ x ∈ t, 1 ≤ x ∧ x ≤ (w : Int)) (htl : t.length ≤ 1000) (hwl : w ≤ 1000) (n : Nat) : ∀ (Y st : List Int), st.length = w → st.all bitB = true → (Y ++ st).length + n ≤ 1048576 → back w t s n st = true →
    Ev (fun k => impl_ShiftStack.l0 k t s (w : Int) (Y ++ st)) (outR w t s n Y st, (w : Int), true) := by
  induction n with
  | zero => intro Y st h1 h2 h3 h4; exact absurd h4 (by simp [back])
  | succ n ih =>
    intro Y st h1 h2 h3 h4
    have hb := tapSum_bounds w st h2 t
    have hS := impl_sum_at s Y st w h1 h2 (by omega) (outR w t s (n + 1) Y st, (w : Int), true) t [] 0 (by simp; omega) ht (by omega) (by omega)
    simp only [List.nil_append, Int.zero_add] at hS
    refine Ev.step (fun k => by rw [impl_ShiftStack.l0]; rfl) (hS ?_)
    have hlen : ((Y ++ st).length : Int) = Y.length + w := by rw [List.length_append, h1]; omega
    have hm : Int.tmod (tapSum w st t) 2 = tapSum w st t % 2 := Int.tmod_eq_emod_of_nonneg hb.1
    have hyl : ((Y ++ st ++ [tapSum w st t % 2]).length : Int) = Y.length + w + 1 := by rw [List.length_append, Int.natCast_add, hlen]; simp
    have hww : wrap64 (((Y ++ st ++ [tapSum w st t % 2]).length : Int) - (w : Int)) = ((Y.length + 1 : Nat) : Int) := by rw [w64_id (by omega) (by omega)]; omega
    have hdr : (Y ++ st ++ [tapSum w st t % 2]).drop (Y.length + 1) = stepR w t st := by
      rw [stepR_cat]
      exact List.drop_left' (by rw [List.length_append, take1_len st (by omega)])
    have htk : (Y ++ st ++ [tapSum w st t % 2]).take (Y.length + 1) = Y ++ st.take 1 := by
      rw [stepR_cat]
      exact List.take_left' (by rw [List.length_append, take1_len st (by omega)])
    have hE := slEq_ev (stepR w t st) s (by rw [stepR_len w t st h1 hw]; omega)
    have hstep : ∀ k, impl_ShiftStack.l1 (k + 1) t s (w : Int) (Y ++ st) (tapSum w st t) t (t.length : Int) (t.length : Int) = (slices_Equal_Lint_int.f k (stepR w t st) s).bind fun q => if q = true then some (Y ++ st.take 1, (w : Int), true) else impl_ShiftStack.l0 k t s (w : Int) ((Y ++ st.take 1) ++ stepR w t st) := by
      intro k
      rw [impl_ShiftStack.l1, if_neg (by omega), if_pos (by omega), hm, Option.bind_some, hww, if_pos (by omega), if_pos (by omega), Int.toNat_natCast, hdr, htk, ← stepR_cat]
    refine Ev.stepb hE hstep ?_
    by_cases c : stepR w t st = s
    · simp only [decide_eq_true c, if_true, outR, if_pos c]
      exact Ev.now _
    · simp only [decide_eq_false c, Bool.false_eq_true, if_false, outR, if_neg c]
      refine ih _ _ (stepR_len w t st h1 hw) (stepR_bits w t st h2) ?_ ?_
      · rw [← stepR_cat, List.length_append]
        simp only [List.length_singleton]
        omega
      · have := h4
        unfold back at this
        rw [Bool.or_eq_true] at this
        exact this.resolve_left (by simpa using c)
theorem spec_run (t s : List Int) (w : Nat) (hw : 1 ≤ w) (ht : ∀ x ∈ t, 1 ≤ x ∧ x ≤ (w : Int)) (htl : t.length ≤ 1000) (hwl : w ≤ 1000) (n : Nat) : ∀ (Y st : List Int), st.length = w → st.all bitB = true → (Y ++ st).length + n ≤ 1048576 → back w t s n st = true →
    Ev (fun k => spec_ShiftStack.l0 k t s (w : Int) (Y ++ st)) (outR w t s n Y st, (w : Int), true) := by
  induction n with
  | zero => intro Y st h1 h2 h3 h4; exact absurd h4 (by simp [back])
  | succ n ih =>
    intro Y st h1 h2 h3 h4
    have hb := tapSum_bounds w st h2 t
    have hS := spec_sum_at s Y st w h1 h2 (by omega) (outR w t s (n + 1) Y st, (w : Int), true) t [] 0 (by simp; omega) ht (Or.inl rfl)
    simp only [List.nil_append, Int.zero_add] at hS
    refine Ev.step (fun k => by rw [spec_ShiftStack.l0]; rfl) (hS ?_)
    have hlen : ((Y ++ st).length : Int) = Y.length + w := by rw [List.length_append, h1]; omega
    have hyl : ((Y ++ st ++ [tapSum w st t % 2]).length : Int) = Y.length + w + 1 := by rw [List.length_append, Int.natCast_add, hlen]; simp
    have hww : wrap64 (((Y ++ st ++ [tapSum w st t % 2]).length : Int) - (w : Int)) = ((Y.length + 1 : Nat) : Int) := by rw [w64_id (by omega) (by omega)]; omega
    have hdr : (Y ++ st ++ [tapSum w st t % 2]).drop (Y.length + 1) = stepR w t st := by
      rw [stepR_cat]
      exact List.drop_left' (by rw [List.length_append, take1_len st (by omega)])
    have htk : (Y ++ st ++ [tapSum w st t % 2]).take (Y.length + 1) = Y ++ st.take 1 := by
      rw [stepR_cat]
      exact List.take_left' (by rw [List.length_append, take1_len st (by omega)])
    have hE := same_ev (stepR w t st) s (by rw [stepR_len w t st h1 hw]; omega)
    have htl1 : (st.take 1).length = 1 := take1_len st (by omega)
    have hstep : ∀ k, spec_ShiftStack.l1 (k + 1) t s (w : Int) (Y ++ st) (tapSum w st t % 2) t (t.length : Int) (t.length : Int) = (spec_SamePacket.f k (stepR w t st) s).bind fun q => if q = true then some (Y ++ st.take 1, (w : Int), true) else spec_ShiftStack.l0 k t s (w : Int) ((Y ++ st.take 1) ++ stepR w t st) := by
      intro k
      rw [spec_ShiftStack.l1, if_neg (by omega), if_pos (by omega), Option.bind_some, hww, if_pos (by omega), if_pos (by omega), Int.toNat_natCast, hdr, htk, ← stepR_cat]
      simp only [Option.bind_some, List.nil_append, List.length_nil, Nat.zero_add]
      rw [if_pos (by rw [List.length_append, htl1]; simp at h3; omega)]
    refine Ev.stepb hE hstep ?_
    by_cases c : stepR w t st = s
    · simp only [decide_eq_true c, if_true, outR, if_pos c]
      exact Ev.now _
    · simp only [decide_eq_false c, Bool.false_eq_true, if_false, outR, if_neg c]
      refine ih _ _ (stepR_len w t st h1 hw) (stepR_bits w t st h2) ?_ ?_
      · rw [← stepR_cat, List.length_append]
        simp only [List.length_singleton]
        omega
      · have := h4
        unfold back at this
        rw [Bool.or_eq_true] at this
        exact this.resolve_left (by simpa using c)
theorem ascs_len (n : Nat) : ∀ (a : Int) (l : List Int), l ∈ ascs n a → l.length ≤ n ∧ ∀ x ∈ l, a ≤ x ∧ x < a + n := by
  induction n with
  | zero => intro a l h; simp [ascs] at h; subst h; simp
  | succ n ih =>
    intro a l h
    unfold ascs at h
    rcases List.mem_append.mp h with h | h
    · obtain ⟨h1, h2⟩ := ih _ _ h
      exact ⟨by omega, fun x hx => by have := h2 x hx; omega⟩
    · obtain ⟨q, hq, rfl⟩ := List.mem_map.mp h
      obtain ⟨h1, h2⟩ := ih _ _ hq
      refine ⟨by simp; omega, fun x hx => ?_⟩
      rcases List.mem_cons.mp hx with rfl | hx
      · omega
      · have := h2 x hx
        omega
theorem outR_len (w : Nat) (t s : List Int) (n : Nat) : ∀ (Y st : List Int), (outR w t s n Y st).length ≤ Y.length + n := by
  induction n with
  | zero => intro Y st; simp [outR]
  | succ n ih =>
    intro Y st
    have e : (Y ++ st.take 1).length ≤ Y.length + 1 := by rw [List.length_append, List.length_take]; omega
    unfold outR
    by_cases c : stepR w t st = s
    · rw [if_pos c]; omega
    · rw [if_neg c]
      have := ih (Y ++ st.take 1) (stepR w t st)
      omega
/-- What a register that is taken makes. -/
theorem shift_yes (t s : List Int) (h : tapsB t s = true) (hback : back s.length t s 64 s = true) : ∃ r : List Int, r.length ≤ 64 ∧ Ev (fun k => spec_ShiftStack.f k t s) (r, (s.length : Int), true) ∧ Ev (fun k => impl_ShiftStack.f k t s) (r, (s.length : Int), true) := by
  have hT := h
  unfold tapsB seedB at hT
  simp only [Bool.and_eq_true, decide_eq_true_eq] at hT
  obtain ⟨⟨hw1, hw2⟩, hlast, hasc, hbits, hone⟩ := hT
  obtain ⟨hl1, hl2⟩ := ascs_len _ _ _ (taps_mem t s.length hasc hlast)
  have ht : ∀ x ∈ t, 1 ≤ x ∧ x ≤ (s.length : Int) := fun x hx => by have := hl2 x hx; omega
  have R1 := spec_run t s s.length (by omega) ht (by omega) (by omega) 64 [] s rfl hbits (by simp; omega) hback
  have R2 := impl_run t s s.length (by omega) ht (by omega) (by omega) 64 [] s rfl hbits (by simp; omega) hback
  simp only [List.nil_append] at R1 R2
  refine ⟨outR s.length t s 64 [] s, by simpa using outR_len s.length t s 64 [] s, ?_, ?_⟩
  · have E1 := l11Taps_ev t s (by omega)
    rw [h] at E1
    unfold spec_ShiftStack.f
    refine Ev.bind E1 ?_
    simp only [if_true, Option.bind_some, List.length_nil, Nat.zero_add, List.nil_append]
    simp only [if_pos (show s.length < 17592186044416 by omega)]
    exact R1
  · have hc : colorsB s 6 = true := by
      unfold colorsB
      rw [decide_eq_true hw2, Bool.true_and]
      exact bits_colors s hbits
    unfold impl_ShiftStack.f
    simp only [if_neg (show ¬ (s.length : Int) < 1 by omega), areColors_eq, Option.bind_some, hc, if_true]
    refine Ev.bind (contains_ev s 1 (by omega)) ?_
    simp only [hone, if_true]
    refine Ev.bind (areTaps_ev t (s.length : Int) (by omega)) ?_
    simp only [hasc, hlast, Bool.and_self, Bool.not_true]
    refine Ev.step (fun k => ?_) R2
    show impl_ShiftStack.j0 (k + 1) t s _ false = _
    rw [impl_ShiftStack.j0, if_neg (by simp)]
    unfold slices_Clone_Lint_int.f
    rw [if_pos (show s.length < 17592186044416 by omega), Option.bind_some]
end Go.Proofs.Ytdnedgkanglgjaa.F
/- Every register of at most six bits comes back within 64 steps: its step can be undone, and there are at most 64 states. -/
namespace Go.Proofs.Ytdnedgkanglgjaa.F
open Go.RowKit Go.Proofs.YtdnedgkanglgjaaW.PrintWords Go.Proofs.YtdnedgkanglgjaaW.PrintLast Go.Proofs.YtdnedgkanglgjaaW.PrintMore
set_option linter.unusedVariables false
set_option linter.unusedSimpArgs false
theorem nodup_le {α : Type} [DecidableEq α] : ∀ (l m : List α), l.Nodup → (∀ x ∈ l, x ∈ m) → l.length ≤ m.length := by
  intro l
  induction l with
  | nil => intro m _ _; simp
  | cons x l ih =>
    intro m hn hs
    rw [List.nodup_cons] at hn
    have hx := hs x (by simp)
    have := ih (m.erase x) hn.2 (fun y hy => by
      have hne : y ≠ x := fun e => hn.1 (e ▸ hy)
      exact (List.mem_erase_of_ne hne).mpr (hs y (by simp [hy])))
    rw [List.length_erase_of_mem hx] at this
    have hp := List.length_pos_of_mem hx
    simp only [List.length_cons]
    omega
theorem getD_drop1 (a b : List Int) (h : a.drop 1 = b.drop 1) (i : Nat) (hi : 1 ≤ i) : a.getD i 0 = b.getD i 0 := by
  obtain ⟨j, rfl⟩ : ∃ j, i = 1 + j := ⟨i - 1, by omega⟩
  have e1 : a.getD (1 + j) 0 = (a.drop 1).getD j 0 := by simp [List.getD_eq_getElem?_getD, List.getElem?_drop, Nat.add_comm]
  have e2 : b.getD (1 + j) 0 = (b.drop 1).getD j 0 := by simp [List.getD_eq_getElem?_getD, List.getElem?_drop, Nat.add_comm]
  rw [e1, e2, h]
theorem tap_diff (w : Nat) (a b : List Int) (h : a.drop 1 = b.drop 1) (ts : List Int) : ∀ (p : Int), 0 ≤ p → ascB p ts = true → (∀ x ∈ ts, x ≤ (w : Int)) → tapSum w a ts - tapSum w b ts = if (w : Int) ∈ ts then a.getD 0 0 - b.getD 0 0 else 0 := by
  induction ts with
  | nil => intro p hp ha hx; simp [tapSum]
  | cons t ts ih =>
    intro p hp ha hx
    simp only [ascB, Bool.and_eq_true, decide_eq_true_eq] at ha
    have h1 := ih t (by omega) ha.2 (fun x hx' => hx x (by simp [hx']))
    have h2 := hx t (by simp)
    by_cases e : t = (w : Int)
    · have hno : ts = [] := by
        cases ts with
        | nil => rfl
        | cons y ys =>
          have h3 := hx y (by simp)
          have h4 := ha.2
          simp only [ascB, Bool.and_eq_true, decide_eq_true_eq] at h4
          omega
      subst hno
      subst e
      simp [tapSum]
    · have hg : a.getD (w - t.toNat) 0 = b.getD (w - t.toNat) 0 := getD_drop1 a b h _ (by omega)
      have hm : ((w : Int) ∈ t :: ts) ↔ ((w : Int) ∈ ts) := by
        rw [List.mem_cons]
        exact ⟨fun q => q.resolve_left (fun q => e q.symm), Or.inr⟩
      simp only [tapSum, hm]
      rw [hg, ← h1]
      omega
theorem last_mem (t : List Int) (w : Int) (h : lastB t w = true) : w ∈ t := by
  unfold lastB at h
  simp only [Bool.and_eq_true, decide_eq_true_eq, beq_iff_eq] at h
  have hn : t ≠ [] := by
    intro hn
    subst hn
    exact absurd h.1 (by simp)
  obtain ⟨q, x, rfl⟩ : ∃ q x, t = q ++ [x] := ⟨t.dropLast, t.getLast hn, (List.dropLast_concat_getLast hn).symm⟩
  have := prevOf_snoc q x
  unfold prevOf at this
  rw [if_neg hn] at this
  rw [← h.2, this]
  simp
theorem bit_at (l : List Int) (h : l.all bitB = true) (i : Nat) : l.getD i 0 = 0 ∨ l.getD i 0 = 1 := by
  by_cases c : i < l.length
  · have e : l.getD i 0 = l[i] := by simp [List.getD_eq_getElem?_getD, c]
    have := List.all_eq_true.mp h l[i] (List.getElem_mem c)
    unfold bitB at this
    rw [e]
    exact of_decide_eq_true this
  · exact Or.inl (by simp [List.getD_eq_getElem?_getD, c])
theorem stepR_inj (w : Nat) (t a b : List Int) (h1 : ascB 0 t = true) (h2 : lastB t (w : Int) = true) (hx : ∀ x ∈ t, x ≤ (w : Int)) (ha : a.length = w) (hb : b.length = w) (hw : 1 ≤ w) (ba : a.all bitB = true) (bb : b.all bitB = true) (h : stepR w t a = stepR w t b) : a = b := by
  unfold stepR at h
  have hl : (a.drop 1).length = (b.drop 1).length := by rw [List.length_drop, List.length_drop]; omega
  obtain ⟨h3, h4⟩ := List.append_inj h hl
  have h5 : tapSum w a t % 2 = tapSum w b t % 2 := by simpa using h4
  have h6 := tap_diff w a b h3 t 0 (by omega) h1 hx
  rw [if_pos (last_mem t w h2)] at h6
  have b1 := bit_at a ba 0
  have b2 := bit_at b bb 0
  have h7 : a.getD 0 0 = b.getD 0 0 := by omega
  cases a with
  | nil => simp at ha; omega
  | cons x xs =>
    cases b with
    | nil => simp at hb; omega
    | cons y ys =>
      simp only [List.drop_succ_cons, List.drop_zero] at h3
      simp only [List.getD_cons_zero] at h7
      rw [h3, h7]
def iterR (w : Nat) (t : List Int) : Nat → List Int → List Int
  | 0, st => st
  | n + 1, st => iterR w t n (stepR w t st)
theorem iterR_succ (w : Nat) (t : List Int) (n : Nat) : ∀ st, iterR w t (n + 1) st = stepR w t (iterR w t n st) := by
  induction n with
  | zero => intro st; rfl
  | succ n ih => intro st; exact ih (stepR w t st)
theorem back_of_iter (w : Nat) (t s : List Int) (n : Nat) : ∀ (j : Nat) (st : List Int), j < n → iterR w t (j + 1) st = s → back w t s n st = true := by
  induction n with
  | zero => intro j st h; omega
  | succ n ih =>
    intro j st h e
    unfold back
    cases j with
    | zero =>
      have e2 : stepR w t st = s := e
      simp [e2]
    | succ j =>
      rw [ih j (stepR w t st) (by omega) e]
      simp
theorem stepR_keep (w : Nat) (t st : List Int) (hw : 1 ≤ w) (h : st.length = w) (hb : st.all bitB = true) : (stepR w t st).length = w ∧ (stepR w t st).all bitB = true := by
  refine ⟨by simp [stepR]; omega, ?_⟩
  rw [List.all_eq_true] at hb ⊢
  intro x hx
  unfold stepR at hx
  rcases List.mem_append.mp hx with hx | hx
  · exact hb x (List.mem_of_mem_drop hx)
  · have := List.mem_singleton.mp hx
    subst this
    unfold bitB
    exact decide_eq_true (by omega)
theorem iterR_keep (w : Nat) (t : List Int) (hw : 1 ≤ w) (n : Nat) : ∀ (st : List Int), st.length = w → st.all bitB = true → (iterR w t n st).length = w ∧ (iterR w t n st).all bitB = true := by
  induction n with
  | zero => intro st h hb; exact ⟨h, hb⟩
  | succ n ih =>
    intro st h hb
    obtain ⟨h1, h2⟩ := stepR_keep w t st hw h hb
    exact ih _ h1 h2
theorem bitsL_len (n : Nat) : (bitsL n).length = 2 ^ n := by
  induction n with
  | zero => rfl
  | succ n ih =>
    simp only [bitsL, List.length_append, List.length_map, ih]
    omega
theorem iter_cancel (w : Nat) (t s : List Int) (h1 : ascB 0 t = true) (h2 : lastB t (w : Int) = true) (hx : ∀ x ∈ t, x ≤ (w : Int)) (hs : s.length = w) (hw : 1 ≤ w) (hb : s.all bitB = true) (i : Nat) : ∀ d, iterR w t i s = iterR w t (i + d) s → s = iterR w t d s := by
  induction i with
  | zero => intro d h; simpa [iterR] using h
  | succ i ih =>
    intro d h
    rw [show i + 1 + d = (i + d) + 1 by omega, iterR_succ, iterR_succ] at h
    obtain ⟨k1, k2⟩ := iterR_keep w t hw i s hs hb
    obtain ⟨k3, k4⟩ := iterR_keep w t hw (i + d) s hs hb
    exact ih d (stepR_inj w t _ _ h1 h2 hx k1 k3 hw k2 k4 h)
theorem back_all (t s : List Int) (h1 : ascB 0 t = true) (h2 : lastB t (s.length : Int) = true) (hx : ∀ x ∈ t, x ≤ (s.length : Int)) (hw : 1 ≤ s.length) (hw6 : s.length ≤ 6) (hb : s.all bitB = true) : back s.length t s 64 s = true := by
  by_cases hc : ∃ j, j < 64 ∧ iterR s.length t (j + 1) s = s
  · obtain ⟨j, hj, e⟩ := hc
    exact back_of_iter _ t s 64 j s hj e
  · exfalso
    have hn : ((List.range 65).map fun i => iterR s.length t i s).Nodup := by
      unfold List.Nodup
      rw [List.pairwise_map]
      refine List.Pairwise.imp_of_mem ?_ (List.pairwise_lt_range (n := 65))
      intro i j hi hj hij e
      have hj' := List.mem_range.mp hj
      have := iter_cancel s.length t s h1 h2 hx rfl hw hb i (j - i) (by rw [show i + (j - i) = j by omega]; exact e)
      refine hc ⟨j - i - 1, by omega, ?_⟩
      rw [show j - i - 1 + 1 = j - i by omega]
      exact this.symm
    have hl := nodup_le _ (bitsL s.length) hn (by
      intro x hx'
      obtain ⟨i, _, rfl⟩ := List.mem_map.mp hx'
      obtain ⟨k1, k2⟩ := iterR_keep s.length t hw i s rfl hb
      have := bitsL_mem _ k2
      rwa [k1] at this)
    rw [bitsL_len, List.length_map, List.length_range] at hl
    have : 2 ^ s.length ≤ 2 ^ 6 := Nat.pow_le_pow_right (by omega) hw6
    omega
end Go.Proofs.Ytdnedgkanglgjaa.F
/- The laws' helpers on a stack. -/
namespace Go.Proofs.Ytdnedgkanglgjaa.F
open Go.RowKit Go.Proofs.YtdnedgkanglgjaaW.PrintWords Go.Proofs.YtdnedgkanglgjaaW.PrintLast Go.Proofs.YtdnedgkanglgjaaW.PrintMore
set_option linter.unusedVariables false
set_option linter.unusedSimpArgs false
theorem eqStack_same (l : List Int) (n : Int) (hl : l.length ≤ 4611686018427387904) : Ev (fun k => laws_eqStack.f k l n l n) true := by
  unfold laws_eqStack.f
  refine Ev.bind (eqIntS_same l hl) ?_
  simp only [if_true]
  exact Ev.now _
theorem markStack_ev (l : List Int) (n a : Int) (hl : l.length ≤ 1152921504606846976) (h0 : 0 ≤ a) (h1 : a ≤ 1152921504606846976) : Ev (fun k => laws_markStack.f k l n a) (a + l.length, seqFrom a l.length) := by
  unfold laws_markStack.f
  exact Ev.bind (markIntS_ev l a hl h0 h1) (Ev.now _)
theorem heldStack_ev (m : Nat) (n a : Int) (hl : m ≤ 1152921504606846976) (h0 : 0 ≤ a) (h1 : a ≤ 1152921504606846976) : Ev (fun k => laws_heldStack.f k (seqFrom a m) n a) (a + m) := by
  unfold laws_heldStack.f
  refine Ev.bind (heldIntS_ev m a hl h0 h1) ?_
  simp only [if_neg (show ¬ (a + (m : Int) < 0) by omega)]
  exact Ev.now _
end Go.Proofs.Ytdnedgkanglgjaa.F
/- ShiftStack: both functions answer the same. -/
namespace Go.Proofs.Ytdnedgkanglgjaa.Pure
open Go.RowKit Go.Proofs.Ytdnedgkanglgjaa.F Go.Proofs.YtdnedgkanglgjaaW.PrintWords Go.Proofs.YtdnedgkanglgjaaW.PrintLast Go.Proofs.YtdnedgkanglgjaaW.PrintMore
set_option linter.unusedVariables false
set_option linter.unusedSimpArgs false
theorem shift_both (t s : List Int) (ht : t.length ≤ 1048576) (hs : s.length ≤ 1048576) : ∃ (r : List Int) (n : Int) (b : Bool), r.length ≤ 64 ∧ Ev (fun k => spec_ShiftStack.f k t s) (r, n, b) ∧ Ev (fun k => impl_ShiftStack.f k t s) (r, n, b) := by
  cases h : tapsB t s
  · exact ⟨[], 0, false, by simp, spec_Shift_no t s (by omega) h, impl_Shift_no t s (by omega) (by omega) h⟩
  · have hT := h
    unfold tapsB seedB at hT
    simp only [Bool.and_eq_true, decide_eq_true_eq] at hT
    obtain ⟨⟨hw1, hw2⟩, hlast, hasc, hbits, hone⟩ := hT
    obtain ⟨_, hl2⟩ := ascs_len _ _ _ (taps_mem t s.length hasc hlast)
    have hb := back_all t s hasc hlast (fun x hx => by have := hl2 x hx; omega) (by omega) (by omega) hbits
    obtain ⟨r, h1, h2, h3⟩ := shift_yes t s h hb
    exact ⟨r, _, _, h1, h2, h3⟩
theorem FnExactShiftStack : laws_FnExactShiftStack.Pure := by
  intro l m hm0 hb0 hw0 hm1 hb1 hw1
  by_cases hbig : (l.length : Int) > 1048576
  · exact ⟨0, by unfold laws_FnExactShiftStack.f; rw [if_pos hbig]⟩
  by_cases hbig2 : (m.length : Int) > 1048576
  · exact ⟨0, by unfold laws_FnExactShiftStack.f; rw [if_neg hbig, if_pos hbig2]⟩
  obtain ⟨r, n, b, hr, hs, hi⟩ := shift_both l m (by omega) (by omega)
  have main2 : Ev (fun k => laws_FnExactShiftStack.f k l m) true := by
    unfold laws_FnExactShiftStack.f
    simp only [if_neg hbig, if_neg hbig2]
    repeat' first
      | exact Ev.now _
      | with_reducible refine Ev.bind hs ?_
      | with_reducible refine Ev.bind hi ?_
      | with_reducible refine Ev.bind (toIntS_ev _ (by omega)) ?_
      | with_reducible refine Ev.bind (eqIntS_same _ (by omega)) ?_
      | with_reducible refine Ev.bind (eqStack_same _ _ (by omega)) ?_
      | with_reducible refine Ev.bind (markIntS_ev _ _ (by omega) (by omega) (by omega)) ?_
      | with_reducible refine Ev.bind (heldIntS_ev _ _ (by omega) (by omega) (by omega)) ?_
      | with_reducible refine Ev.bind (markStack_ev _ _ _ (by omega) (by omega) (by omega)) ?_
      | with_reducible refine Ev.bind (heldStack_ev _ _ _ (by omega) (by omega) (by omega)) ?_
      | simp only [if_true, if_false, Bool.not_true, bne_self_eq_false, Bool.false_eq_true, neg1, neg2, neg3]
      | (refine Ev.succ ?_; simp only [laws_FnExactShiftStack.j0, laws_FnExactShiftStack.j1, laws_FnExactShiftStack.j2])
  exact main2.imp fun K hK => hK K (Nat.le_refl _)
end Go.Proofs.Ytdnedgkanglgjaa.Pure
