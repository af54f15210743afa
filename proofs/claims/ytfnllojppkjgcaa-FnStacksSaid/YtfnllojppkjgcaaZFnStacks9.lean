import Derived.Test.YtfnllojppkjgcaaZFnStacks4
import Derived.Test.YtfnllojppkjgcaaZFnStacks5
import Derived.Test.YtfnllojppkjgcaaZFnStacks7
import Derived.Test.YtfnllojppkjgcaaZFnStacks6
import Derived.Test.YtfnllojppkjgcaaZFnStacks8
section
/- What the makers of arguments give: numbers in their bounds, whatever the code is. -/
namespace Go.Proofs.Ytfnllojppkjgcaa.F
open Go.RowKit Go.Proofs.YtfnllojppkjgcaaW.PrintWords Go.Proofs.YtfnllojppkjgcaaW.PrintLast Go.Proofs.YtfnllojppkjgcaaW.PrintMore
set_option linter.unusedVariables false
set_option linter.unusedSimpArgs false
theorem and_255 (x : Int) : 0 ≤ Go.bits .and .i64 x 255 ∧ Go.bits .and .i64 x 255 ≤ 255 := by
  have h : (BitVec.ofInt 64 x &&& BitVec.ofInt 64 255).toNat ≤ 255 := by
    rw [BitVec.toNat_and]
    exact Nat.le_trans Nat.and_le_right (by decide)
  have e : Go.bits .and .i64 x 255 = wrap64 (((BitVec.ofInt 64 x &&& BitVec.ofInt 64 255).toNat : Nat) : Int) := i64_w _
  rw [e, w64_id (by omega) (by omega)]
  omega
/-- The cursor stands within its code. -/
def curB (f0 : List Int) (f1 : Int) : Prop := 0 ≤ f1 ∧ f1 ≤ (f0.length : Int) ∧ f0.length ≤ 1048576
theorem byte_ex (f0 : List Int) (f1 f2 : Int) (h : curB f0 f1) : ∃ b g1 g2, spec_l01Byte.f f0 f1 f2 = some (b, g1, g2) ∧ 0 ≤ b ∧ b ≤ 255 ∧ curB f0 g1 := by
  obtain ⟨h0, h1, h2⟩ := h
  unfold spec_l01Byte.f
  by_cases c : f1 < (f0.length : Int)
  · rw [if_pos c, if_pos h0]
    have hw : wrap64 (f1 + 1) = f1 + 1 := w64_id (by omega) (by omega)
    exact ⟨_, _, _, rfl, (and_255 _).1, (and_255 _).2, by rw [hw]; omega, by rw [hw]; omega, h2⟩
  · rw [if_neg c]
    exact ⟨_, _, _, rfl, (and_255 _).1, (and_255 _).2, h0, h1, h2⟩
theorem below_ex (f0 : List Int) (f1 f2 n : Int) (h : curB f0 f1) (h0 : 1 ≤ n) (h1 : n ≤ 256) : ∃ b g1 g2, spec_l01Below.f f0 f1 f2 n = some (b, g1, g2) ∧ 0 ≤ b ∧ b < n ∧ curB f0 g1 := by
  obtain ⟨b, g1, g2, hb, b0, b1, hc⟩ := byte_ex f0 f1 f2 h
  unfold spec_l01Below.f
  rw [if_neg (by omega), if_pos h1, hb, Option.bind_some, if_neg (by omega)]
  refine ⟨_, _, _, rfl, ?_, ?_, hc⟩
  · exact Int.tmod_nonneg _ b0
  · exact Int.tmod_lt_of_pos _ (by omega)
theorem once_ex (f0 : List Int) (f1 f2 n : Int) (h : curB f0 f1) (h0 : 1 ≤ n) (h1 : n ≤ 256) : ∃ b g1 g2, spec_l01Once.f f0 f1 f2 n = some (b, g1, g2) ∧ curB f0 g1 := by
  obtain ⟨b, g1, g2, hb, _, _, hc⟩ := below_ex f0 f1 f2 n h h0 h1
  unfold spec_l01Once.f
  rw [hb, Option.bind_some]
  exact ⟨_, _, _, rfl, hc⟩
theorem new_at (rest : List Int) : ∀ (pre : List Int) (h : Int), (pre ++ rest).length ≤ 1048576 →
    ∃ r, Ev (fun k => spec_l01New.l0 k (pre ++ rest) h (pre.length : Int)) (pre ++ rest, 0, r) := by
  induction rest with
  | nil =>
    intro pre h hb
    refine ⟨h, Ev.step (f := fun _ => some (pre ++ [], 0, h)) (fun k => ?_) (Ev.now _)⟩
    show spec_l01New.l0 (k + 1) _ h _ = _
    rw [spec_l01New.l0, if_neg (mid_nlt _)]
  | cons x rest ih =>
    intro pre h hb
    by_cases c : (pre.length : Int) < 4000
    · obtain ⟨r, hr⟩ := ih (pre ++ [x]) (Go.bits .and .i64 (wrap64 ((wrap64 ((wrap64 (h * 101)) + (wrap64 x))) + 7)) 1073741823) (by simpa using hb)
      rw [← mid_cons, ← mid_succ pre x (by simp at hb; omega)] at hr
      refine ⟨r, Ev.step (fun k => ?_) hr⟩
      show spec_l01New.l0 (k + 1) _ h _ = _
      rw [spec_l01New.l0, if_pos (mid_lt _ _ _), if_pos c, if_pos (nn _), mid_rd]
    · refine ⟨h, Ev.step (f := fun _ => some (pre ++ x :: rest, 0, h)) (fun k => ?_) (Ev.now _)⟩
      show spec_l01New.l0 (k + 1) _ h _ = _
      rw [spec_l01New.l0, if_pos (mid_lt _ _ _), if_neg c]
theorem new_ev (l : List Int) (hb : l.length ≤ 1048576) : ∃ r, Ev (fun k => spec_l01New.f k l) (l, 0, r) := new_at l [] _ hb
theorem l23_at (f0 : List Int) (n : Nat) : ∀ (i : Int) (a f1 f2 : Int), i + n = a → 0 ≤ i → a ≤ 1048576 → curB f0 f1 →
    ∃ g1 g2, Ev (fun k => spec_l23New.l0 k a f0 f1 f2 i) (f0, g1, g2) ∧ curB f0 g1 := by
  induction n with
  | zero =>
    intro i a f1 f2 hn hi ha h
    refine ⟨f1, f2, Ev.step (f := fun _ => some (f0, f1, f2)) (fun k => ?_) (Ev.now _), h⟩
    show spec_l23New.l0 (k + 1) a f0 f1 f2 i = _
    rw [spec_l23New.l0, if_neg (by omega)]
  | succ n ih =>
    intro i a f1 f2 hn hi ha h
    obtain ⟨b, g1, g2, hb, _, _, hc⟩ := byte_ex f0 f1 f2 h
    obtain ⟨e1, e2, he, hf⟩ := ih (i + 1) a g1 g2 (by omega) (by omega) ha hc
    refine ⟨e1, e2, Ev.step (fun k => ?_) he, hf⟩
    show spec_l23New.l0 (k + 1) a f0 f1 f2 i = _
    rw [spec_l23New.l0, if_pos (by omega), hb, Option.bind_some, w64_id (by omega) (by omega)]
theorem l23_ev (l : List Int) (a : Int) (hb : l.length ≤ 1048576) (h0 : 0 ≤ a) (h1 : a ≤ 1048576) : ∃ g1 g2, Ev (fun k => spec_l23New.f k l a) (l, g1, g2) ∧ curB l g1 := by
  obtain ⟨r, hr⟩ := new_ev l hb
  obtain ⟨g1, g2, hg, hc⟩ := l23_at l a.toNat 0 a 0 r (by omega) (by omega) h1 ⟨by omega, by omega, hb⟩
  unfold spec_l23New.f
  exact ⟨g1, g2, Ev.bind hr hg, hc⟩
theorem num_ev (l : List Int) (a : Int) (hb : l.length ≤ 1048576) (h0 : 0 ≤ a) (h1 : a ≤ 1048576) : ∃ v, Ev (fun k => spec_MakeNum.f k l a) v ∧ 0 ≤ v ∧ v ≤ 65535 := by
  obtain ⟨g1, g2, hg, hc⟩ := l23_ev l a hb h0 h1
  obtain ⟨b, c1, c2, hb1, b0, b1, hc1⟩ := byte_ex l g1 g2 hc
  obtain ⟨d, e1, e2, hd1, d0, d1, hc2⟩ := byte_ex l c1 c2 hc1
  refine ⟨b * 256 + d, ?_, by omega, by omega⟩
  unfold spec_MakeNum.f
  refine Ev.bind hg ?_
  simp only [hb1, hd1, Option.bind_some]
  rw [w64_id (show -9223372036854775808 ≤ b * 256 by omega) (by omega), w64_id (by omega) (by omega)]
  exact Ev.now _
end Go.Proofs.Ytfnllojppkjgcaa.F
end
section
/- Colours: bits; the check of a list of colours. -/
namespace Go.Proofs.Ytfnllojppkjgcaa.F
open Go.RowKit Go.Proofs.YtfnllojppkjgcaaW.PrintWords Go.Proofs.YtfnllojppkjgcaaW.PrintLast Go.Proofs.YtfnllojppkjgcaaW.PrintMore
set_option linter.unusedVariables false
set_option linter.unusedSimpArgs false
def isColor (x : Int) : Bool := decide (0 ≤ x ∧ x ≤ 1)
def colorsB (l : List Int) (most : Int) : Bool := decide ((l.length : Int) ≤ most) && l.all isColor
theorem color_pred (x : Int) : (impl_areColors_1.f x == some true) = !isColor x := by
  unfold impl_areColors_1.f isColor
  by_cases c : x = 0
  · subst c; rfl
  · by_cases d : x = 1
    · subst d; rfl
    · have e : decide (0 ≤ x ∧ x ≤ 1) = false := decide_eq_false (by omega)
      simp [c, d, e]
theorem areColors_eq (l : List Int) (most : Int) : impl_areColors.f l most = some (colorsB l most) := by
  unfold impl_areColors.f slices_ContainsFunc_Lint_int__impl_areColors_1.f colorsB
  by_cases c : (l.length : Int) ≤ most
  · simp only [if_pos c, Option.bind_some, decide_eq_true c, Bool.true_and]
    congr 1
    rw [List.all_eq_not_any_not]
    congr 2
    funext x
    exact color_pred x
  · simp only [if_neg c, decide_eq_false c, Bool.false_and]
end Go.Proofs.Ytfnllojppkjgcaa.F
end
section
/- SortPackets of the program: sorted, each list once. -/
namespace Go.Proofs.Ytfnllojppkjgcaa.F
open Go.RowKit Go.Proofs.YtfnllojppkjgcaaW.PrintWords Go.Proofs.YtfnllojppkjgcaaW.PrintLast Go.Proofs.YtfnllojppkjgcaaW.PrintMore
set_option linter.unusedVariables false
set_option linter.unusedSimpArgs false
theorem rdLLs (pre : List (List Int)) (x : List Int) (rest : List (List Int)) : rd_L1 (pre ++ x :: rest) (pre.length : Int) = x := by
  unfold rd_L1
  simp
theorem sortPk_at (rest : List (List Int)) : ∀ (pre : List (List Int)), (pre ++ rest).length < 5864062014805 → (∀ x ∈ rest, x.length < 17592186044416) →
    Ev (fun k => impl_SortPackets.l0 k pre (pre ++ rest) ((pre ++ rest).length : Int) (pre.length : Int)) (sortP (pre ++ rest)) := by
  induction rest with
  | nil =>
    intro pre hb hx
    refine Ev.step (f := fun _ => some (sortP (pre ++ []))) (fun k => ?_) (Ev.now _)
    show impl_SortPackets.l0 (k + 1) _ _ _ _ = _
    rw [List.append_nil] at hb ⊢
    rw [impl_SortPackets.l0, if_neg (by omega), if_pos (by omega)]
  | cons x rest ih =>
    intro pre hb hx
    have h := ih (pre ++ [x]) (by simpa using hb) (fun y hy => hx y (by simp [hy]))
    have hp : pre.length < 5864062014805 := by simp at hb; omega
    have hc : slices_Clone_Lint_int.f x = some x := by
      unfold slices_Clone_Lint_int.f
      rw [if_pos (hx x (by simp))]
    rw [← mid_cons, ← mid_succ pre x (by omega)] at h
    refine Ev.step (fun k => ?_) h
    show impl_SortPackets.l0 (k + 1) _ _ _ _ = _
    rw [impl_SortPackets.l0, if_pos (mid_lt _ _ _), if_pos (nn _), if_pos (mid_lt _ _ _), rdLLs, hc, Option.bind_some, if_pos hp]
theorem sortPk_ev (l : List (List Int)) (hb : l.length < 5864062014805) (hx : ∀ x ∈ l, x.length < 17592186044416) : Ev (fun k => impl_SortPackets.f k l) (sortP l) := sortPk_at l [] hb hx
end Go.Proofs.Ytfnllojppkjgcaa.F
end
section
/- Of Stack what names the program's functions alone. -/
namespace Go.Proofs.Ytfnllojppkjgcaa.F
open Go.RowKit Go.Proofs.YtfnllojppkjgcaaW.PrintWords Go.Proofs.YtfnllojppkjgcaaW.PrintLast Go.Proofs.YtfnllojppkjgcaaW.PrintMore
set_option linter.unusedVariables false
set_option linter.unusedSimpArgs false
def winFrom (c : List Int) (a : Int) : Nat → Nat → List Int
  | _, 0 => []
  | i, m + 1 => rd c (Int.tmod (a + i) (c.length : Int)) :: winFrom c a (i + 1) m
def windowL (c : List Int) (w a : Int) : List Int := winFrom c a 0 w.toNat
theorem winFrom_length (c : List Int) (a : Int) (m : Nat) : ∀ i, (winFrom c a i m).length = m := by
  induction m with
  | zero => intro i; rfl
  | succ m ih => intro i; simp [winFrom, ih]
theorem windowL_length (c : List Int) (w a : Int) (h : 0 ≤ w) : ((windowL c w a).length : Int) = w := by
  unfold windowL
  rw [winFrom_length]
  omega
theorem impl_win_at (c : List Int) (w a : Int) (hc : 0 < c.length) (hb : c.length ≤ 1048576) (h0 : 0 ≤ a) (h1 : a ≤ 1048576) (m : Nat) : ∀ (i : Nat) (out : List Int), (i : Int) + m = w → out.length + m ≤ 1048576 → i + m ≤ 1048576 →
    Ev (fun k => impl_windowAt.l0 k c w a out (i : Int)) (out ++ winFrom c a i m) := by
  induction m with
  | zero =>
    intro i out hw ho hi
    rw [show out ++ winFrom c a i 0 = out by simp [winFrom]]
    refine Ev.step (f := fun _ => some out) (fun k => ?_) (Ev.now _)
    show impl_windowAt.l0 (k + 1) _ _ _ _ _ = _
    rw [impl_windowAt.l0, if_neg (by omega)]
  | succ m ih =>
    intro i out hw ho hi
    have h := ih (i + 1) (out ++ [rd c (Int.tmod (a + i) (c.length : Int))]) (by omega) (by simp; omega) (by omega)
    have hs : wrap64 (a + (i : Int)) = a + i := w64_id (by omega) (by omega)
    have t0 : 0 ≤ Int.tmod (a + i) (c.length : Int) := Int.tmod_nonneg _ (by omega)
    have t1 : Int.tmod (a + i) (c.length : Int) < (c.length : Int) := Int.tmod_lt_of_pos _ (by omega)
    rw [show out ++ winFrom c a i (m + 1) = out ++ [rd c (Int.tmod (a + i) (c.length : Int))] ++ winFrom c a (i + 1) m by simp [winFrom]]
    refine Ev.step (fun k => ?_) h
    show impl_windowAt.l0 (k + 1) _ _ _ _ _ = _
    rw [impl_windowAt.l0, if_pos (by omega), if_neg (by omega), hs, if_pos t0, if_pos t1, if_pos (by omega), w64_nat i (by omega)]
theorem impl_win_ev (c : List Int) (w a : Int) (hc : 0 < c.length) (hb : c.length ≤ 1048576) (h0 : 0 ≤ a) (h1 : a ≤ 1048576) (w0 : 0 ≤ w) (w1 : w ≤ 1048576) : Ev (fun k => impl_windowAt.f k c w a) (windowL c w a) := by
  have h := impl_win_at c w a hc hb h0 h1 w.toNat 0 [] (by omega) (by simp; omega) (by omega)
  rw [List.nil_append] at h
  exact h
/-- The windows from place i on, n of them. -/
def winsFrom (c : List Int) (w : Int) : Nat → Nat → List (List Int)
  | _, 0 => []
  | i, n + 1 => windowL c w i :: winsFrom c w (i + 1) n
def wins (c : List Int) (w : Int) : List (List Int) := winsFrom c w 0 c.length
def stackB (c : List Int) (w : Int) : Bool := decide (1 ≤ w ∧ w ≤ 6 ∧ w ≤ (c.length : Int) ∧ (c.length : Int) ≤ 64) && (c.all isColor && decide (wins c w).Nodup)
theorem impl_wins_at (c : List Int) (w : Int) (hc : 0 < c.length) (hb : c.length ≤ 64) (w0 : 1 ≤ w) (w1 : w ≤ 6) (n : Nat) : ∀ (i : Nat) (out : List (List Int)), i + n = c.length → out.length = i → (∀ x ∈ out, (x.length : Int) = w) →
    Ev (fun k => impl_StackOk.l0 k out (c.length : Int) (i : Int) c w) (decide (out ++ winsFrom c w i n).Nodup) := by
  induction n with
  | zero =>
    intro i out hi ho hx
    have hs := sortPk_ev out (by omega) (fun x h => by have := hx x h; omega)
    refine Ev.stepb hs (fun k => by rw [impl_StackOk.l0, if_neg (by omega)]) ?_
    have e : ((sortP out).length : Int) = (out.length : Int) ↔ out.Nodup := by
      rw [← sortP_length]
      omega
    rw [show out ++ winsFrom c w i 0 = out by simp [winsFrom]]
    rw [show (((sortP out).length : Int) == (out.length : Int)) = decide out.Nodup by rw [Bool.eq_iff_iff, beq_iff_eq, decide_eq_true_eq]; exact e]
    exact Ev.now _
  | succ n ih =>
    intro i out hi ho hx
    have hw := impl_win_ev c w i hc (by omega) (by omega) (by omega) (by omega) (by omega)
    have h := ih (i + 1) (out ++ [windowL c w i]) (by omega) (by simp; omega) (by
      intro x hx2
      rcases List.mem_append.mp hx2 with h2 | h2
      · exact hx x h2
      · rw [List.mem_singleton.mp h2]; exact windowL_length c w i (by omega))
    refine Ev.stepb hw (fun k => by rw [impl_StackOk.l0, if_pos (by omega)]) ?_
    rw [show out ++ winsFrom c w i (n + 1) = out ++ [windowL c w i] ++ winsFrom c w (i + 1) n by simp [winsFrom]]
    simp only [if_pos (show out.length < 5864062014805 by omega), w64_nat i (by omega)]
    exact h
theorem impl_stack_ev (c : List Int) (w : Int) : Ev (fun k => impl_StackOk.f k c w) (stackB c w) := by
  have no : stackB c w = false → Ev (fun k => impl_StackOk.j0 k true c w) (stackB c w) := fun h => by
    rw [h]
    exact Ev.step (f := fun _ => some false) (fun k => by rw [impl_StackOk.j0, if_pos rfl]) (Ev.now _)
  unfold impl_StackOk.f
  by_cases h1 : w < 1
  · simp only [if_pos h1]
    exact no (by unfold stackB; rw [decide_eq_false (by omega), Bool.false_and])
  · by_cases h2 : w > 6
    · simp only [if_neg h1, if_pos h2]
      exact no (by unfold stackB; rw [decide_eq_false (by omega), Bool.false_and])
    · by_cases h3 : (c.length : Int) < w
      · simp only [if_neg h1, if_neg h2, if_pos h3]
        exact no (by unfold stackB; rw [decide_eq_false (by omega), Bool.false_and])
      · simp only [if_neg h1, if_neg h2, if_neg h3, areColors_eq, Option.bind_some]
        by_cases h4 : colorsB c 64 = true
        · have h5 : (c.length : Int) ≤ 64 ∧ c.all isColor = true := by unfold colorsB at h4; simpa using h4
          have h6 : stackB c w = decide (wins c w).Nodup := by unfold stackB; rw [decide_eq_true (by omega), h5.2, Bool.true_and, Bool.true_and]
          rw [h4, h6]
          have h := impl_wins_at c w (by omega) (by omega) (by omega) (by omega) c.length 0 [] (by omega) rfl (by simp)
          refine Ev.step (fun k => ?_) h
          show impl_StackOk.j0 (k + 1) _ _ _ = _
          rw [impl_StackOk.j0, if_neg (by simp)]
          rfl
        · have h4' : colorsB c 64 = false := by simpa using h4
          rw [h4']
          refine no ?_
          unfold colorsB at h4'
          unfold stackB
          by_cases h5 : (c.length : Int) ≤ 64
          · have : c.all isColor = false := by simpa [h5] using h4'
            rw [this, Bool.false_and, Bool.and_false]
          · rw [decide_eq_false (by omega), Bool.false_and]
end Go.Proofs.Ytfnllojppkjgcaa.F
end
section
/- slices.Equal. -/
namespace Go.Proofs.Ytfnllojppkjgcaa.F
open Go.RowKit Go.Proofs.YtfnllojppkjgcaaW.PrintWords Go.Proofs.YtfnllojppkjgcaaW.PrintLast Go.Proofs.YtfnllojppkjgcaaW.PrintMore
set_option linter.unusedVariables false
set_option linter.unusedSimpArgs false
theorem slEq_at (rest : List Int) : ∀ (pre ys : List Int), (pre ++ ys).length ≤ 4611686018427387904 → rest.length = ys.length →
    Ev (fun k => slices_Equal_Lint_int.l0 k (pre ++ rest) (pre ++ ys) ((pre ++ rest).length : Int) (pre.length : Int)) (decide (rest = ys)) := by
  induction rest with
  | nil =>
    intro pre ys hb hl
    obtain rfl : ys = [] := List.length_eq_zero_iff.mp hl.symm
    exact Ev.step (f := fun _ => some true) (fun k => by rw [slices_Equal_Lint_int.l0, if_neg (mid_nlt _)]) (Ev.now _)
  | cons x rest ih =>
    intro pre ys hb hl
    cases ys with
    | nil => simp at hl
    | cons y ys =>
      by_cases e : x = y
      · subst e
        have h := ih (pre ++ [x]) ys (by simpa using hb) (by simpa using hl)
        rw [← mid_cons, ← mid_cons, ← mid_succ pre x (by simp at hb; omega)] at h
        rw [show decide (x :: rest = x :: ys) = decide (rest = ys) by simp]
        exact Ev.step (fun k => by rw [slices_Equal_Lint_int.l0, if_pos (mid_lt _ _ _), if_pos (nn _), if_pos (mid_lt _ _ _), if_pos (mid_lt _ _ _), mid_rd, mid_rd, if_pos rfl]) h
      · rw [show decide (x :: rest = y :: ys) = false by simp [e]]
        exact Ev.step (f := fun _ => some false) (fun k => by rw [slices_Equal_Lint_int.l0, if_pos (mid_lt _ _ _), if_pos (nn _), if_pos (mid_lt _ _ _), if_pos (mid_lt _ _ _), mid_rd, mid_rd, if_neg e]) (Ev.now _)
theorem slEq_ev (l m : List Int) (hl : l.length ≤ 4611686018427387904) : Ev (fun k => slices_Equal_Lint_int.f k l m) (decide (l = m)) := by
  unfold slices_Equal_Lint_int.f
  by_cases e : (l.length : Int) = (m.length : Int)
  · simp only [if_pos e]
    exact slEq_at l [] m (by simp; omega) (by omega)
  · simp only [if_neg e]
    rw [show decide (l = m) = false from decide_eq_false (fun h => e (by rw [h]))]
    exact Ev.now _
end Go.Proofs.Ytfnllojppkjgcaa.F
end
section
/- Of StackFns what names the program's functions alone. -/
namespace Go.Proofs.Ytfnllojppkjgcaa.F
open Go.RowKit Go.Proofs.YtfnllojppkjgcaaW.PrintWords Go.Proofs.YtfnllojppkjgcaaW.PrintLast Go.Proofs.YtfnllojppkjgcaaW.PrintMore
set_option linter.unusedVariables false
set_option linter.unusedSimpArgs false
theorem stackB_len {c : List Int} {w : Int} (h : stackB c w = true) : 1 ≤ w ∧ w ≤ 6 ∧ 0 < c.length ∧ c.length ≤ 64 := by
  unfold stackB at h
  rw [Bool.and_eq_true, decide_eq_true_eq] at h
  omega
/-- Where a window stands, from place i on. -/
def findM (c : List Int) (w : Int) (x : List Int) : Nat → Nat → Int
  | _, 0 => -1
  | i, n + 1 => if windowL c w i = x then (i : Int) else findM c w x (i + 1) n
theorem impl_findw_at (c : List Int) (w : Int) (x : List Int) (hs : stackB c w = true) (n : Nat) : ∀ i : Nat, i + n = c.length → Ev (fun k => impl_FindWindow.l0 k x (i : Int) c w) (findM c w x i n) := by
  have hl := stackB_len hs
  induction n with
  | zero =>
    intro i hi
    refine Ev.step (f := fun k => impl_FindWindow.j1 k x (i : Int) false c w) (fun k => ?_) ?_
    · show impl_FindWindow.l0 (k + 1) _ _ _ _ = _
      rw [impl_FindWindow.l0, if_neg (by omega)]
    · exact Ev.step (f := fun _ => some (-1)) (fun k => by rw [impl_FindWindow.j1, if_neg (by simp)]) (Ev.now _)
  | succ n ih =>
    intro i hi
    have hw := impl_win_ev c w i hl.2.2.1 (by omega) (by omega) (by omega) (by omega) (by omega)
    have hlen := windowL_length c w i (by omega)
    refine Ev.stepb (impl_stack_ev c w) (fun k => by rw [impl_FindWindow.l0, if_pos (by omega)]) ?_
    simp only [hs]
    refine Ev.stepb hw (fun k => by rw [impl_FindWindow.j1, if_pos rfl]) (Ev.bind (slEq_ev (windowL c w i) x (by omega)) ?_)
    by_cases e : windowL c w i = x
    · simp only [decide_eq_true e, if_true, findM, if_pos e]
      exact Ev.now _
    · simp only [decide_eq_false e, Bool.false_eq_true, if_false, findM, if_neg e, w64_nat i (by omega)]
      exact ih (i + 1) (by omega)
theorem winFrom_tail (c : List Int) (a : Nat) (ha : a ≤ c.length) (m : Nat) : ∀ i : Nat, a + i + m = c.length → winFrom c a i m = (c.drop (a + i)) := by
  induction m with
  | zero => intro i h; rw [winFrom, List.drop_eq_nil_of_le (by omega)]
  | succ m ih =>
    intro i h
    have hlt : a + i < c.length := by omega
    rw [winFrom, ih (i + 1) (by omega), List.drop_eq_getElem_cons hlt]
    congr 1
    rw [Int.tmod_eq_emod_of_nonneg (by omega), Int.emod_eq_of_lt (by omega) (by omega)]
    unfold rd
    rw [show ((a : Int) + (i : Int)).toNat = a + i by omega, List.getD_eq_getElem?_getD, List.getElem?_eq_getElem hlt]
    rfl
theorem winFrom_head (c : List Int) (a : Nat) (ha : a ≤ c.length) (hc : 0 < c.length) (m : Nat) : ∀ i : Nat, c.length ≤ a + i → a + i + m ≤ 2 * c.length → winFrom c a i m = (c.drop (a + i - c.length)).take m := by
  induction m with
  | zero => intro i h h2; rw [winFrom, List.take_zero]
  | succ m ih =>
    intro i h h2
    have hlt : a + i - c.length < c.length := by omega
    rw [winFrom, ih (i + 1) (by omega) (by omega), List.drop_eq_getElem_cons hlt, List.take_succ_cons]
    congr 1
    · rw [Int.tmod_eq_emod_of_nonneg (by omega)]
      have e : ((a : Int) + (i : Int)) % (c.length : Int) = ((a + i - c.length : Nat) : Int) := by
        rw [show (a : Int) + (i : Int) = ((a + i - c.length : Nat) : Int) + (c.length : Int) by omega, Int.add_emod_right, Int.emod_eq_of_lt (by omega) (by omega)]
      rw [e]
      unfold rd
      rw [Int.toNat_natCast, List.getD_eq_getElem?_getD, List.getElem?_eq_getElem hlt]
      rfl
    · rw [show a + (i + 1) - c.length = a + i - c.length + 1 by omega]
theorem winFrom_append (c : List Int) (a : Int) (m n : Nat) : ∀ i, winFrom c a i (m + n) = winFrom c a i m ++ winFrom c a (i + m) n := by
  induction m with
  | zero => intro i; simp [winFrom]
  | succ m ih =>
    intro i
    rw [show m + 1 + n = (m + n) + 1 by omega, winFrom, winFrom, ih (i + 1), List.cons_append, show i + 1 + m = i + (m + 1) by omega]
theorem window_turned (c : List Int) (a : Nat) (ha : a ≤ c.length) (hc : 0 < c.length) : windowL c (c.length : Int) a = c.drop a ++ c.take a := by
  unfold windowL
  have e : winFrom c (a : Int) 0 c.length = winFrom c (a : Int) 0 ((c.length - a) + a) := by rw [Nat.sub_add_cancel ha]
  rw [Int.toNat_natCast, e, winFrom_append, winFrom_tail c a ha (c.length - a) 0 (by omega), winFrom_head c a ha hc a (0 + (c.length - a)) (by omega) (by omega)]
  rw [show a + (0 + (c.length - a)) - c.length = 0 by omega, List.drop_zero, Nat.add_zero]
end Go.Proofs.Ytfnllojppkjgcaa.F
end
section
/- The maker gives one of five stacks; in each, every window stands where it was taken, and a cut turns the places. -/
namespace Go.Proofs.Ytfnllojppkjgcaa.Pure
open Go.RowKit Go.Proofs.Ytfnllojppkjgcaa.F Go.Proofs.YtfnllojppkjgcaaW.PrintWords Go.Proofs.YtfnllojppkjgcaaW.PrintLast Go.Proofs.YtfnllojppkjgcaaW.PrintMore
set_option linter.unusedVariables false
set_option linter.unusedSimpArgs false
def dbL (n : Nat) : List Int := match spec_DeBruijn.f 300 (n : Int) with
  | some r => r.1
  | none => []
theorem db_all : ∀ n : Fin 5, 1 ≤ n.1 → spec_DeBruijn.f 300 (n.1 : Int) = some (dbL n.1, (n.1 : Int), true) := by decide +kernel
def cutL (c : List Int) (b : Nat) : List Int := c.drop b ++ c.take b
def stkC (c : List Int) (w : Int) : Bool := stackB c w && ((List.range c.length).all fun b => stackB (cutL c b) w && ((List.range c.length).all fun a =>
  decide (((windowL c w (a : Int)).length : Int) = w) && (decide (findM c w (windowL c w (a : Int)) 0 c.length = (a : Int)) && decide (findM (cutL c b) w (windowL c w (a : Int)) 0 (cutL c b).length = Int.tmod (wrap64 (wrap64 ((a : Int) - (b : Int)) + (c.length : Int))) (c.length : Int)))))
set_option maxHeartbeats 40000000 in
theorem stk_0 : stkC [1, 0, 0] 2 = true := by decide +kernel
set_option maxHeartbeats 40000000 in
theorem stk_1 : stkC (dbL 1) 1 = true ∧ stkC (dbL 2) 2 = true ∧ stkC (dbL 3) 3 = true := by decide +kernel
set_option maxHeartbeats 40000000 in
theorem stk_4 : stkC (dbL 4) 4 = true := by decide +kernel
theorem stk_db (n : Nat) (h1 : 1 ≤ n) (h4 : n ≤ 4) : stkC (dbL n) (n : Int) = true := by
  match n, h1, h4 with
  | 1, _, _ => exact stk_1.1
  | 2, _, _ => exact stk_1.2.1
  | 3, _, _ => exact stk_1.2.2
  | 4, _, _ => exact stk_4
theorem mkStack_ev (l : List Int) (hb : l.length ≤ 1048576) : ∃ (c : List Int) (w : Int), Ev (fun k => spec_MakeStack.f k l) (c, w) ∧ stkC c w = true := by
  obtain ⟨r, hr⟩ := new_ev l hb
  obtain ⟨b, g1, g2, hB, b0, b1, hc⟩ := below_ex l 0 r 4 ⟨by omega, by omega, hb⟩ (by omega) (by omega)
  obtain ⟨o, e1, e2, hO, _⟩ := once_ex l g1 g2 4 hc (by omega) (by omega)
  obtain ⟨n, hn⟩ := Int.eq_ofNat_of_zero_le (show 0 ≤ 1 + b by omega)
  have hw : wrap64 (1 + b) = (n : Int) := by rw [w64_id (by omega) (by omega)]; exact hn
  have hD := Ev.of (spec_DeBruijn.mono _) (db_all ⟨n, by omega⟩ (by show 1 ≤ n; omega))
  have hD : Ev (fun k => spec_DeBruijn.f k (n : Int)) (dbL n, (n : Int), true) := hD
  cases o
  · refine ⟨dbL n, (n : Int), ?_, stk_db n (by omega) (by omega)⟩
    have hdraw : Ev (fun k => spec_l11Draw.f k l 0 r) (dbL n, (n : Int), e1, e2) := by
      unfold spec_l11Draw.f
      simp only [hB, Option.bind_some, hw]
      refine Ev.bind hD ?_
      simp only [hO, Option.bind_some, Bool.false_eq_true, if_false]
      exact Ev.now _
    unfold spec_MakeStack.f
    exact Ev.bind hr (Ev.bind hdraw (Ev.now _))
  · refine ⟨[1, 0, 0], 2, ?_, stk_0⟩
    have hdraw : Ev (fun k => spec_l11Draw.f k l 0 r) ([1, 0, 0], 2, e1, e2) := by
      unfold spec_l11Draw.f
      simp only [hB, Option.bind_some, hw]
      refine Ev.bind hD ?_
      simp only [hO, Option.bind_some, if_true]
      exact Ev.now _
    unfold spec_MakeStack.f
    exact Ev.bind hr (Ev.bind hdraw (Ev.now _))
theorem FnStacks : laws_FnStacks.Pure := by
  intro l _ _ _
  by_cases hbig : (l.length : Int) > 1048576
  · exact ⟨0, by unfold laws_FnStacks.f; rw [if_pos hbig]⟩
  · have hb : l.length ≤ 1048576 := by omega
    obtain ⟨c, w, hM, hC⟩ := mkStack_ev l hb
    obtain ⟨v, hv, v0, v1⟩ := num_ev l 20 hb (by omega) (by omega)
    obtain ⟨u, hu, u0, u1⟩ := num_ev l 22 hb (by omega) (by omega)
    unfold stkC at hC
    rw [Bool.and_eq_true, List.all_eq_true] at hC
    obtain ⟨hs, hall⟩ := hC
    have hl := stackB_len hs
    obtain ⟨a, ha, ha1⟩ : ∃ a : Nat, Int.tmod v (c.length : Int) = (a : Int) ∧ a < c.length := by
      rw [Int.tmod_eq_emod_of_nonneg v0]
      have h0 := Int.emod_nonneg v (show (c.length : Int) ≠ 0 by omega)
      have h1 := Int.emod_lt_of_pos v (show 0 < (c.length : Int) by omega)
      exact ⟨(v % (c.length : Int)).toNat, by omega, by omega⟩
    obtain ⟨b, hb', hb1⟩ : ∃ b : Nat, Int.tmod u (c.length : Int) = (b : Int) ∧ b < c.length := by
      rw [Int.tmod_eq_emod_of_nonneg u0]
      have h0 := Int.emod_nonneg u (show (c.length : Int) ≠ 0 by omega)
      have h1 := Int.emod_lt_of_pos u (show 0 < (c.length : Int) by omega)
      exact ⟨(u % (c.length : Int)).toNat, by omega, by omega⟩
    have hB := hall b (List.mem_range.2 hb1)
    rw [Bool.and_eq_true, List.all_eq_true] at hB
    obtain ⟨hd, hA⟩ := hB
    have hA := hA a (List.mem_range.2 ha1)
    simp only [Bool.and_eq_true, decide_eq_true_eq] at hA
    obtain ⟨x1, x2, x3⟩ := hA
    have E := impl_stack_ev c w
    have D := impl_stack_ev (cutL c b) w
    have F1 := impl_findw_at c w (windowL c w (a : Int)) hs c.length 0 (by omega)
    have F2 := impl_findw_at (cutL c b) w (windowL c w (a : Int)) hd (cutL c b).length 0 (by omega)
    rw [x2] at F1
    rw [x3] at F2
    have hdl : (cutL c b).length = c.length := by unfold cutL; simp; omega
    have W : Ev (fun k => impl_WindowAt.f k c w (a : Int)) (windowL c w (a : Int), true) := by
      unfold impl_WindowAt.f
      refine Ev.bind E ?_
      simp only [hs, if_true, if_neg (show ¬ (a : Int) < 0 by omega), if_neg (show ¬ (a : Int) ≥ (c.length : Int) by omega)]
      exact Ev.bind (impl_win_ev c w a hl.2.2.1 (by omega) (by omega) (by omega) (by omega) (by omega)) (Ev.now _)
    have C : Ev (fun k => impl_CutStack.f k c w (b : Int)) (cutL c b, w, true) := by
      unfold impl_CutStack.f
      refine Ev.bind E ?_
      simp only [hs, if_true, if_neg (show ¬ (b : Int) < 0 by omega), if_neg (show ¬ (b : Int) ≥ (c.length : Int) by omega)]
      have hw := impl_win_ev c (c.length : Int) b hl.2.2.1 (by omega) (by omega) (by omega) (by omega) (by omega)
      rw [window_turned c b (by omega) hl.2.2.1] at hw
      exact Ev.bind hw (Ev.now _)
    rw [hs] at E
    rw [hd] at D
    have main : Ev (fun k => laws_FnStacks.f k l) true := by
      unfold laws_FnStacks.f
      simp only [if_neg hbig]
      refine Ev.bind hM (Ev.bind hv ?_)
      simp only [if_neg (show ¬ (c.length : Int) = 0 by omega), ha]
      refine Ev.bind hu ?_
      simp only [hb']
      refine Ev.bind W (Ev.bind C ?_)
      simp only [if_true]
      refine Ev.bind E ?_
      simp only [if_true]
      refine Ev.bind D ?_
      simp only [if_true, if_pos x1]
      refine Ev.bind (show Ev (fun k => impl_FindWindow.f k c w (windowL c w (a : Int))) (a : Int) from F1) ?_
      simp only [if_true]
      refine Ev.bind (show Ev (fun k => impl_FindWindow.f k (cutL c b) w (windowL c w (a : Int))) _ from F2) ?_
      simp only [if_true, hdl, beq_self_eq_true]
      exact Ev.now _
    exact main.imp fun K hK => hK K (Nat.le_refl _)
end Go.Proofs.Ytfnllojppkjgcaa.Pure
end
