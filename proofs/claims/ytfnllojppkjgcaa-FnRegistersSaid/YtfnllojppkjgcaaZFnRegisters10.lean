import Derived.Test.YtfnllojppkjgcaaZFnRegisters4
import Derived.Test.YtfnllojppkjgcaaZFnRegisters6
import Derived.Test.YtfnllojppkjgcaaZFnRegisters5
import Derived.Test.YtfnllojppkjgcaaZFnRegisters7
import Derived.Test.YtfnllojppkjgcaaZFnRegisters8
import Derived.Test.YtfnllojppkjgcaaZFnRegisters9
section
/- What the makers of arguments give: numbers in their bounds, whatever the code is. -/
namespace Go.Proofs.Ytfnllojppkjgcaa.F
open Go.RowKit Go.Proofs.YtfnllojppkjgcaaW.PrintWords Go.Proofs.YtfnllojppkjgcaaW.PrintLast Go.Proofs.YtfnllojppkjgcaaW.PrintMore
set_option linter.unusedVariables false
set_option linter.unusedSimpArgs false
theorem and_255 (x : Int) : 0 ≤ Go.bits .and .i64 x 255 ∧ Go.bits .and .i64 x 255 ≤ 255 := by
  have h : (BitVec.ofInt 64 x &&& BitVec.ofInt 64 255).toNat ≤ 255 := by
    rw [BitVec.toNat_and]
    exact Nat.le_trans Nat.and_le_right (by decide)
  have e : Go.bits .and .i64 x 255 = wrap64 (((BitVec.ofInt 64 x &&& BitVec.ofInt 64 255).toNat : Nat) : Int) := i64_w _
  rw [e, w64_id (by omega) (by omega)]
  omega
/-- The cursor stands within its code. -/
def curB (f0 : List Int) (f1 : Int) : Prop := 0 ≤ f1 ∧ f1 ≤ (f0.length : Int) ∧ f0.length ≤ 1048576
theorem byte_ex (f0 : List Int) (f1 f2 : Int) (h : curB f0 f1) : ∃ b g1 g2, spec_l01Byte.f f0 f1 f2 = some (b, g1, g2) ∧ 0 ≤ b ∧ b ≤ 255 ∧ curB f0 g1 := by
  obtain ⟨h0, h1, h2⟩ := h
  unfold spec_l01Byte.f
  by_cases c : f1 < (f0.length : Int)
  · rw [if_pos c, if_pos h0]
    have hw : wrap64 (f1 + 1) = f1 + 1 := w64_id (by omega) (by omega)
    exact ⟨_, _, _, rfl, (and_255 _).1, (and_255 _).2, by rw [hw]; omega, by rw [hw]; omega, h2⟩
  · rw [if_neg c]
    exact ⟨_, _, _, rfl, (and_255 _).1, (and_255 _).2, h0, h1, h2⟩
theorem new_at (rest : List Int) : ∀ (pre : List Int) (h : Int), (pre ++ rest).length ≤ 1048576 →
    ∃ r, Ev (fun k => spec_l01New.l0 k (pre ++ rest) h (pre.length : Int)) (pre ++ rest, 0, r) := by
  induction rest with
  | nil =>
    intro pre h hb
    refine ⟨h, Ev.step (f := fun _ => some (pre ++ [], 0, h)) (fun k => ?_) (Ev.now _)⟩
    show spec_l01New.l0 (k + 1) _ h _ = _
    rw [spec_l01New.l0, if_neg (mid_nlt _)]
  | cons x rest ih =>
    intro pre h hb
    by_cases c : (pre.length : Int) < 4000
    · obtain ⟨r, hr⟩ := ih (pre ++ [x]) (Go.bits .and .i64 (wrap64 ((wrap64 ((wrap64 (h * 101)) + (wrap64 x))) + 7)) 1073741823) (by simpa using hb)
      rw [← mid_cons, ← mid_succ pre x (by simp at hb; omega)] at hr
      refine ⟨r, Ev.step (fun k => ?_) hr⟩
      show spec_l01New.l0 (k + 1) _ h _ = _
      rw [spec_l01New.l0, if_pos (mid_lt _ _ _), if_pos c, if_pos (nn _), mid_rd]
    · refine ⟨h, Ev.step (f := fun _ => some (pre ++ x :: rest, 0, h)) (fun k => ?_) (Ev.now _)⟩
      show spec_l01New.l0 (k + 1) _ h _ = _
      rw [spec_l01New.l0, if_pos (mid_lt _ _ _), if_neg c]
theorem new_ev (l : List Int) (hb : l.length ≤ 1048576) : ∃ r, Ev (fun k => spec_l01New.f k l) (l, 0, r) := new_at l [] _ hb
theorem l23_at (f0 : List Int) (n : Nat) : ∀ (i : Int) (a f1 f2 : Int), i + n = a → 0 ≤ i → a ≤ 1048576 → curB f0 f1 →
    ∃ g1 g2, Ev (fun k => spec_l23New.l0 k a f0 f1 f2 i) (f0, g1, g2) ∧ curB f0 g1 := by
  induction n with
  | zero =>
    intro i a f1 f2 hn hi ha h
    refine ⟨f1, f2, Ev.step (f := fun _ => some (f0, f1, f2)) (fun k => ?_) (Ev.now _), h⟩
    show spec_l23New.l0 (k + 1) a f0 f1 f2 i = _
    rw [spec_l23New.l0, if_neg (by omega)]
  | succ n ih =>
    intro i a f1 f2 hn hi ha h
    obtain ⟨b, g1, g2, hb, _, _, hc⟩ := byte_ex f0 f1 f2 h
    obtain ⟨e1, e2, he, hf⟩ := ih (i + 1) a g1 g2 (by omega) (by omega) ha hc
    refine ⟨e1, e2, Ev.step (fun k => ?_) he, hf⟩
    show spec_l23New.l0 (k + 1) a f0 f1 f2 i = _
    rw [spec_l23New.l0, if_pos (by omega), hb, Option.bind_some, w64_id (by omega) (by omega)]
theorem l23_ev (l : List Int) (a : Int) (hb : l.length ≤ 1048576) (h0 : 0 ≤ a) (h1 : a ≤ 1048576) : ∃ g1 g2, Ev (fun k => spec_l23New.f k l a) (l, g1, g2) ∧ curB l g1 := by
  obtain ⟨r, hr⟩ := new_ev l hb
  obtain ⟨g1, g2, hg, hc⟩ := l23_at l a.toNat 0 a 0 r (by omega) (by omega) h1 ⟨by omega, by omega, hb⟩
  unfold spec_l23New.f
  exact ⟨g1, g2, Ev.bind hr hg, hc⟩
theorem num_ev (l : List Int) (a : Int) (hb : l.length ≤ 1048576) (h0 : 0 ≤ a) (h1 : a ≤ 1048576) : ∃ v, Ev (fun k => spec_MakeNum.f k l a) v ∧ 0 ≤ v ∧ v ≤ 65535 := by
  obtain ⟨g1, g2, hg, hc⟩ := l23_ev l a hb h0 h1
  obtain ⟨b, c1, c2, hb1, b0, b1, hc1⟩ := byte_ex l g1 g2 hc
  obtain ⟨d, e1, e2, hd1, d0, d1, hc2⟩ := byte_ex l c1 c2 hc1
  refine ⟨b * 256 + d, ?_, by omega, by omega⟩
  unfold spec_MakeNum.f
  refine Ev.bind hg ?_
  simp only [hb1, hd1, Option.bind_some]
  rw [w64_id (show -9223372036854775808 ≤ b * 256 by omega) (by omega), w64_id (by omega) (by omega)]
  exact Ev.now _
end Go.Proofs.Ytfnllojppkjgcaa.F
end
section
/- Colours: bits; the check of a list of colours. -/
namespace Go.Proofs.Ytfnllojppkjgcaa.F
open Go.RowKit Go.Proofs.YtfnllojppkjgcaaW.PrintWords Go.Proofs.YtfnllojppkjgcaaW.PrintLast Go.Proofs.YtfnllojppkjgcaaW.PrintMore
set_option linter.unusedVariables false
set_option linter.unusedSimpArgs false
def isColor (x : Int) : Bool := decide (0 ≤ x ∧ x ≤ 1)
def colorsB (l : List Int) (most : Int) : Bool := decide ((l.length : Int) ≤ most) && l.all isColor
theorem color_pred (x : Int) : (impl_areColors_1.f x == some true) = !isColor x := by
  unfold impl_areColors_1.f isColor
  by_cases c : x = 0
  · subst c; rfl
  · by_cases d : x = 1
    · subst d; rfl
    · have e : decide (0 ≤ x ∧ x ≤ 1) = false := decide_eq_false (by omega)
      simp [c, d, e]
theorem areColors_eq (l : List Int) (most : Int) : impl_areColors.f l most = some (colorsB l most) := by
  unfold impl_areColors.f slices_ContainsFunc_Lint_int__impl_areColors_1.f colorsB
  by_cases c : (l.length : Int) ≤ most
  · simp only [if_pos c, Option.bind_some, decide_eq_true c, Bool.true_and]
    congr 1
    rw [List.all_eq_not_any_not]
    congr 2
    funext x
    exact color_pred x
  · simp only [if_neg c, decide_eq_false c, Bool.false_and]
end Go.Proofs.Ytfnllojppkjgcaa.F
end
section
/- SortPackets of the program: sorted, each list once. -/
namespace Go.Proofs.Ytfnllojppkjgcaa.F
open Go.RowKit Go.Proofs.YtfnllojppkjgcaaW.PrintWords Go.Proofs.YtfnllojppkjgcaaW.PrintLast Go.Proofs.YtfnllojppkjgcaaW.PrintMore
set_option linter.unusedVariables false
set_option linter.unusedSimpArgs false
theorem rdLLs (pre : List (List Int)) (x : List Int) (rest : List (List Int)) : rd_L1 (pre ++ x :: rest) (pre.length : Int) = x := by
  unfold rd_L1
  simp
theorem sortPk_at (rest : List (List Int)) : ∀ (pre : List (List Int)), (pre ++ rest).length < 5864062014805 → (∀ x ∈ rest, x.length < 17592186044416) →
    Ev (fun k => impl_SortPackets.l0 k pre (pre ++ rest) ((pre ++ rest).length : Int) (pre.length : Int)) (sortP (pre ++ rest)) := by
  induction rest with
  | nil =>
    intro pre hb hx
    refine Ev.step (f := fun _ => some (sortP (pre ++ []))) (fun k => ?_) (Ev.now _)
    show impl_SortPackets.l0 (k + 1) _ _ _ _ = _
    rw [List.append_nil] at hb ⊢
    rw [impl_SortPackets.l0, if_neg (by omega), if_pos (by omega)]
  | cons x rest ih =>
    intro pre hb hx
    have h := ih (pre ++ [x]) (by simpa using hb) (fun y hy => hx y (by simp [hy]))
    have hp : pre.length < 5864062014805 := by simp at hb; omega
    have hc : slices_Clone_Lint_int.f x = some x := by
      unfold slices_Clone_Lint_int.f
      rw [if_pos (hx x (by simp))]
    rw [← mid_cons, ← mid_succ pre x (by omega)] at h
    refine Ev.step (fun k => ?_) h
    show impl_SortPackets.l0 (k + 1) _ _ _ _ = _
    rw [impl_SortPackets.l0, if_pos (mid_lt _ _ _), if_pos (nn _), if_pos (mid_lt _ _ _), rdLLs, hc, Option.bind_some, if_pos hp]
theorem sortPk_ev (l : List (List Int)) (hb : l.length < 5864062014805) (hx : ∀ x ∈ l, x.length < 17592186044416) : Ev (fun k => impl_SortPackets.f k l) (sortP l) := sortPk_at l [] hb hx
end Go.Proofs.Ytfnllojppkjgcaa.F
end
section
/- Of Stack what names the program's functions alone. -/
namespace Go.Proofs.Ytfnllojppkjgcaa.F
open Go.RowKit Go.Proofs.YtfnllojppkjgcaaW.PrintWords Go.Proofs.YtfnllojppkjgcaaW.PrintLast Go.Proofs.YtfnllojppkjgcaaW.PrintMore
set_option linter.unusedVariables false
set_option linter.unusedSimpArgs false
def winFrom (c : List Int) (a : Int) : Nat → Nat → List Int
  | _, 0 => []
  | i, m + 1 => rd c (Int.tmod (a + i) (c.length : Int)) :: winFrom c a (i + 1) m
def windowL (c : List Int) (w a : Int) : List Int := winFrom c a 0 w.toNat
theorem winFrom_length (c : List Int) (a : Int) (m : Nat) : ∀ i, (winFrom c a i m).length = m := by
  induction m with
  | zero => intro i; rfl
  | succ m ih => intro i; simp [winFrom, ih]
theorem windowL_length (c : List Int) (w a : Int) (h : 0 ≤ w) : ((windowL c w a).length : Int) = w := by
  unfold windowL
  rw [winFrom_length]
  omega
theorem impl_win_at (c : List Int) (w a : Int) (hc : 0 < c.length) (hb : c.length ≤ 1048576) (h0 : 0 ≤ a) (h1 : a ≤ 1048576) (m : Nat) : ∀ (i : Nat) (out : List Int), (i : Int) + m = w → out.length + m ≤ 1048576 → i + m ≤ 1048576 →
    Ev (fun k => impl_windowAt.l0 k c w a out (i : Int)) (out ++ winFrom c a i m) := by
  induction m with
  | zero =>
    intro i out hw ho hi
    rw [show out ++ winFrom c a i 0 = out by simp [winFrom]]
    refine Ev.step (f := fun _ => some out) (fun k => ?_) (Ev.now _)
    show impl_windowAt.l0 (k + 1) _ _ _ _ _ = _
    rw [impl_windowAt.l0, if_neg (by omega)]
  | succ m ih =>
    intro i out hw ho hi
    have h := ih (i + 1) (out ++ [rd c (Int.tmod (a + i) (c.length : Int))]) (by omega) (by simp; omega) (by omega)
    have hs : wrap64 (a + (i : Int)) = a + i := w64_id (by omega) (by omega)
    have t0 : 0 ≤ Int.tmod (a + i) (c.length : Int) := Int.tmod_nonneg _ (by omega)
    have t1 : Int.tmod (a + i) (c.length : Int) < (c.length : Int) := Int.tmod_lt_of_pos _ (by omega)
    rw [show out ++ winFrom c a i (m + 1) = out ++ [rd c (Int.tmod (a + i) (c.length : Int))] ++ winFrom c a (i + 1) m by simp [winFrom]]
    refine Ev.step (fun k => ?_) h
    show impl_windowAt.l0 (k + 1) _ _ _ _ _ = _
    rw [impl_windowAt.l0, if_pos (by omega), if_neg (by omega), hs, if_pos t0, if_pos t1, if_pos (by omega), w64_nat i (by omega)]
theorem impl_win_ev (c : List Int) (w a : Int) (hc : 0 < c.length) (hb : c.length ≤ 1048576) (h0 : 0 ≤ a) (h1 : a ≤ 1048576) (w0 : 0 ≤ w) (w1 : w ≤ 1048576) : Ev (fun k => impl_windowAt.f k c w a) (windowL c w a) := by
  have h := impl_win_at c w a hc hb h0 h1 w.toNat 0 [] (by omega) (by simp; omega) (by omega)
  rw [List.nil_append] at h
  exact h
/-- The windows from place i on, n of them. -/
def winsFrom (c : List Int) (w : Int) : Nat → Nat → List (List Int)
  | _, 0 => []
  | i, n + 1 => windowL c w i :: winsFrom c w (i + 1) n
def wins (c : List Int) (w : Int) : List (List Int) := winsFrom c w 0 c.length
def stackB (c : List Int) (w : Int) : Bool := decide (1 ≤ w ∧ w ≤ 6 ∧ w ≤ (c.length : Int) ∧ (c.length : Int) ≤ 64) && (c.all isColor && decide (wins c w).Nodup)
theorem impl_wins_at (c : List Int) (w : Int) (hc : 0 < c.length) (hb : c.length ≤ 64) (w0 : 1 ≤ w) (w1 : w ≤ 6) (n : Nat) : ∀ (i : Nat) (out : List (List Int)), i + n = c.length → out.length = i → (∀ x ∈ out, (x.length : Int) = w) →
    Ev (fun k => impl_StackOk.l0 k out (c.length : Int) (i : Int) c w) (decide (out ++ winsFrom c w i n).Nodup) := by
  induction n with
  | zero =>
    intro i out hi ho hx
    have hs := sortPk_ev out (by omega) (fun x h => by have := hx x h; omega)
    refine Ev.stepb hs (fun k => by rw [impl_StackOk.l0, if_neg (by omega)]) ?_
    have e : ((sortP out).length : Int) = (out.length : Int) ↔ out.Nodup := by
      rw [← sortP_length]
      omega
    rw [show out ++ winsFrom c w i 0 = out by simp [winsFrom]]
    rw [show (((sortP out).length : Int) == (out.length : Int)) = decide out.Nodup by rw [Bool.eq_iff_iff, beq_iff_eq, decide_eq_true_eq]; exact e]
    exact Ev.now _
  | succ n ih =>
    intro i out hi ho hx
    have hw := impl_win_ev c w i hc (by omega) (by omega) (by omega) (by omega) (by omega)
    have h := ih (i + 1) (out ++ [windowL c w i]) (by omega) (by simp; omega) (by
      intro x hx2
      rcases List.mem_append.mp hx2 with h2 | h2
      · exact hx x h2
      · rw [List.mem_singleton.mp h2]; exact windowL_length c w i (by omega))
    refine Ev.stepb hw (fun k => by rw [impl_StackOk.l0, if_pos (by omega)]) ?_
    rw [show out ++ winsFrom c w i (n + 1) = out ++ [windowL c w i] ++ winsFrom c w (i + 1) n by simp [winsFrom]]
    simp only [if_pos (show out.length < 5864062014805 by omega), w64_nat i (by omega)]
    exact h
theorem impl_stack_ev (c : List Int) (w : Int) : Ev (fun k => impl_StackOk.f k c w) (stackB c w) := by
  have no : stackB c w = false → Ev (fun k => impl_StackOk.j0 k true c w) (stackB c w) := fun h => by
    rw [h]
    exact Ev.step (f := fun _ => some false) (fun k => by rw [impl_StackOk.j0, if_pos rfl]) (Ev.now _)
  unfold impl_StackOk.f
  by_cases h1 : w < 1
  · simp only [if_pos h1]
    exact no (by unfold stackB; rw [decide_eq_false (by omega), Bool.false_and])
  · by_cases h2 : w > 6
    · simp only [if_neg h1, if_pos h2]
      exact no (by unfold stackB; rw [decide_eq_false (by omega), Bool.false_and])
    · by_cases h3 : (c.length : Int) < w
      · simp only [if_neg h1, if_neg h2, if_pos h3]
        exact no (by unfold stackB; rw [decide_eq_false (by omega), Bool.false_and])
      · simp only [if_neg h1, if_neg h2, if_neg h3, areColors_eq, Option.bind_some]
        by_cases h4 : colorsB c 64 = true
        · have h5 : (c.length : Int) ≤ 64 ∧ c.all isColor = true := by unfold colorsB at h4; simpa using h4
          have h6 : stackB c w = decide (wins c w).Nodup := by unfold stackB; rw [decide_eq_true (by omega), h5.2, Bool.true_and, Bool.true_and]
          rw [h4, h6]
          have h := impl_wins_at c w (by omega) (by omega) (by omega) (by omega) c.length 0 [] (by omega) rfl (by simp)
          refine Ev.step (fun k => ?_) h
          show impl_StackOk.j0 (k + 1) _ _ _ = _
          rw [impl_StackOk.j0, if_neg (by simp)]
          rfl
        · have h4' : colorsB c 64 = false := by simpa using h4
          rw [h4']
          refine no ?_
          unfold colorsB at h4'
          unfold stackB
          by_cases h5 : (c.length : Int) ≤ 64
          · have : c.all isColor = false := by simpa [h5] using h4'
            rw [this, Bool.false_and, Bool.and_false]
          · rw [decide_eq_false (by omega), Bool.false_and]
end Go.Proofs.Ytfnllojppkjgcaa.F
end
section
/- Of Taps what names the program's functions alone. -/
namespace Go.Proofs.Ytfnllojppkjgcaa.F
open Go.RowKit Go.Proofs.YtfnllojppkjgcaaW.PrintWords Go.Proofs.YtfnllojppkjgcaaW.PrintLast Go.Proofs.YtfnllojppkjgcaaW.PrintMore
set_option linter.unusedVariables false
set_option linter.unusedSimpArgs false
def ascB : Int → List Int → Bool
  | _, [] => true
  | p, x :: xs => decide (p < x) && ascB x xs
def lastB (l : List Int) (w : Int) : Bool := decide ((l.length : Int) > 0) && (rd l ((l.length : Int) - 1) == w)
def prevOf (l : List Int) : Int := if l = [] then 0 else rd l ((l.length : Int) - 1)
def ascW (w : Int) : Int → List Int → Bool
  | _, [] => true
  | p, x :: xs => decide (p < x ∧ x ≤ w) && ascW w x xs
theorem ascB_last (xs : List Int) : ∀ (p : Int), ascB p xs = true → p ≤ prevOf (p :: xs) ∧ ∀ y ∈ xs, y ≤ prevOf (p :: xs) := by
  induction xs with
  | nil => intro p h; exact ⟨by simp [prevOf, rd], by simp⟩
  | cons x xs ih =>
    intro p h
    simp only [ascB, Bool.and_eq_true, decide_eq_true_eq] at h
    have e : prevOf (p :: x :: xs) = prevOf (x :: xs) := by
      unfold prevOf
      rw [if_neg (by simp), if_neg (by simp)]
      have e1 : (((p :: x :: xs).length : Nat) : Int) - 1 = (((x :: xs).length : Nat) : Int) := by simp
      rw [e1]
      unfold rd
      rw [show ((((x :: xs).length : Nat) : Int) - 1).toNat = xs.length by simp]
      simp
    rw [e]
    obtain ⟨h1, h2⟩ := ih x h.2
    refine ⟨by omega, ?_⟩
    intro y hy
    rcases List.mem_cons.mp hy with rfl | hy
    · exact h1
    · exact h2 y hy
theorem ascW_eq (w : Int) (xs : List Int) : ∀ p, (∀ y ∈ xs, y ≤ w) → ascW w p xs = ascB p xs := by
  induction xs with
  | nil => intro p h; rfl
  | cons x xs ih =>
    intro p h
    have hx := h x (by simp)
    simp [ascW, ascB, hx, ih x (fun y hy => h y (by simp [hy]))]
theorem ascW_last (l : List Int) (w : Int) (h : lastB l w = true) (hw : 0 ≤ w) : ascW w 0 l = ascB 0 l := by
  unfold lastB at h
  simp only [Bool.and_eq_true, decide_eq_true_eq, beq_iff_eq] at h
  have hn : l ≠ [] := by
    intro hn
    subst hn
    exact absurd h.1 (by simp)
  by_cases ha : ascB 0 l = true
  · refine ascW_eq w l 0 ?_
    intro y hy
    have e : prevOf (0 :: l) = w := by
      unfold prevOf
      rw [if_neg (by simp), ← h.2]
      have e1 : (((0 :: l : List Int).length : Nat) : Int) - 1 = ((l.length : Nat) : Int) := by simp
      rw [e1]
      unfold rd
      obtain ⟨m, hm⟩ : ∃ m, l.length = m + 1 := ⟨l.length - 1, by omega⟩
      rw [hm, show (((m + 1 : Nat) : Int) - 1).toNat = m by omega]
      simp
    rw [← e]
    exact (ascB_last l 0 ha).2 y hy
  · have aux : ∀ (xs : List Int) (p : Int), ascW w p xs = true → ascB p xs = true := by
      intro xs
      induction xs with
      | nil => intro p h; rfl
      | cons x xs ih =>
        intro p h
        simp only [ascW, ascB, Bool.and_eq_true, decide_eq_true_eq] at h ⊢
        exact ⟨h.1.1, ih x h.2⟩
    cases hW : ascW w 0 l
    · simpa using ha
    · exact absurd (aux l 0 hW) ha
/-- All ascending lists of the n numbers from a on. -/
def ascs : Nat → Int → List (List Int)
  | 0, _ => [[]]
  | n + 1, a => ascs n (a + 1) ++ (ascs n (a + 1)).map (a :: ·)
theorem ascs_mem (n : Nat) : ∀ (a : Int) (l : List Int), ascB (a - 1) l = true → (∀ y ∈ l, y < a + n) → l ∈ ascs n a := by
  induction n with
  | zero =>
    intro a l h hl
    cases l with
    | nil => simp [ascs]
    | cons x xs =>
      have := hl x (by simp)
      simp only [ascB, Bool.and_eq_true, decide_eq_true_eq] at h
      omega
  | succ n ih =>
    intro a l h hl
    unfold ascs
    rw [List.mem_append]
    cases l with
    | nil => exact Or.inl (ih (a + 1) [] rfl (by simp))
    | cons x xs =>
      simp only [ascB, Bool.and_eq_true, decide_eq_true_eq] at h
      by_cases hx : x = a
      · subst hx
        refine Or.inr (List.mem_map.mpr ⟨xs, ih (x + 1) xs (by rw [show x + 1 - 1 = x by omega]; exact h.2) (fun y hy => by have := hl y (by simp [hy]); omega), rfl⟩)
      · refine Or.inl (ih (a + 1) (x :: xs) ?_ (fun y hy => by have := hl y hy; omega))
        simp only [ascB, Bool.and_eq_true, decide_eq_true_eq]
        exact ⟨by omega, h.2⟩
theorem taps_mem (t : List Int) (w : Nat) (h1 : ascB 0 t = true) (h2 : lastB t (w : Int) = true) : t ∈ ascs w 1 := by
  refine ascs_mem w 1 t h1 ?_
  have h := h1
  rw [← ascW_last t w h2 (by omega)] at h
  have aux : ∀ (xs : List Int) (p : Int), ascW (w : Int) p xs = true → ∀ y ∈ xs, y ≤ w := by
    intro xs
    induction xs with
    | nil => intro p h y hy; simp at hy
    | cons x xs ih =>
      intro p h y hy
      simp only [ascW, Bool.and_eq_true, decide_eq_true_eq] at h
      rcases List.mem_cons.mp hy with rfl | hy
      · exact h.1.2
      · exact ih x h.2 y hy
  intro y hy
  have := aux t 0 h y hy
  omega
end Go.Proofs.Ytfnllojppkjgcaa.F
end
section
/- For each length of window: the greedy word is a stack of full length; for each set of taps the register's stack is as long as possible exactly if the taps are maximal. All of it is finite. -/
namespace Go.Proofs.Ytfnllojppkjgcaa.Pure
open Go.RowKit Go.Proofs.Ytfnllojppkjgcaa.F Go.Proofs.YtfnllojppkjgcaaW.PrintWords Go.Proofs.YtfnllojppkjgcaaW.PrintLast Go.Proofs.YtfnllojppkjgcaaW.PrintMore
set_option linter.unusedVariables false
set_option linter.unusedSimpArgs false
def regC (n : Nat) : Bool := match impl_DeBruijn.f 300 (n : Int) with
  | some (d, m, true) => decide (m = (n : Int)) && (stackB d m && decide ((d.length : Int) = shl .i64 1 (n : Int)))
  | _ => false
def regA (n : Nat) (t : List Int) : Bool := match impl_ShiftStack.f 1000 t ((List.replicate n 0).set (n - 1) 1) with
  | some (x, m, true) => match impl_IsMaximal.f 1000 t (n : Int) with
    | some b => !decide ((x.length : Int) < 1) && (!decide ((x.length : Int) > wrap64 (shl .i64 1 (n : Int) - 1)) && (decide (m = (n : Int)) && ((!decide ((x.length : Int) ≥ (n : Int)) || stackB x m) && (b == ((x.length : Int) == wrap64 (shl .i64 1 (n : Int) - 1))))))
    | none => false
  | _ => false
def regT (n : Nat) : Bool := regC n && (ascs n 1).all fun t => !lastB t (n : Int) || regA n t
set_option maxHeartbeats 40000000 in
theorem reg_1 : regT 1 = true := by decide +kernel
set_option maxHeartbeats 40000000 in
theorem reg_2 : regT 2 = true := by decide +kernel
set_option maxHeartbeats 40000000 in
theorem reg_3 : regT 3 = true := by decide +kernel
set_option maxHeartbeats 40000000 in
theorem reg_4 : regT 4 = true := by decide +kernel
set_option maxHeartbeats 40000000 in
theorem reg_5 : regT 5 = true := by decide +kernel
set_option maxHeartbeats 40000000 in
theorem reg_6 : regT 6 = true := by decide +kernel
theorem reg_all (n : Nat) (h1 : 1 ≤ n) (h6 : n ≤ 6) : regC n = true ∧ ∀ t ∈ ascs n 1, lastB t (n : Int) = true → regA n t = true := by
  have h : regT n = true := by
    match n, h1, h6 with
    | 1, _, _ => exact reg_1
    | 2, _, _ => exact reg_2
    | 3, _, _ => exact reg_3
    | 4, _, _ => exact reg_4
    | 5, _, _ => exact reg_5
    | 6, _, _ => exact reg_6
  unfold regT at h
  rw [Bool.and_eq_true, List.all_eq_true] at h
  refine ⟨h.1, fun t ht hl => ?_⟩
  have := h.2 t ht
  rw [hl] at this
  simpa using this
theorem ascB_snoc (l : List Int) : ∀ (p t : Int), ascB p l = true → p < t → (∀ x ∈ l, x < t) → ascB p (l ++ [t]) = true := by
  induction l with
  | nil => intro p t _ h _; simp [ascB, h]
  | cons x xs ih =>
    intro p t h1 h2 h3
    rw [ascB, Bool.and_eq_true] at h1
    rw [List.cons_append, ascB, h1.1, Bool.true_and]
    exact ih x t h1.2 (h3 x (by simp)) (fun y hy => h3 y (by simp [hy]))
theorem lastB_snoc (l : List Int) (t : Int) : lastB (l ++ [t]) t = true := by
  unfold lastB
  have e : rd (l ++ [t]) (((l ++ [t]).length : Int) - 1) = t := by
    rw [show (((l ++ [t]).length : Nat) : Int) - 1 = (l.length : Int) by simp]
    exact mid_rd l t []
  rw [e]
  simp
theorem reg_end (c : List Int) (n : Nat) (h1 : 1 ≤ n) (h6 : n ≤ 6) (t : List Int) (ht : regA n t = true) : Ev (fun k => laws_FnRegisters.l0 k c (n : Int) t ((n : Int) + 1)) true := by
  unfold regA at ht
  split at ht
  · rename_i x m hS
    split at ht
    · rename_i b hM
      simp only [Bool.and_eq_true, Bool.not_eq_true', decide_eq_false_iff_not, decide_eq_true_eq, beq_iff_eq, Bool.or_eq_true] at ht
      obtain ⟨g1, g2, rfl, g4, rfl⟩ := ht
      have hw : wrap64 ((n : Int) - 1) = ((n - 1 : Nat) : Int) := by
        rw [w64_id (by omega) (by omega)]
        omega
      have eS := Ev.of (impl_ShiftStack.mono _ _) hS
      have eM := Ev.of (impl_IsMaximal.mono _ _) hM
      have eK := impl_stack_ev x (n : Int)
      refine Ev.succ ?_
      simp only [laws_FnRegisters.l0, if_neg (show ¬ (n : Int) + 1 ≤ (n : Int) by omega), if_pos (show (0 : Int) ≤ (n : Int) by omega), Int.toNat_natCast, if_pos (show n ≤ 35184372088832 by omega), Option.bind_some, hw, List.length_replicate, if_pos (show (0 : Int) ≤ ((n - 1 : Nat) : Int) by omega), if_pos (show ((n - 1 : Nat) : Int) < (n : Int) by omega)]
      refine Ev.bind eS ?_
      simp only [if_true, if_neg g1, if_neg g2]
      by_cases hl : (x.length : Int) ≥ (n : Int)
      · rcases g4 with g4 | g4
        · exact absurd hl (by simpa using g4)
        · rw [g4] at eK
          simp only [if_pos hl]
          refine Ev.bind eK ?_
          simp only [if_true]
          refine Ev.bind eM ?_
          simp only [beq_self_eq_true]
          exact Ev.now _
      · simp only [if_neg hl]
        refine Ev.bind eM ?_
        simp only [beq_self_eq_true]
        exact Ev.now _
    · cases ht
  · cases ht
theorem reg_loop (c : List Int) (hc : c.length ≤ 1048576) (n : Nat) (h1 : 1 ≤ n) (h6 : n ≤ 6) (hall : ∀ t ∈ ascs n 1, lastB t (n : Int) = true → regA n t = true) (m : Nat) : ∀ (t : Nat) (l : List Int), t + m = n → 1 ≤ t → l.length + 1 ≤ t → ascB 0 l = true → (∀ x ∈ l, x < (t : Int)) →
    Ev (fun k => laws_FnRegisters.l0 k c (n : Int) l (t : Int)) true := by
  induction m with
  | zero =>
    intro t l htm ht hl ha hx
    obtain rfl : t = n := by omega
    have e := reg_end c t h1 h6 (l ++ [(t : Int)]) (hall _ (taps_mem _ t (ascB_snoc l 0 t ha (by omega) hx) (lastB_snoc l t)) (lastB_snoc l t))
    refine Ev.step (fun k => ?_) e
    show laws_FnRegisters.l0 (k + 1) c (t : Int) l (t : Int) = _
    rw [laws_FnRegisters.l0, if_pos (by omega), if_pos rfl, if_pos (by omega), w64_id (show -9223372036854775808 ≤ (t : Int) + 1 by omega) (by omega)]
  | succ m ih =>
    intro t l htm ht hl ha hx
    obtain ⟨v, hv, v0, v1⟩ := num_ev c (10 + (t : Int)) hc (by omega) (by omega)
    have hw : wrap64 ((t : Int) + 1) = ((t + 1 : Nat) : Int) := by rw [w64_id (by omega) (by omega)]; omega
    have hw2 : wrap64 (10 + (t : Int)) = 10 + (t : Int) := w64_id (by omega) (by omega)
    refine Ev.stepb hv (fun k => by show laws_FnRegisters.l0 (k + 1) c (n : Int) l (t : Int) = _; rw [laws_FnRegisters.l0, if_pos (by omega), if_neg (by omega), hw2, hw]) ?_
    by_cases hm : Int.tmod v 2 = 1
    · simp only [if_pos hm, if_pos (show l.length < 17592186044416 by omega)]
      exact ih (t + 1) (l ++ [(t : Int)]) (by omega) (by omega) (by simp; omega) (ascB_snoc l 0 t ha (by omega) hx) (fun x hx' => by
        rcases List.mem_append.1 hx' with h | h
        · have := hx x h
          omega
        · simp at h
          omega)
    · simp only [if_neg hm]
      exact ih (t + 1) l (by omega) (by omega) (by omega) ha (fun x hx' => by have := hx x hx'; omega)
theorem FnRegisters : laws_FnRegisters.Pure := by
  intro c _ _ _
  by_cases hbig : (c.length : Int) > 1048576
  · exact ⟨0, by unfold laws_FnRegisters.f; rw [if_pos hbig]⟩
  · have hb : c.length ≤ 1048576 := by omega
    obtain ⟨v, hv, v0, v1⟩ := num_ev c 1 hb (by omega) (by omega)
    obtain ⟨n, h1, h6, hn⟩ : ∃ n : Nat, 1 ≤ n ∧ n ≤ 6 ∧ wrap64 (1 + Int.tmod v 6) = (n : Int) := by
      refine ⟨(1 + Int.tmod v 6).toNat, ?_, ?_, ?_⟩ <;> rw [Int.tmod_eq_emod_of_nonneg v0]
      · omega
      · omega
      · rw [w64_id (by omega) (by omega)]; omega
    obtain ⟨hC, hA⟩ := reg_all n h1 h6
    unfold regC at hC
    split at hC
    · rename_i d m hD
      simp only [Bool.and_eq_true, decide_eq_true_eq] at hC
      obtain ⟨rfl, g2, g3⟩ := hC
      have eD := Ev.of (impl_DeBruijn.mono _) hD
      have eK := impl_stack_ev d (n : Int)
      rw [g2] at eK
      have eL := reg_loop c hb n h1 h6 hA (n - 1) 1 [] (by omega) (by omega) (by simp) rfl (by simp)
      have main : Ev (fun k => laws_FnRegisters.f k c) true := by
        unfold laws_FnRegisters.f
        simp only [if_neg hbig]
        refine Ev.bind hv ?_
        simp only [hn]
        refine Ev.bind eD ?_
        simp only [if_true]
        refine Ev.bind eK ?_
        simp only [if_true, if_pos (show (0 : Int) ≤ (n : Int) by omega), if_pos g3, bne_self_eq_false]
        refine Ev.succ ?_
        simp only [laws_FnRegisters.j0, Bool.false_eq_true, if_false]
        exact eL
      exact main.imp fun K hK => hK K (Nat.le_refl _)
    · cases hC
end Go.Proofs.Ytfnllojppkjgcaa.Pure
end
