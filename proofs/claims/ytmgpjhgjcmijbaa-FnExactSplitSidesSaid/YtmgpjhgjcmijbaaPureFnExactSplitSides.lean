/- SplitSides: both functions answer the same at every list. -/
import Derived.Test.YtmgpjhgjcmijbaaF34
import Derived.Test.YtmgpjhgjcmijbaaF37
import Derived.Test.YtmgpjhgjcmijbaaF38
import Derived.Test.YtmgpjhgjcmijbaaGLaws
import Derived.Test.YtmgpjhgjcmijbaaGCards
import Derived.Test.YtmgpjhgjcmijbaaM
namespace Go.Proofs.Ytmgpjhgjcmijbaa.Pure
open Go.RowKit Go.Proofs.Ytmgpjhgjcmijbaa.F Go.Proofs.YtmgpjhgjcmijbaaW.PrintWords Go.Proofs.YtmgpjhgjcmijbaaW.PrintLast Go.Proofs.YtmgpjhgjcmijbaaW.PrintMore
set_option linter.unusedVariables false
set_option linter.unusedSimpArgs false
def splitGo : List Int → List Int × List Int
  | [] => ([], [])
  | x :: xs => if isUp x = true then (cardOf x :: (splitGo xs).1, (splitGo xs).2) else if 0 ≤ cardOf x then ((splitGo xs).1, cardOf x :: (splitGo xs).2) else splitGo xs
theorem up_card {x : Int} (h : isUp x = true) : 0 ≤ cardOf x := by
  unfold isUp at h
  unfold cardOf
  have := of_decide_eq_true h
  rw [if_neg (by omega), if_pos this]
  omega
theorem down_card {x : Int} (h : ¬ isUp x = true) (k : 0 ≤ cardOf x) : cardOf x = x := by
  unfold isUp at h
  unfold cardOf at k ⊢
  by_cases c : 0 ≤ x ∧ x ≤ 11
  · rw [if_pos c]
  · rw [if_neg c] at k ⊢
    by_cases d : -12 ≤ x ∧ x ≤ -1
    · exact absurd (decide_eq_true d) h
    · rw [if_neg d] at k; omega
theorem split_len (l : List Int) : (splitGo l).1.length ≤ l.length ∧ (splitGo l).2.length ≤ l.length := by
  induction l with
  | nil => simp [splitGo]
  | cons x l ih =>
    unfold splitGo
    repeat' split
    all_goals simp; omega
theorem spec_at (rest : List Int) : ∀ (pre u d : List Int), (pre ++ rest).length ≤ 1048576 → u.length ≤ pre.length → d.length ≤ pre.length →
    Ev (fun k => spec_SplitSides.l0 k u d (pre ++ rest) ((pre ++ rest).length : Int) (pre.length : Int)) (u ++ (splitGo rest).1, d ++ (splitGo rest).2) := by
  induction rest with
  | nil =>
    intro pre u d hb hu hd
    refine Ev.step (f := fun _ => some (u, d)) (fun k => by rw [spec_SplitSides.l0, if_neg (mid_nlt _)]) ?_
    simpa [splitGo] using Ev.now _
  | cons x rest ih =>
    intro pre u d hb hu hd
    have hlu : u.length < 17592186044416 := by simp at hb; omega
    have hld : d.length < 17592186044416 := by simp at hb; omega
    have hs := mid_succ pre x (by simp at hb; omega)
    unfold splitGo
    by_cases c : isUp x = true
    · have h := ih (pre ++ [x]) (u ++ [cardOf x]) d (by simpa using hb) (by simp; omega) (by simp; omega)
      rw [← mid_cons] at h
      rw [if_pos c]
      rw [show u ++ (cardOf x :: (splitGo rest).1, (splitGo rest).2).1 = u ++ [cardOf x] ++ (splitGo rest).1 by simp]
      exact Ev.step (fun k => by rw [spec_SplitSides.l0, if_pos (mid_lt _ _ _), if_pos (nn _), if_pos (mid_lt _ _ _), mid_rd, spec_IsUp_eq, spec_CardOf_eq]; simp only [Option.bind_some]; rw [if_pos c, if_pos hlu, hs]) h
    · rw [if_neg c]
      by_cases e : 0 ≤ cardOf x
      · have h := ih (pre ++ [x]) u (d ++ [x]) (by simpa using hb) (by simp; omega) (by simp; omega)
        rw [← mid_cons] at h
        rw [if_pos e]
        rw [show d ++ ((splitGo rest).1, cardOf x :: (splitGo rest).2).2 = d ++ [x] ++ (splitGo rest).2 by simp [down_card c e]]
        exact Ev.step (fun k => by rw [spec_SplitSides.l0, if_pos (mid_lt _ _ _), if_pos (nn _), if_pos (mid_lt _ _ _), mid_rd, spec_IsUp_eq, spec_CardOf_eq]; simp only [Option.bind_some]; rw [if_neg c, if_pos e, if_pos hld, hs]) h
      · have h := ih (pre ++ [x]) u d (by simpa using hb) (by simp; omega) (by simp; omega)
        rw [← mid_cons] at h
        rw [if_neg e]
        exact Ev.step (fun k => by rw [spec_SplitSides.l0, if_pos (mid_lt _ _ _), if_pos (nn _), if_pos (mid_lt _ _ _), mid_rd, spec_IsUp_eq, spec_CardOf_eq]; simp only [Option.bind_some]; rw [if_neg c, if_neg e, hs]) h
theorem impl_at (rest : List Int) : ∀ (pre u d : List Int), (pre ++ rest).length ≤ 1048576 → (∀ x ∈ rest, -9223372036854775808 ≤ x) → u.length ≤ pre.length → d.length ≤ pre.length →
    Ev (fun k => impl_SplitSides.l0 k u d (pre ++ rest) ((pre ++ rest).length : Int) (pre.length : Int)) (u ++ (splitGo rest).1, d ++ (splitGo rest).2) := by
  induction rest with
  | nil =>
    intro pre u d hb hw hu hd
    refine Ev.step (f := fun _ => some (u, d)) (fun k => by rw [impl_SplitSides.l0, if_neg (mid_nlt _)]) ?_
    simpa [splitGo] using Ev.now _
  | cons x rest ih =>
    intro pre u d hb hw hu hd
    have hx := hw x (by simp)
    have hw' : ∀ y ∈ rest, -9223372036854775808 ≤ y := fun y hy => hw y (by simp [hy])
    have hlu : u.length < 17592186044416 := by simp at hb; omega
    have hld : d.length < 17592186044416 := by simp at hb; omega
    have hs := mid_succ pre x (by simp at hb; omega)
    unfold splitGo
    by_cases c : isUp x = true
    · have h := ih (pre ++ [x]) (u ++ [cardOf x]) d (by simpa using hb) hw' (by simp; omega) (by simp; omega)
      rw [← mid_cons] at h
      rw [if_pos c]
      rw [show u ++ (cardOf x :: (splitGo rest).1, (splitGo rest).2).1 = u ++ [cardOf x] ++ (splitGo rest).1 by simp]
      have := up_card c
      exact Ev.step (fun k => by rw [impl_SplitSides.l0, if_pos (mid_lt _ _ _), if_pos (nn _), if_pos (mid_lt _ _ _), mid_rd, impl_IsUp_eq x hx, impl_CardOf_eq x hx]; simp only [Option.bind_some]; rw [if_neg (by omega), if_pos c, if_pos hlu, hs]) h
    · rw [if_neg c]
      by_cases e : 0 ≤ cardOf x
      · have h := ih (pre ++ [x]) u (d ++ [cardOf x]) (by simpa using hb) hw' (by simp; omega) (by simp; omega)
        rw [← mid_cons] at h
        rw [if_pos e]
        rw [show d ++ ((splitGo rest).1, cardOf x :: (splitGo rest).2).2 = d ++ [cardOf x] ++ (splitGo rest).2 by simp]
        exact Ev.step (fun k => by rw [impl_SplitSides.l0, if_pos (mid_lt _ _ _), if_pos (nn _), if_pos (mid_lt _ _ _), mid_rd, impl_IsUp_eq x hx, impl_CardOf_eq x hx]; simp only [Option.bind_some]; rw [if_neg (by omega), if_neg c, if_pos hld, hs]) h
      · have h := ih (pre ++ [x]) u d (by simpa using hb) hw' (by simp; omega) (by simp; omega)
        rw [← mid_cons] at h
        rw [if_neg e]
        exact Ev.step (fun k => by rw [impl_SplitSides.l0, if_pos (mid_lt _ _ _), if_pos (nn _), if_pos (mid_lt _ _ _), mid_rd, impl_CardOf_eq x hx]; simp only [Option.bind_some]; rw [if_pos (by omega), hs]) h
theorem FnExactSplitSides : laws_FnExactSplitSides.Pure := by
  intro l _ _ hw
  refine Ev.rounds (g := fun k => laws_FnExactSplitSides.f k l) ?_
  unfold laws_FnExactSplitSides.f
  by_cases h : (l.length : Int) > 1048576
  · simp only [if_pos h]
    exact Ev.now _
  · simp only [if_neg h]
    have ht := toIntS_ev l (by omega)
    have hs : Ev (fun k => spec_SplitSides.f k l) (splitGo l) := spec_at l [] [] [] (by simp; omega) (by simp) (by simp)
    have hi : Ev (fun k => impl_SplitSides.f k l) (splitGo l) := impl_at l [] [] [] (by simp; omega) (fun x hx => (wf64 (hw x hx)).1) (by simp) (by simp)
    obtain ⟨l1, l2⟩ := split_len l
    have q1 := eqIntS_same (splitGo l).1 (by omega)
    have q2 := eqIntS_same (splitGo l).2 (by omega)
    refine Ev.bind ht (Ev.bind hs (Ev.bind ht (Ev.bind hi (Ev.bind q1 ?_))))
    simp only [if_true]
    refine Ev.bind q2 (Ev.succ ?_)
    simp only [laws_FnExactSplitSides.j0, Bool.not_true, Bool.false_eq_true, if_false]
    refine Ev.bind ht (Ev.bind (eqIntS_same l (by omega)) ?_)
    simp only [if_true]
    refine Ev.bind (markIntS_ev l 1 (by omega) (by omega) (by omega)) ?_
    simp only [if_neg (show ¬ (1 + (l.length : Int) < 0) by omega)]
    refine Ev.bind q1 ?_
    simp only [if_true]
    refine Ev.bind q2 (Ev.succ ?_)
    simp only [laws_FnExactSplitSides.j1, Bool.not_true, Bool.false_eq_true, if_false]
    have m1 := markIntS_ev (splitGo l).1 1 (by omega) (by omega) (by omega)
    have m2 := markIntS_ev (splitGo l).2 (1 + (splitGo l).1.length) (by omega) (by omega) (by omega)
    have g1 := heldIntS_ev (splitGo l).1.length 1 (by omega) (by omega) (by omega)
    have g2 := heldIntS_ev (splitGo l).2.length (1 + (splitGo l).1.length) (by omega) (by omega) (by omega)
    have n1 : ¬ (1 + ((splitGo l).1.length : Int) < 0) := by omega
    have n2 : ¬ (1 + ((splitGo l).1.length : Int) + ((splitGo l).2.length : Int) < 0) := by omega
    refine Ev.bind m1 (Ev.bind m2 (Ev.bind g1 ?_))
    simp only [if_neg n1]
    refine Ev.bind g2 ?_
    simp only [if_neg n2, if_true]
    refine Ev.bind ht (Ev.bind hi (Ev.bind q1 ?_))
    simp only [if_true]
    refine Ev.bind q2 (Ev.succ ?_)
    simp only [laws_FnExactSplitSides.j2, Bool.not_true, Bool.false_eq_true, if_false]
    refine Ev.bind g1 ?_
    simp only [if_neg n1]
    refine Ev.bind g2 ?_
    simp only [if_neg n2, if_true]
    exact Ev.now _
end Go.Proofs.Ytmgpjhgjcmijbaa.Pure
