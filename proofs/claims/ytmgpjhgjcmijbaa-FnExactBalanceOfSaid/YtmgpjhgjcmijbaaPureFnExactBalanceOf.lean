/- BalanceOf: both functions answer the same at every list. -/
import Derived.Test.YtmgpjhgjcmijbaaF63
import Derived.Test.YtmgpjhgjcmijbaaF64
import Derived.Test.YtmgpjhgjcmijbaaF66
import Derived.Test.YtmgpjhgjcmijbaaF67
import Derived.Test.YtmgpjhgjcmijbaaGLaws
import Derived.Test.YtmgpjhgjcmijbaaGCards
import Derived.Test.YtmgpjhgjcmijbaaM
namespace Go.Proofs.Ytmgpjhgjcmijbaa.Pure
open Go.RowKit Go.Proofs.Ytmgpjhgjcmijbaa.F Go.Proofs.YtmgpjhgjcmijbaaW.PrintWords Go.Proofs.YtmgpjhgjcmijbaaW.PrintLast Go.Proofs.YtmgpjhgjcmijbaaW.PrintMore
set_option linter.unusedVariables false
set_option linter.unusedSimpArgs false
def balGo : Nat → List Int → Int → Int
  | _, [], n => n
  | i, x :: xs, n => balGo (i + 1) xs (if (isUp x == (Int.tmod (i : Int) 2 == 0)) = true then wrap64 (n + 1) else n)
theorem spec_at (rest : List Int) : ∀ (pre : List Int) (n : Int), (pre ++ rest).length ≤ 4611686018427387904 →
    Ev (fun k => spec_l10Balance.l0 k n (pre ++ rest) ((pre ++ rest).length : Int) (pre.length : Int)) (balGo pre.length rest n) := by
  induction rest with
  | nil =>
    intro pre n hb
    exact Ev.step (f := fun _ => some n) (fun k => by rw [spec_l10Balance.l0, if_neg (mid_nlt _)]) (Ev.now _)
  | cons x rest ih =>
    intro pre n hb
    have hs := mid_succ pre x (by simp at hb; omega)
    unfold balGo
    have h := ih (pre ++ [x]) (if (isUp x == (Int.tmod (pre.length : Int) 2 == 0)) = true then wrap64 (n + 1) else n) (by simpa using hb)
    rw [← mid_cons, show (pre ++ [x]).length = pre.length + 1 by simp] at h
    rw [show (pre ++ [x]).length = pre.length + 1 by simp] at hs
    by_cases c : (isUp x == (Int.tmod (pre.length : Int) 2 == 0)) = true
    · rw [if_pos c] at h ⊢
      exact Ev.step (fun k => by rw [spec_l10Balance.l0, if_pos (mid_lt _ _ _), if_pos (nn _), if_pos (mid_lt _ _ _), mid_rd, spec_IsUp_eq]; simp only [Option.bind_some]; rw [if_pos c, hs]) h
    · rw [if_neg c] at h ⊢
      exact Ev.step (fun k => by rw [spec_l10Balance.l0, if_pos (mid_lt _ _ _), if_pos (nn _), if_pos (mid_lt _ _ _), mid_rd, spec_IsUp_eq]; simp only [Option.bind_some]; rw [if_neg c, hs]) h
theorem impl_at (rest : List Int) : ∀ (pre : List Int) (n : Int), (pre ++ rest).length ≤ 4611686018427387904 → (∀ x ∈ rest, -9223372036854775808 ≤ x) →
    Ev (fun k => impl_BalanceOf.l0 k n (pre ++ rest) ((pre ++ rest).length : Int) (pre.length : Int)) (balGo pre.length rest n, true) := by
  induction rest with
  | nil =>
    intro pre n hb hw
    exact Ev.step (f := fun _ => some (n, true)) (fun k => by rw [impl_BalanceOf.l0, if_neg (mid_nlt _)]) (Ev.now _)
  | cons x rest ih =>
    intro pre n hb hw
    have hx := hw x (by simp)
    have hs := mid_succ pre x (by simp at hb; omega)
    unfold balGo
    have h := ih (pre ++ [x]) (if (isUp x == (Int.tmod (pre.length : Int) 2 == 0)) = true then wrap64 (n + 1) else n) (by simpa using hb) (fun y hy => hw y (by simp [hy]))
    rw [← mid_cons, show (pre ++ [x]).length = pre.length + 1 by simp] at h
    rw [show (pre ++ [x]).length = pre.length + 1 by simp] at hs
    by_cases c : (isUp x == (Int.tmod (pre.length : Int) 2 == 0)) = true
    · rw [if_pos c] at h ⊢
      exact Ev.step (fun k => by rw [impl_BalanceOf.l0, if_pos (mid_lt _ _ _), if_pos (nn _), if_pos (mid_lt _ _ _), mid_rd, impl_IsUp_eq x hx]; simp only [Option.bind_some]; rw [if_pos c, hs]) h
    · rw [if_neg c] at h ⊢
      exact Ev.step (fun k => by rw [impl_BalanceOf.l0, if_pos (mid_lt _ _ _), if_pos (nn _), if_pos (mid_lt _ _ _), mid_rd, impl_IsUp_eq x hx]; simp only [Option.bind_some]; rw [if_neg c, hs]) h
def balanceOf (l : List Int) : Int × Bool := if packetB l = true ∧ (l.length : Int) % 2 = 0 then (balGo 0 l 0, true) else (0, false)
theorem spec_ev (l : List Int) (hb : l.length ≤ 4611686018427387904) : Ev (fun k => spec_BalanceOf.f k l) (balanceOf l) := by
  unfold spec_BalanceOf.f balanceOf
  refine Ev.bind (spec_PacketOk_ev l) ?_
  by_cases p : packetB l = true
  · by_cases e : (l.length : Int) % 2 = 0
    · simp only [p, e, if_true, true_and]
      refine Ev.bind (spec_at l [] 0 hb) ?_
      exact Ev.now _
    · simp only [p, e, if_true, if_false, true_and]
      exact Ev.now _
  · simp only [p, if_false, false_and]
    exact Ev.now _
theorem impl_ev (l : List Int) (hb : l.length ≤ 4611686018427387904) (hw : ∀ x ∈ l, -9223372036854775808 ≤ x) : Ev (fun k => impl_BalanceOf.f k l) (balanceOf l) := by
  unfold impl_BalanceOf.f balanceOf
  refine Ev.bind (impl_PacketOk_ev l hb hw) ?_
  by_cases p : packetB l = true
  · by_cases e : (l.length : Int) % 2 = 0
    · simp only [p, e, if_true, true_and]
      refine Ev.succ ?_
      simp only [impl_BalanceOf.j0, bne_self_eq_false, Bool.false_eq_true, if_false]
      exact impl_at l [] 0 hb hw
    · have e' : ((l.length : Int) % 2 != 0) = true := by simpa using e
      simp only [p, e, e', if_true, if_false, true_and]
      refine Ev.succ ?_
      simp only [impl_BalanceOf.j0, if_true]
      exact Ev.now _
  · simp only [p, if_false, false_and]
    refine Ev.succ ?_
    simp only [impl_BalanceOf.j0, if_true]
    exact Ev.now _
theorem FnExactBalanceOf : laws_FnExactBalanceOf.Pure := by
  intro l _ _ hw
  refine Ev.rounds (g := fun k => laws_FnExactBalanceOf.f k l) ?_
  unfold laws_FnExactBalanceOf.f
  by_cases h : (l.length : Int) > 1048576
  · simp only [if_pos h]
    exact Ev.now _
  · simp only [if_neg h]
    have ht := toIntS_ev l (by omega)
    have hs := spec_ev l (by omega)
    have hi := impl_ev l (by omega) (fun x hx => (wf64 (hw x hx)).1)
    refine Ev.bind ht (Ev.bind hs (Ev.bind ht (Ev.bind hi ?_)))
    simp only [if_true, bne_self_eq_false]
    refine Ev.succ ?_
    simp only [laws_FnExactBalanceOf.j0, Bool.false_eq_true, if_false]
    refine Ev.bind ht (Ev.bind (eqIntS_same l (by omega)) ?_)
    simpa using Ev.now _
end Go.Proofs.Ytmgpjhgjcmijbaa.Pure
