/- IsCentral: both functions answer the same at every list. -/
import Derived.Test.YtmgpjhgjcmijbaaF25
import Derived.Test.YtmgpjhgjcmijbaaF30
import Derived.Test.YtmgpjhgjcmijbaaF31
import Derived.Test.YtmgpjhgjcmijbaaGLaws
import Derived.Test.YtmgpjhgjcmijbaaGPerm
import Derived.Test.YtmgpjhgjcmijbaaM
namespace Go.Proofs.Ytmgpjhgjcmijbaa.Pure
open Go.RowKit Go.Proofs.Ytmgpjhgjcmijbaa.F Go.Proofs.YtmgpjhgjcmijbaaW.PrintWords Go.Proofs.YtmgpjhgjcmijbaaW.PrintLast Go.Proofs.YtmgpjhgjcmijbaaW.PrintMore
set_option linter.unusedVariables false
set_option linter.unusedSimpArgs false
def cenGo (l : List Int) : List Int → List Int → Bool
  | _, [] => true
  | pre, x :: xs => if wrap64 (x + rd l (wrap64 ((wrap64 ((l.length : Int) - 1)) - pre.length))) = wrap64 ((l.length : Int) - 1) then cenGo l (pre ++ [x]) xs else false
theorem cen_idx (l pre : List Int) (x : Int) (rest : List Int) (h : l = pre ++ x :: rest) (hb : l.length ≤ 4611686018427387904) :
    0 ≤ wrap64 ((wrap64 ((l.length : Int) - 1)) - pre.length) ∧ wrap64 ((wrap64 ((l.length : Int) - 1)) - pre.length) < (l.length : Int) := by
  have : l.length = pre.length + rest.length + 1 := by subst h; simp; omega
  rw [w64_id (x := (l.length : Int) - 1) (by omega) (by omega), w64_id (by omega) (by omega)]
  omega
theorem spec_at (l : List Int) (hb : l.length ≤ 4611686018427387904) (rest : List Int) : ∀ (pre : List Int), l = pre ++ rest →
    Ev (fun k => spec_IsCentral.l0 k l l (l.length : Int) (pre.length : Int)) (cenGo l pre rest) := by
  induction rest with
  | nil =>
    intro pre hl
    have hn : ¬ (pre.length : Int) < (l.length : Int) := by subst hl; exact mid_nlt _
    exact Ev.step (f := fun _ => some true) (fun k => by rw [spec_IsCentral.l0, if_neg hn]) (Ev.now _)
  | cons x rest ih =>
    intro pre hl
    have hlt : (pre.length : Int) < (l.length : Int) := by subst hl; exact mid_lt _ _ _
    obtain ⟨i0, i1⟩ := cen_idx l pre x rest hl hb
    unfold cenGo
    have hrd := mid_rd_of hl
    by_cases c : wrap64 (x + rd l (wrap64 ((wrap64 ((l.length : Int) - 1)) - pre.length))) = wrap64 ((l.length : Int) - 1)
    · rw [if_pos c]
      have h := ih (pre ++ [x]) (by rw [hl]; simp)
      exact Ev.step (fun k => by rw [spec_IsCentral.l0, if_pos hlt, if_pos (nn _), if_pos hlt, if_pos i0, if_pos i1, hrd, if_pos c, mid_succ pre x (by omega)]) h
    · rw [if_neg c]
      exact Ev.step (f := fun _ => some false) (fun k => by rw [spec_IsCentral.l0, if_pos hlt, if_pos (nn _), if_pos hlt, if_pos i0, if_pos i1, hrd, if_neg c]) (Ev.now _)
theorem impl_at (l : List Int) (hb : l.length ≤ 4611686018427387904) (hp : permB l = true) (rest : List Int) : ∀ (pre : List Int), l = pre ++ rest →
    Ev (fun k => impl_IsCentral.l0 k l l (l.length : Int) (pre.length : Int)) (cenGo l pre rest) := by
  have hperm := impl_PermOk_ev l hb
  rw [hp] at hperm
  induction rest with
  | nil =>
    intro pre hl
    have hn : ¬ (pre.length : Int) < (l.length : Int) := by subst hl; exact mid_nlt _
    exact Ev.step (f := fun _ => some true) (fun k => by rw [impl_IsCentral.l0, if_neg hn]) (Ev.now _)
  | cons x rest ih =>
    intro pre hl
    have hlt : (pre.length : Int) < (l.length : Int) := by subst hl; exact mid_lt _ _ _
    obtain ⟨i0, i1⟩ := cen_idx l pre x rest hl hb
    have hrd := mid_rd_of hl
    refine Ev.stepb hperm (fun k => by rw [impl_IsCentral.l0, if_pos hlt, if_pos (nn _), if_pos hlt]) ?_
    simp only [if_true, if_pos i0, if_pos i1, hrd]
    unfold cenGo
    by_cases c : wrap64 (x + rd l (wrap64 ((wrap64 ((l.length : Int) - 1)) - pre.length))) = wrap64 ((l.length : Int) - 1)
    · simp only [if_pos c]
      have h := ih (pre ++ [x]) (by rw [hl]; simp)
      rw [← mid_succ pre x (by omega)] at h
      exact h
    · simp only [if_neg c]
      exact Ev.now _
theorem spec_ev (l : List Int) (hb : l.length ≤ 4611686018427387904) : Ev (fun k => spec_IsCentral.f k l) (permB l && cenGo l [] l) := by
  unfold spec_IsCentral.f
  refine Ev.bind (spec_PermOk_ev l) ?_
  cases permB l with
  | true => simpa using spec_at l hb l [] rfl
  | false => simpa using Ev.now _
theorem impl_ev (l : List Int) (hb : l.length ≤ 4611686018427387904) : Ev (fun k => impl_IsCentral.f k l) (permB l && cenGo l [] l) := by
  unfold impl_IsCentral.f
  cases hp : permB l with
  | true => simpa using impl_at l hb hp l [] rfl
  | false =>
    cases l with
    | nil => simp [permB, permGo] at hp
    | cons x xs =>
      have hperm := impl_PermOk_ev (x :: xs) hb
      rw [hp] at hperm
      have hlt : (0 : Int) < ((x :: xs).length : Int) := by simp
      refine Ev.stepb hperm (fun k => by rw [impl_IsCentral.l0, if_pos hlt, if_pos (by omega), if_pos hlt]) ?_
      simpa using Ev.now _
theorem FnExactIsCentral : laws_FnExactIsCentral.Pure := by
  intro l _ _ _
  refine Ev.rounds (g := fun k => laws_FnExactIsCentral.f k l) ?_
  unfold laws_FnExactIsCentral.f
  by_cases h : (l.length : Int) > 1048576
  · simp only [if_pos h]
    exact Ev.now _
  · simp only [if_neg h]
    have ht := toIntS_ev l (by omega)
    refine Ev.bind ht ?_
    refine Ev.bind (spec_ev l (by omega)) ?_
    refine Ev.bind ht ?_
    refine Ev.bind (impl_ev l (by omega)) ?_
    simp only [bne_self_eq_false, Bool.false_eq_true, if_false]
    refine Ev.bind ht ?_
    refine Ev.bind (eqIntS_same l (by omega)) ?_
    simpa using Ev.now _
end Go.Proofs.Ytmgpjhgjcmijbaa.Pure
