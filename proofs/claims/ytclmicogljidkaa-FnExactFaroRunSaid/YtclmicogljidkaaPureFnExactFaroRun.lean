/- FaroRun: both functions answer the same at every pair of lists. -/
import Derived.Test.YtclmicogljidkaaF5
import Derived.Test.YtclmicogljidkaaF84
import Derived.Test.YtclmicogljidkaaF86
import Derived.Test.YtclmicogljidkaaF87
import Derived.Test.YtclmicogljidkaaGLaws
import Derived.Test.YtclmicogljidkaaGCards
import Derived.Test.YtclmicogljidkaaGFaro
import Derived.Test.YtclmicogljidkaaM
namespace Go.Proofs.Ytclmicogljidkaa.Pure
open Go.RowKit Go.Proofs.Ytclmicogljidkaa.F Go.Proofs.YtclmicogljidkaaW.PrintWords Go.Proofs.YtclmicogljidkaaW.PrintLast Go.Proofs.YtclmicogljidkaaW.PrintMore
set_option linter.unusedVariables false
set_option linter.unusedSimpArgs false
def runF (out : List Int) : List Int → List Int
  | [] => out
  | k :: ks => runF (faroL out k) ks
theorem run_length (ks : List Int) : ∀ out : List Int, (runF out ks).length = out.length := by
  induction ks with
  | nil => intro out; rfl
  | cons k ks ih => intro out; simp [runF, ih, faro_length]
theorem color_01 {x : Int} (h : isColor x = true) : x = 0 ∨ x = 1 := by
  unfold isColor at h
  have := of_decide_eq_true h
  omega
theorem impl_at (rest : List Int) : ∀ (pre out : List Int), (pre ++ rest).length ≤ 1048576 → out.length ≤ 1048576 →
    Ev (fun n => impl_FaroRun.l0 n out (pre ++ rest) ((pre ++ rest).length : Int) (pre.length : Int)) (runF out rest, true) := by
  induction rest with
  | nil =>
    intro pre out hb ho
    exact Ev.step (f := fun _ => some (out, true)) (fun k => by rw [impl_FaroRun.l0, if_neg (mid_nlt _)]) (Ev.now _)
  | cons x rest ih =>
    intro pre out hb ho
    have h := ih (pre ++ [x]) (faroL out x) (by simpa using hb) (by rw [faro_length]; exact ho)
    rw [← mid_cons, ← mid_succ pre x (by simp at hb; omega)] at h
    exact Ev.stepb (impl_faro_ev out x ho) (fun k => by rw [impl_FaroRun.l0, if_pos (mid_lt _ _ _), if_pos (nn _), if_pos (mid_lt _ _ _), mid_rd]) h
theorem spec_at (rest : List Int) : ∀ (pre out : List Int), (pre ++ rest).length ≤ 1048576 → out.length ≤ 1048576 →
    Ev (fun n => spec_FaroRun.l0 n out (pre ++ rest) ((pre ++ rest).length : Int) (pre.length : Int)) (if rest.all isColor = true then (runF out rest, true) else ([], false)) := by
  induction rest with
  | nil =>
    intro pre out hb ho
    exact Ev.step (f := fun _ => some (out, true)) (fun k => by rw [spec_FaroRun.l0, if_neg (mid_nlt _)]) (Ev.now _)
  | cons x rest ih =>
    intro pre out hb ho
    have hin : spec_l01In.f x 0 1 = some (isColor x) := by rw [l01In_eq]; rfl
    have h := ih (pre ++ [x]) (faroL out x) (by simpa using hb) (by rw [faro_length]; exact ho)
    rw [← mid_cons, ← mid_succ pre x (by simp at hb; omega)] at h
    cases hc : isColor x with
    | true =>
      rw [hc] at hin
      have e : (if (x :: rest).all isColor = true then (runF out (x :: rest), true) else ([], false)) = (if rest.all isColor = true then (runF (faroL out x) rest, true) else ([], false)) := by
        simp [hc, runF]
      rw [e]
      have hq := Ev.bind (f := fun k t => spec_FaroRun.l0 k t (pre ++ x :: rest) ((pre ++ x :: rest).length : Int) (wrap64 ((pre.length : Int) + 1))) (spec_faro_ev out x (color_01 hc) ho) h
      refine Ev.step (fun k => ?_) hq
      rw [spec_FaroRun.l0, if_pos (mid_lt _ _ _), if_pos (nn _), if_pos (mid_lt _ _ _), mid_rd, hin, Option.bind_some, if_pos rfl]
    | false =>
      rw [hc] at hin
      have e : (if (x :: rest).all isColor = true then (runF out (x :: rest), true) else ([], false)) = (([] : List Int), false) := by
        simp [hc]
      rw [e]
      exact Ev.step (f := fun _ => some ([], false)) (fun k => by rw [spec_FaroRun.l0, if_pos (mid_lt _ _ _), if_pos (nn _), if_pos (mid_lt _ _ _), mid_rd, hin]; simp only [Option.bind_some, Bool.false_eq_true, if_false]) (Ev.now _)
def runR (l ks : List Int) : List Int × Bool := if packetB l = true ∧ pairedB l.length = true ∧ colorsB ks 20 = true then (runF l ks, true) else ([], false)
theorem impl_ev (l ks : List Int) (hl : l.length ≤ 1048576) (hk : ks.length ≤ 1048576) (hw : ∀ x ∈ l, -9223372036854775808 ≤ x) : Ev (fun n => impl_FaroRun.f n l ks) (runR l ks) := by
  unfold impl_FaroRun.f runR
  refine Ev.bind (impl_PacketOk_ev l (by omega) hw) ?_
  have hcl : slices_Clone_Lint_int.f l = some l := by
    unfold slices_Clone_Lint_int.f
    rw [if_pos (by omega)]
  by_cases p : packetB l = true
  · simp only [p, if_true, (paired_eq l.length).1, Option.bind_some, true_and]
    by_cases q : pairedB l.length = true
    · simp only [q, if_true, areColors_eq, Option.bind_some, true_and]
      refine Ev.succ ?_
      by_cases c : colorsB ks 20 = true
      · simp only [c, impl_FaroRun.j0, Bool.not_true, Bool.false_eq_true, if_false, if_true, hcl, Option.bind_some]
        exact impl_at ks [] l hk hl
      · have c' : colorsB ks 20 = false := by simpa using c
        simp only [c', impl_FaroRun.j0, Bool.not_false, if_true, Bool.false_eq_true, if_false]
        exact Ev.now _
    · have q' : pairedB l.length = false := by simpa using q
      simp only [q', Bool.false_eq_true, if_false, false_and]
      refine Ev.succ ?_
      simp only [impl_FaroRun.j0, if_true]
      exact Ev.now _
  · have p' : packetB l = false := by simpa using p
    simp only [p', Bool.false_eq_true, if_false, false_and]
    refine Ev.succ ?_
    simp only [impl_FaroRun.j0, if_true]
    exact Ev.now _
theorem spec_ev (l ks : List Int) (hl : l.length ≤ 1048576) (hk : ks.length ≤ 1048576) : Ev (fun n => spec_FaroRun.f n l ks) (runR l ks) := by
  unfold spec_FaroRun.f runR
  refine Ev.bind (spec_PacketOk_ev l) ?_
  by_cases p : packetB l = true
  · simp only [p, if_true, (paired_eq l.length).2, Option.bind_some, true_and]
    by_cases q : pairedB l.length = true
    · simp only [q, if_true, true_and]
      refine Ev.succ ?_
      by_cases c : (ks.length : Int) > 20
      · have c2 : colorsB ks 20 = false := by
          unfold colorsB
          rw [decide_eq_false (show ¬ (ks.length : Int) ≤ 20 by omega), Bool.false_and]
        simp only [decide_eq_true c, spec_FaroRun.j0, if_true, c2, Bool.false_eq_true, if_false]
        exact Ev.now _
      · have c2 : colorsB ks 20 = ks.all isColor := by
          unfold colorsB
          rw [decide_eq_true (show (ks.length : Int) ≤ 20 by omega), Bool.true_and]
        have hlen : ([] : List Int).length + l.length < 17592186044416 := by simp; omega
        simp only [decide_eq_false c, spec_FaroRun.j0, Bool.false_eq_true, if_false, Option.bind_some, if_pos hlen, List.nil_append, c2]
        exact spec_at ks [] l hk hl
    · have q' : pairedB l.length = false := by simpa using q
      simp only [q', Bool.false_eq_true, if_false, false_and]
      refine Ev.succ ?_
      simp only [spec_FaroRun.j0, if_true]
      exact Ev.now _
  · have p' : packetB l = false := by simpa using p
    simp only [p', Bool.false_eq_true, if_false, false_and]
    refine Ev.succ ?_
    simp only [spec_FaroRun.j0, if_true]
    exact Ev.now _
theorem runR_len (l ks : List Int) : (runR l ks).1.length ≤ l.length := by
  unfold runR
  split
  · rw [run_length]; exact Nat.le_refl _
  · simp
theorem FnExactFaroRun : laws_FnExactFaroRun.Pure := by
  intro l ks _ _ hw _ _ _
  refine Ev.rounds (g := fun n => laws_FnExactFaroRun.f n l ks) ?_
  unfold laws_FnExactFaroRun.f
  by_cases h : (l.length : Int) > 1048576
  · simp only [if_pos h]
    exact Ev.now _
  · by_cases h2 : (ks.length : Int) > 1048576
    · simp only [if_neg h, if_pos h2]
      exact Ev.now _
    · simp only [if_neg h, if_neg h2]
      have hs := spec_ev l ks (by omega) (by omega)
      have hi := impl_ev l ks (by omega) (by omega) (fun x hx => (wf64 (hw x hx)).1)
      have hr := runR_len l ks
      repeat' first
        | exact Ev.now _
        | with_reducible refine Ev.bind hs ?_
        | with_reducible refine Ev.bind hi ?_
        | with_reducible refine Ev.bind (toIntS_ev _ (by omega)) ?_
        | with_reducible refine Ev.bind (eqIntS_same _ (by omega)) ?_
        | with_reducible refine Ev.bind (markIntS_ev _ _ (by omega) (by omega) (by omega)) ?_
        | with_reducible refine Ev.bind (heldIntS_ev _ _ (by omega) (by omega) (by omega)) ?_
        | simp only [if_true, if_false, Bool.not_true, bne_self_eq_false, Bool.false_eq_true, neg1, neg2, neg3]
        | (refine Ev.succ ?_; simp only [laws_FnExactFaroRun.j0, laws_FnExactFaroRun.j1, laws_FnExactFaroRun.j2])
end Go.Proofs.Ytclmicogljidkaa.Pure
