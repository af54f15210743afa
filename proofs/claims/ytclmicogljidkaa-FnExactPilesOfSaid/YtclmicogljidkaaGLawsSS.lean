/- The laws' helpers on lists of lists. -/
import Derived.Test.YtclmicogljidkaaF24
import Derived.Test.YtclmicogljidkaaF25
import Derived.Test.YtclmicogljidkaaF26
import Derived.Test.YtclmicogljidkaaGLaws
import Derived.Test.YtclmicogljidkaaM
namespace Go.Proofs.Ytclmicogljidkaa.F
open Go.RowKit Go.Proofs.YtclmicogljidkaaW.PrintWords Go.Proofs.YtclmicogljidkaaW.PrintLast Go.Proofs.YtclmicogljidkaaW.PrintMore
set_option linter.unusedVariables false
set_option linter.unusedSimpArgs false
def total (l : List (List Int)) : Nat := (l.map List.length).sum
theorem total_cons (x : List Int) (l : List (List Int)) : total (x :: l) = x.length + total l := by simp [total]
theorem mid_rdL (pre : List (List Int)) (x : List Int) (rest : List (List Int)) : (pre ++ x :: rest).getD ((pre.length : Int)).toNat [] = x := by simp
theorem mid_rdL1 (pre : List (List Int)) (x : List Int) (rest : List (List Int)) : rd_L1 (pre ++ x :: rest) (pre.length : Int) = x := by
  unfold rd_L1
  first | exact mid_rdL pre x rest | simp [rdOf]
theorem eqIntSS_at (rest : List (List Int)) : ∀ (pre : List (List Int)), (pre ++ rest).length ≤ 4611686018427387904 → (∀ x ∈ rest, x.length ≤ 4611686018427387904) →
    Ev (fun k => laws_eqIntSS.l0 k (pre ++ rest) (pre ++ rest) (pre.length : Int)) true := by
  induction rest with
  | nil =>
    intro pre hb hx
    exact Ev.step (f := fun _ => some true) (fun k => by rw [laws_eqIntSS.l0, if_neg (mid_nlt _)]) (Ev.now _)
  | cons x rest ih =>
    intro pre hb hx
    have h := ih (pre ++ [x]) (by simpa using hb) (fun y hy => hx y (by simp [hy]))
    rw [← mid_cons, ← mid_succ pre x (by simp at hb; omega)] at h
    refine Ev.stepb (eqIntS_same x (hx x (by simp))) (fun k => by rw [laws_eqIntSS.l0, if_pos (mid_lt _ _ _), if_pos (nn _), if_pos (mid_lt _ _ _), mid_rdL1]) ?_
    simp only [if_true]
    exact h
theorem eqIntSS_same (l : List (List Int)) (hb : l.length ≤ 4611686018427387904) (hx : ∀ x ∈ l, x.length ≤ 4611686018427387904) : Ev (fun k => laws_eqIntSS.f k l l) true := by
  unfold laws_eqIntSS.f
  simp only [if_true]
  exact eqIntSS_at l [] hb hx
def markSS : Int → List (List Int) → List (List Int)
  | _, [] => []
  | a, x :: xs => seqFrom a x.length :: markSS (a + x.length) xs
theorem markIntSS_at (rest : List (List Int)) : ∀ (pre : List (List Int)) (a : Int), (pre ++ rest).length ≤ 1152921504606846976 → 0 ≤ a → a + total rest ≤ 1152921504606846976 →
    Ev (fun k => laws_markIntSS.l0 k (pre ++ rest) a (pre.length : Int)) (a + total rest, pre ++ markSS a rest) := by
  induction rest with
  | nil =>
    intro pre a hb h0 h1
    refine Ev.step (f := fun _ => some (a, pre ++ [])) (fun k => by rw [laws_markIntSS.l0, if_neg (mid_nlt _)]) ?_
    simpa [total, markSS] using Ev.now _
  | cons x rest ih =>
    intro pre a hb h0 h1
    rw [total_cons] at h1
    have h := ih (pre ++ [seqFrom a x.length]) (a + x.length) (by simpa using hb) (by omega) (by omega)
    rw [← mid_succ pre (seqFrom a x.length) (by simp at hb; omega)] at h
    have hm := markIntS_ev x a (by omega) h0 (by omega)
    refine Ev.stepb hm (fun k => by rw [laws_markIntSS.l0, if_pos (mid_lt _ _ _), if_pos (nn _), mid_rdL]) ?_
    have e : (a + (total (x :: rest) : Int), pre ++ markSS a (x :: rest)) = (a + (x.length : Int) + (total rest : Int), pre ++ [seqFrom a x.length] ++ markSS (a + x.length) rest) := by
      rw [total_cons]
      simp [markSS]
      omega
    rw [e]
    simpa [mid_set] using h
theorem markIntSS_ev (l : List (List Int)) (a : Int) (hb : l.length ≤ 1152921504606846976) (h0 : 0 ≤ a) (h1 : a + total l ≤ 1152921504606846976) : Ev (fun k => laws_markIntSS.f k l a) (a + total l, markSS a l) := by
  unfold laws_markIntSS.f
  exact markIntSS_at l [] a hb h0 h1
theorem heldIntSS_at (rest : List (List Int)) : ∀ (pre : List (List Int)) (a : Int), (pre ++ rest).length ≤ 1152921504606846976 → 0 ≤ a → a + total rest ≤ 1152921504606846976 →
    Ev (fun k => laws_heldIntSS.l0 k (pre ++ markSS a rest) a (pre.length : Int)) (a + total rest) := by
  induction rest with
  | nil =>
    intro pre a hb h0 h1
    refine Ev.step (f := fun _ => some a) (fun k => ?_) (by simpa [total] using Ev.now a)
    show laws_heldIntSS.l0 (k + 1) (pre ++ []) a _ = _
    rw [laws_heldIntSS.l0, if_neg (mid_nlt _)]
  | cons x rest ih =>
    intro pre a hb h0 h1
    rw [total_cons] at h1
    have h := ih (pre ++ [seqFrom a x.length]) (a + x.length) (by simpa using hb) (by omega) (by omega)
    rw [← mid_cons, ← mid_succ pre (seqFrom a x.length) (by simp at hb; omega)] at h
    have hm := heldIntS_ev x.length a (by omega) h0 (by omega)
    have hn : ¬ (a + (x.length : Int) < 0) := by omega
    refine Ev.stepb hm (fun k => by show laws_heldIntSS.l0 (k + 1) (pre ++ seqFrom a x.length :: markSS (a + x.length) rest) a _ = _; rw [laws_heldIntSS.l0, if_pos (mid_lt _ _ _), if_pos (nn _), mid_rdL1]) ?_
    rw [total_cons, show a + ((x.length + total rest : Nat) : Int) = a + (x.length : Int) + (total rest : Int) by omega]
    simpa [hn] using h
theorem heldIntSS_ev (l : List (List Int)) (a : Int) (hb : l.length ≤ 1152921504606846976) (h0 : 0 ≤ a) (h1 : a + total l ≤ 1152921504606846976) : Ev (fun k => laws_heldIntSS.f k (markSS a l) a) (a + total l) := by
  unfold laws_heldIntSS.f
  exact heldIntSS_at l [] a hb h0 h1
end Go.Proofs.Ytclmicogljidkaa.F
