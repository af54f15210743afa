import Derived.Test.YtgldcbcefncjjaaZGFnExactFourForce9
import Derived.Test.YtgldcbcefncjjaaZGFnExactFourForce8
import Derived.Test.YtgldcbcefncjjaaZGFnExactFourForce4
section
namespace Go.Proofs.Ytgldcbcefncjjaa.F
open Go.RowKit Go.Proofs.YtgldcbcefncjjaaW.PrintWords
/-- What is to be shown of numbers and lists. -/
def laws_FnExactFourForce.Pure : Prop := ∀ (l0 : List (Int)) (a1 : Int), ((l0.length * 8 ≤ 140737488351232 ∧ l0.length ≤ maxLen ∧ ∀ yl0 ∈ l0, ((Lit.int .i64 yl0).wf = true))) → (((Lit.int .i64 a1).wf = true)) → ∃ k, laws_FnExactFourForce.f k l0 a1 = some true
end Go.Proofs.Ytgldcbcefncjjaa.F
end
section
/- The force with four objects. -/
namespace Go.Proofs.Ytgldcbcefncjjaa.F
open Go.RowKit Go.Proofs.YtgldcbcefncjjaaW.PrintWords Go.Proofs.YtgldcbcefncjjaaW.PrintLast Go.Proofs.YtgldcbcefncjjaaW.PrintMore
set_option linter.unusedVariables false
set_option linter.unusedSimpArgs false
theorem spec_four_end (a : Int) : Ev (fun k => spec_FourForce.l0 k a (([(⟨(⟨#[116, 97, 107, 101, 32, 116, 119, 111]⟩ : ByteArray), (([1, 2] : List Int)), 0⟩ : IN), (⟨(⟨#[107, 101, 101, 112, 32, 116, 104, 101, 109, 44, 32, 112, 111, 105, 110, 116, 32, 97, 116, 32, 111, 110, 101]⟩ : ByteArray), (([3, 4] : List Int)), 0⟩ : IN), (⟨(⟨#[112, 117, 116, 32, 116, 104, 101, 109, 32, 97, 119, 97, 121, 44, 32, 112, 111, 105, 110, 116, 32, 97, 116, 32, 111, 110, 101]⟩ : ByteArray), (([5, 6] : List Int)), 0⟩ : IN)] : List IN)) 0) (fourN a, true) :=
  Ev.step (fun k => by rw [spec_FourForce.l0, if_pos (show (0 : Int) < 4 by decide), show spec_l13Say.f (Int.tmod 0 2 == 0) = some (⟨#[121, 111, 117, 114, 115]⟩ : ByteArray) from rfl, Option.bind_some, if_pos (by simp), show wrap64 (0 + 1) = 1 from w64_id (by omega) (by omega)])
  (Ev.step (fun k => by rw [spec_FourForce.l0, if_pos (show (1 : Int) < 4 by decide), show spec_l13Say.f (Int.tmod 1 2 == 0) = some (⟨#[112, 117, 116, 32, 105, 116, 32, 97, 119, 97, 121]⟩ : ByteArray) from rfl, Option.bind_some, if_pos (by simp), show wrap64 (1 + 1) = 2 from w64_id (by omega) (by omega)])
  (Ev.step (fun k => by rw [spec_FourForce.l0, if_pos (show (2 : Int) < 4 by decide), show spec_l13Say.f (Int.tmod 2 2 == 0) = some (⟨#[121, 111, 117, 114, 115]⟩ : ByteArray) from rfl, Option.bind_some, if_pos (by simp), show wrap64 (2 + 1) = 3 from w64_id (by omega) (by omega)])
  (Ev.step (fun k => by rw [spec_FourForce.l0, if_pos (show (3 : Int) < 4 by decide), show spec_l13Say.f (Int.tmod 3 2 == 0) = some (⟨#[112, 117, 116, 32, 105, 116, 32, 97, 119, 97, 121]⟩ : ByteArray) from rfl, Option.bind_some, if_pos (by simp), show wrap64 (3 + 1) = 4 from w64_id (by omega) (by omega)])
  (Ev.step (f := fun _ => some (fourN a, true)) (fun k => by rw [spec_FourForce.l0, if_neg (show ¬ (4 : Int) < 4 by decide)]; rfl) (Ev.now _)))))
def fourR (l : List Int) (a : Int) : List IN × Bool := if objB l 4 a = true then (fourN a, true) else ([], false)
theorem spec_four_ev (l : List Int) (a : Int) (hb : l.length ≤ 1048576) : Ev (fun k => spec_FourForce.f k l a) (fourR l a) := by
  unfold spec_FourForce.f fourR
  refine Ev.bind (objs_ev l 4 a hb) ?_
  by_cases c : objB l 4 a = true
  · simp only [if_pos c]; exact spec_four_end a
  · simp only [if_neg c]; exact Ev.now _
theorem impl_four_ev (l : List Int) (a : Int) (hb : l.length ≤ 1048576) : Ev (fun k => impl_FourForce.f k l a) (fourR l a) := by
  unfold impl_FourForce.f fourR
  refine Ev.bind (areObj_ev l 4 a hb) ?_
  by_cases c : objB l 4 a = true
  · simp only [if_pos c]; exact Ev.now _
  · simp only [if_neg c]; exact Ev.now _
end Go.Proofs.Ytgldcbcefncjjaa.F
end
section
/- FourForce: both functions make the same. -/
namespace Go.Proofs.Ytgldcbcefncjjaa.Pure
open Go.RowKit Go.Proofs.Ytgldcbcefncjjaa.F Go.Proofs.YtgldcbcefncjjaaW.PrintWords Go.Proofs.YtgldcbcefncjjaaW.PrintLast Go.Proofs.YtgldcbcefncjjaaW.PrintMore
set_option linter.unusedVariables false
set_option linter.unusedSimpArgs false
theorem FnExactFourForce : laws_FnExactFourForce.Pure := by
  intro l a hq _
  by_cases c : (l.length : Int) > 1048576
  · exact ⟨0, by unfold laws_FnExactFourForce.f; rw [if_pos c]⟩
  · have hb : l.length ≤ 1048576 := by omega
    have hR : (fourR l a).1.length ≤ 7 ∧ wN (fourR l a).1 ≤ 100 ∧ ∀ x ∈ (fourR l a).1, x.f1.length ≤ 4611686018427387904 := by
      unfold fourR
      split
      · refine ⟨Nat.le_refl _, by simp [wN, fourN], fun x hx => ?_⟩
        have : x.f1.length ≤ 2 := by
          simp only [fourN, List.mem_cons, List.not_mem_nil, or_false] at hx
          rcases hx with rfl | rfl | rfl | rfl | rfl | rfl | rfl <;> simp
        omega
      · exact ⟨by simp, by decide, by simp⟩
    obtain ⟨k2, H2⟩ := spec_four_ev l a hb
    obtain ⟨k3, H3⟩ := impl_four_ev l a hb
    generalize fourR l a = R at H2 H3 hR
    obtain ⟨hl, hw, hx2⟩ := hR
    obtain ⟨k4, H4⟩ := markIntS_ev l 1 (by omega) (by omega) (by omega)
    obtain ⟨k5, H5⟩ := markNodeS_ev R.1 1 (by omega) (by omega) (by omega)
    obtain ⟨k6, H6⟩ := toIntS_ev l (by omega)
    obtain ⟨k7, H7⟩ := eqNodeS_same R.1 (by omega) hx2
    obtain ⟨k8, H8⟩ := eqIntS_same l (by omega)
    obtain ⟨k9, H9⟩ := heldNodeS_ev R.1 1 (by omega) (by omega) (by omega)
    obtain ⟨K, hK⟩ : ∃ K, K = k2 + k3 + k4 + k5 + k6 + k7 + k8 + k9 := ⟨_, rfl⟩
    have e6 : laws_toIntS.f K l = some l := H6 K (by omega)
    have e2 : spec_FourForce.f K l a = some R := H2 K (by omega)
    have e4 : laws_markIntS.f K l 1 = some ((1 : Int) + (l.length : Int), seqFrom 1 l.length) := H4 K (by omega)
    have e5 : laws_markNodeS.f K R.1 1 = some ((1 : Int) + (wN R.1 : Int), markN 1 R.1) := H5 K (by omega)
    refine ⟨K, ?_⟩
    unfold laws_FnExactFourForce.f
    rw [if_neg c, e6, Option.bind_some, e2, Option.bind_some, e4, Option.bind_some, e5, Option.bind_some]
    rw [if_pos]
    exact ⟨H3 K (by omega), H7 K (by omega), H8 K (by omega), by simp only; omega, by simp only; omega, H9 K (by omega)⟩
end Go.Proofs.Ytgldcbcefncjjaa.Pure
end
