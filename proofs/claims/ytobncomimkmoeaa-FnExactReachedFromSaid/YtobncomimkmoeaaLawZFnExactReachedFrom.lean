/- Proved: Rows.FnExactReachedFromSaid: at every input that its row speaks of, the law returns true, and its arguments read afterwards as they read before. Conditions: the row's own, no others. -/
import Derived.Test.YtobncomimkmoeaaRows
import Derived.Test.YtobncomimkmoeaaZGFnExactReachedFrom11
import Derived.WalkKit
import Derived.ProofKit
import Derived.OpenShut
import Derived.ShutString
import Derived.ChangeOld
import Derived.Below
import Derived.SizedLaws
import Derived.Test.YtobncomimkmoeaaZGFnExactReachedFrom3
namespace Go.Proofs.Ytobncomimkmoeaa.fnExactReachedFrom
open Go.ChangeShapes Go.WideShapes Go.ChangeAt Go.RowKit Go.Proofs.YtobncomimkmoeaaW Go.Proofs.YtobncomimkmoeaaW.PrintWords Go.Proofs.Ytobncomimkmoeaa.F
set_option linter.unusedVariables false
theorem own : ownKnob Try.prog.godebug = none := by kernel_rfl
theorem laidOut : laidOutB Try.prog = true := by kernel_rfl
theorem opn0 : Opn Try.prog 25 ((Kd.slice 3 (Kd.int .i64))) (fun l => (l.length * 8 ≤ 140737488351232 ∧ l.length ≤ maxLen ∧ ∀ yl ∈ l, ((Lit.int .i64 yl).wf = true))) := (Opn_slice 3 8 (by kernel_rfl) Try.underlying25 (by kernel_rfl) (Opn_int Try.underlying3))
set_option maxRecDepth 100000 in
theorem lifted (os : Os) (started : os.Started) (H : Type) (enc : TypeId × Value → H) :
    ReturnsInHanded {} Try.checked os 5 .any (Rows.fnExactReachedFromSpec.pre6 enc Try.prog Try.f5 Rows.fnExactReachedFromRow.domain false) (Rows.fnExactReachedFromSpec.post enc Try.prog Try.f5 false true false false) := by
  refine returnsInHanded_of_change_sized (C := Try.checked) own started (by kernel_rfl) Try.func5
    (ChangeSpec.witness6 (enc := enc) (C := Try.checked) false ⟨#[], #[.slice none 0 0], []⟩ 8 (by kernel_rfl) (by kernel_rfl) (by kernel_rfl) (by kernel_rfl)) ?_
  intro W base args ds gs before hval0 hW hcnd hsz0 _
  have hsz : (DataW.weightsEach Try.prog (Try.f5.params.toList ++ Rows.fnExactReachedFromSpec.plain.varTypes Try.prog) (ds ++ gs)).all (· ≤ reachBytes) = true := hsz0
  have hval : ∀ (j : Nat) t v, Try.f5.params[j]? = some t → args[j]? = some v → Value.okWide Try.prog W .any base t v := hval0
  have hW' := hW
  obtain ⟨p, q, hA0, hV, rfl, hfz, hnd⟩ := hW
  have hA : DataW.TrodAll enc Try.prog W 0 (fun _ => true) true Try.f5.params.toList args.toList ds p := hA0
  rw [Try.params5] at hA hval hsz
  obtain ⟨v0, vs0, d0, ds0, p0, q0, hargs, rfl, rfl, h0, r0⟩ := trodAll_cons hA
  obtain ⟨rfl, rfl, rfl⟩ := trodAll_nil r0
  obtain rfl : args = #[v0] := by cases args; simp_all
  obtain ⟨rfl, rfl⟩ := trodVars_none hV
  obtain ⟨a0, len0, cap0, rfl⟩ := okWide_slice Try.underlying25 (hval 0 25 v0 rfl rfl)
  have k0 := h0
  have lt0 : ∀ x ∈ p0, x.block < W.heap.size := by obtain ⟨m, hm⟩ := k0; exact DataW.trod_lt m _ _ _ hm
  obtain ⟨l0, ⟨A0, c0, he0, lc0, hC0⟩, Q0⟩ : ∃ l : List (Int), ((Kd.slice 3 (Kd.int .i64))).K W l [.slice a0 len0 cap0] ∧ (l.length * 8 ≤ 140737488351232 ∧ l.length ≤ maxLen ∧ ∀ yl ∈ l, ((Lit.int .i64 yl).wf = true)) := by
    obtain ⟨fuel, hf⟩ := h0
    exact opn0 H enc W 0 true fuel _ _ hf (fun n hn => by have := List.all_eq_true.1 hsz n (DataW.weights_mem_each (j := 0) rfl rfl n hn); simpa using this)
  obtain ⟨rfl, rfl, rfl⟩ : a0 = A0 ∧ len0 = l0.length ∧ cap0 = c0 := by simpa using he0
  obtain ⟨k, hk⟩ := Pure.FnExactReachedFrom l0 Q0
  clear hA0 hval0 hsz0 hsz
  refine (laws_FnExactReachedFrom.calls k a0 cap0 l0 true W hC0 lc0 hk).mono fun e W' hd => ?_
  obtain ⟨he, bel⟩ : e = .returned (.bool true) ∧ Below W.heap.size W W' := by first | exact ⟨hd.1, hd.2⟩ | exact ⟨hd.1, hd.2.below⟩ | exact ⟨hd.1, hd.2.out⟩
  subst he
  exact ⟨_, rfl, _, _, _, [], _, [], hW', trodAll_mk1 (shut_bool Try.underlying4 _), (trodAll_cons_mk (Below.trod laidOut (by kernel_rfl) (of_decide_eq_true (by kernel_rfl)) k0 bel lt0) trodAll_mk0), rfl, bel.frame _, fun h => by cases h⟩
theorem over : Rows.fnExactReachedFromRow.holds Try.pinned (OpenSpec.ofChange Rows.fnExactReachedFromSpec) :=
  OpenClaim.holds_of_wide 5 Try.f5 rfl rfl rfl rfl rfl rfl rfl ⟨rfl, rfl, rfl, rfl, rfl⟩ rfl rfl rfl rfl rfl (by kernel_rfl) Try.func5 (by kernel_rfl)
    (of_decide_eq_true (by kernel_rfl)) (by unfold Func.isWrapper; first | (rw [if_pos (by decide +kernel)]; kernel_rfl) | (rw [if_neg (by decide +kernel)]; exact ⟨rfl, rfl⟩))
    (fun os started H enc _ => lifted os started H enc)
theorem proved : Rows.FnExactReachedFromSaid := over
#print axioms proved
end Go.Proofs.Ytobncomimkmoeaa.fnExactReachedFrom
namespace Go.Proofs.Ytobncomimkmoeaa
/-- The row, under a short name, for the claim. -/
theorem fnExactReachedFrom_holds : Rows.FnExactReachedFromSaid := fnExactReachedFrom.proved
end Go.Proofs.Ytobncomimkmoeaa
