/- Proved: Rows.FnExactPairForceSaid: at every input that its row speaks of, the law returns true, and its arguments read afterwards as they read before. Conditions: the row's own, no others. -/
import Derived.Test.YtgldcbcefncjjaaRows
import Derived.Test.YtgldcbcefncjjaaZGFnExactFourForce11
import Derived.Test.YtgldcbcefncjjaaZGFnExactFourForce12
import Derived.WalkKit
import Derived.ProofKit
import Derived.OpenShut
import Derived.ShutString
import Derived.ChangeOld
import Derived.Below
import Derived.SizedLaws
import Derived.ChangeSlices
namespace Go.Proofs.Ytgldcbcefncjjaa.fnExactPairForce
open Go.ChangeShapes Go.WideShapes Go.ChangeAt Go.RowKit Go.Proofs.YtgldcbcefncjjaaW Go.Proofs.YtgldcbcefncjjaaW.PrintWords Go.Proofs.Ytgldcbcefncjjaa.F
set_option linter.unusedVariables false
theorem own : ownKnob Try.prog.godebug = none := by kernel_rfl
theorem laidOut : laidOutB Try.prog = true := by kernel_rfl
theorem opn0 : Opn Try.prog 22 ((Kd.slice 3 (Kd.int .i64))) (fun l => (l.length * 8 ≤ 140737488351232 ∧ l.length ≤ maxLen ∧ ∀ yl ∈ l, ((Lit.int .i64 yl).wf = true))) := (Opn_slice 3 8 (by kernel_rfl) Try.underlying22 (by kernel_rfl) (Opn_int Try.underlying3))
set_option maxRecDepth 100000 in
theorem lifted (os : Os) (started : os.Started) (H : Type) (enc : TypeId × Value → H) :
    ReturnsInHanded {} Try.checked os 4 .any (Rows.fnExactPairForceSpec.pre6 enc Try.prog Try.f4 Rows.fnExactPairForceRow.domain false) (Rows.fnExactPairForceSpec.post enc Try.prog Try.f4 false true false false) := by
  refine returnsInHanded_of_change_sized (C := Try.checked) own started (by kernel_rfl) Try.func4
    (ChangeSpec.witness6 (enc := enc) (C := Try.checked) false ⟨#[], #[.slice none 0 0, .int .i64 0], []⟩ 8 (by kernel_rfl) (by kernel_rfl) (by kernel_rfl) (by kernel_rfl)) ?_
  intro W base args ds gs before hval0 hW hcnd hsz0 _
  have hsz : (DataW.weightsEach Try.prog (Try.f4.params.toList ++ Rows.fnExactPairForceSpec.plain.varTypes Try.prog) (ds ++ gs)).all (· ≤ reachBytes) = true := hsz0
  have hval : ∀ (j : Nat) t v, Try.f4.params[j]? = some t → args[j]? = some v → Value.okWide Try.prog W .any base t v := hval0
  have hW' := hW
  obtain ⟨p, q, hA0, hV, rfl, hfz, hnd⟩ := hW
  have hA : DataW.TrodAll enc Try.prog W 0 (fun _ => true) true Try.f4.params.toList args.toList ds p := hA0
  rw [Try.params4] at hA hval hsz
  obtain ⟨v0, vs0, d0, ds0, p0, q0, hargs, rfl, rfl, h0, r0⟩ := trodAll_cons hA
  obtain ⟨v1, vs1, d1, ds1, p1, q1, rfl, rfl, rfl, h1, r1⟩ := trodAll_cons r0
  obtain ⟨rfl, rfl, rfl⟩ := trodAll_nil r1
  obtain rfl : args = #[v0, v1] := by cases args; simp_all
  obtain ⟨rfl, rfl⟩ := trodVars_none hV
  obtain ⟨a0, len0, cap0, rfl⟩ := okWide_slice Try.underlying22 (hval 0 22 v0 rfl rfl)
  have k0 := h0
  have lt0 : ∀ x ∈ p0, x.block < W.heap.size := by obtain ⟨m, hm⟩ := k0; exact DataW.trod_lt m _ _ _ hm
  obtain ⟨l0, ⟨A0, c0, he0, lc0, hC0⟩, Q0⟩ : ∃ l : List (Int), ((Kd.slice 3 (Kd.int .i64))).K W l [.slice a0 len0 cap0] ∧ (l.length * 8 ≤ 140737488351232 ∧ l.length ≤ maxLen ∧ ∀ yl ∈ l, ((Lit.int .i64 yl).wf = true)) := by
    obtain ⟨fuel, hf⟩ := h0
    exact opn0 H enc W 0 true fuel _ _ hf (fun n hn => by have := List.all_eq_true.1 hsz n (DataW.weights_mem_each (j := 0) rfl rfl n hn); simpa using this)
  obtain ⟨rfl, rfl, rfl⟩ : a0 = A0 ∧ len0 = l0.length ∧ cap0 = c0 := by simpa using he0
  obtain ⟨a1, rfl, rfl, rfl, w1⟩ := open_int Try.underlying3 (hval 1 3 v1 rfl rfl) h1
  obtain ⟨k, hk⟩ := Pure.FnExactPairForce l0 a1 Q0 w1
  clear hA0 hval0 hsz0 hsz
  refine (laws_FnExactPairForce.calls k a0 cap0 l0 a1 true W hC0 lc0 hk).mono fun e W' hd => ?_
  obtain ⟨he, bel⟩ : e = .returned (.bool true) ∧ Below W.heap.size W W' := by first | exact ⟨hd.1, hd.2⟩ | exact ⟨hd.1, hd.2.below⟩ | exact ⟨hd.1, hd.2.out⟩
  subst he
  exact ⟨_, rfl, _, _, _, [], _, [], hW', trodAll_mk1 (shut_bool Try.underlying4 _), (trodAll_cons_mk (Below.trod laidOut (by kernel_rfl) (of_decide_eq_true (by kernel_rfl)) k0 bel lt0) (trodAll_cons_mk (shut_int Try.underlying3 w1) trodAll_mk0)), rfl, bel.frame _, fun h => by cases h⟩
theorem over : Rows.fnExactPairForceRow.holds Try.pinned (OpenSpec.ofChange Rows.fnExactPairForceSpec) :=
  OpenClaim.holds_of_wide 4 Try.f4 rfl rfl rfl rfl rfl rfl rfl ⟨rfl, rfl, rfl, rfl, rfl⟩ rfl rfl rfl rfl rfl (by kernel_rfl) Try.func4 (by kernel_rfl)
    (of_decide_eq_true (by kernel_rfl)) (by unfold Func.isWrapper; first | (rw [if_pos (by decide +kernel)]; kernel_rfl) | (rw [if_neg (by decide +kernel)]; exact ⟨rfl, rfl⟩))
    (fun os started H enc _ => lifted os started H enc)
theorem proved : Rows.FnExactPairForceSaid := over
#print axioms proved
end Go.Proofs.Ytgldcbcefncjjaa.fnExactPairForce
namespace Go.Proofs.Ytgldcbcefncjjaa
/-- The row, under a short name, for the claim. -/
theorem fnExactPairForce_holds : Rows.FnExactPairForceSaid := fnExactPairForce.proved
end Go.Proofs.Ytgldcbcefncjjaa
