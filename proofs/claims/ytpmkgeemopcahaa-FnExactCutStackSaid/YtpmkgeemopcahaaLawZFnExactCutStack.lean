/- Proved: Rows.FnExactCutStackSaid: at every input that its row speaks of, the law returns true, and its arguments read afterwards as they read before. Conditions: the row's own, no others. -/
import Derived.Test.YtpmkgeemopcahaaRows
import Derived.Test.YtpmkgeemopcahaaZGFnExactStackOk13
import Derived.Test.YtpmkgeemopcahaaZGFnExactStackOk14
import Derived.WalkKit
import Derived.ProofKit
import Derived.OpenShut
import Derived.ShutString
import Derived.ChangeOld
import Derived.Below
import Derived.SizedLaws
import Derived.ChangeSlices
namespace Go.Proofs.Ytpmkgeemopcahaa.fnExactCutStack
open Go.ChangeShapes Go.WideShapes Go.ChangeAt Go.RowKit Go.Proofs.YtpmkgeemopcahaaW Go.Proofs.YtpmkgeemopcahaaW.PrintWords Go.Proofs.Ytpmkgeemopcahaa.F
set_option linter.unusedVariables false
theorem own : ownKnob Try.prog.godebug = none := by kernel_rfl
theorem laidOut : laidOutB Try.prog = true := by kernel_rfl
theorem opn0 : Opn Try.prog 24 ((Kd.pair (Kd.slice 3 (Kd.int .i64)) (Kd.int .i64))) (fun l => (l.1.length * 8 ≤ 140737488351232 ∧ l.1.length ≤ maxLen ∧ ∀ yl_1 ∈ l.1, ((Lit.int .i64 yl_1).wf = true)) ∧ ((Lit.int .i64 l.2).wf = true)) := (Opn_struct2 Try.underlying24 (by kernel_rfl) (by kernel_rfl) (by kernel_rfl) (by kernel_rfl) (by kernel_rfl) (Opn_slice 3 8 (by kernel_rfl) Try.underlying22 (by kernel_rfl) (Opn_int Try.underlying3)) (Opn_int Try.underlying3))
set_option maxRecDepth 100000 in
theorem lifted (os : Os) (started : os.Started) (H : Type) (enc : TypeId × Value → H) :
    ReturnsInHanded {} Try.checked os 7 .any (Rows.fnExactCutStackSpec.pre6 enc Try.prog Try.f7 Rows.fnExactCutStackRow.domain false) (Rows.fnExactCutStackSpec.post enc Try.prog Try.f7 false true false false) := by
  refine returnsInHanded_of_change_sized (C := Try.checked) own started (by kernel_rfl) Try.func7
    (ChangeSpec.witness6 (enc := enc) (C := Try.checked) false ⟨#[], #[.agg #[.slice none 0 0, .int .i64 0], .int .i64 0], []⟩ 8 (by kernel_rfl) (by kernel_rfl) (by kernel_rfl) (by kernel_rfl)) ?_
  intro W base args ds gs before hval0 hW hcnd hsz0 _
  have hsz : (DataW.weightsEach Try.prog (Try.f7.params.toList ++ Rows.fnExactCutStackSpec.plain.varTypes Try.prog) (ds ++ gs)).all (· ≤ reachBytes) = true := hsz0
  have hval : ∀ (j : Nat) t v, Try.f7.params[j]? = some t → args[j]? = some v → Value.okWide Try.prog W .any base t v := hval0
  have hW' := hW
  obtain ⟨p, q, hA0, hV, rfl, hfz, hnd⟩ := hW
  have hA : DataW.TrodAll enc Try.prog W 0 (fun _ => true) true Try.f7.params.toList args.toList ds p := hA0
  rw [Try.params7] at hA hval hsz
  obtain ⟨v0, vs0, d0, ds0, p0, q0, hargs, rfl, rfl, h0, r0⟩ := trodAll_cons hA
  obtain ⟨v1, vs1, d1, ds1, p1, q1, rfl, rfl, rfl, h1, r1⟩ := trodAll_cons r0
  obtain ⟨rfl, rfl, rfl⟩ := trodAll_nil r1
  obtain rfl : args = #[v0, v1] := by cases args; simp_all
  obtain ⟨rfl, rfl⟩ := trodVars_none hV
  obtain ⟨cs0, rfl, hcs0⟩ := okWide_struct Try.underlying24 (hval 0 24 v0 rfl rfl)
  have k0 := h0
  have lt0 : ∀ x ∈ p0, x.block < W.heap.size := by obtain ⟨m, hm⟩ := k0; exact DataW.trod_lt m _ _ _ hm
  obtain ⟨⟨l0_0, a0_1⟩, hK0, Q0⟩ : ∃ x, ((Kd.pair (Kd.slice 3 (Kd.int .i64)) (Kd.int .i64))).K W x cs0.toList ∧ (x.1.length * 8 ≤ 140737488351232 ∧ x.1.length ≤ maxLen ∧ ∀ yx_1 ∈ x.1, ((Lit.int .i64 yx_1).wf = true)) ∧ ((Lit.int .i64 x.2).wf = true) := by
    obtain ⟨fuel, hf⟩ := h0
    exact opn0 H enc W 0 true fuel _ _ hf (fun n hn => by have := List.all_eq_true.1 hsz n (DataW.weights_mem_each (j := 0) rfl rfl n hn); simpa using this)
  have hE0 : ∃ cs, cs = cs0.toList := ⟨_, rfl⟩
  obtain ⟨cs, hE0⟩ := hE0
  rw [← hE0] at hK0
  obtain ⟨_, _, rfl, ⟨A0_0, c0_0, rfl, lc0_0, hC0_0⟩, rfl⟩ := hK0
  obtain rfl : cs0 = #[.slice A0_0 l0_0.length c0_0, .int .i64 a0_1] := by cases cs0; simpa using hE0.symm
  obtain ⟨a1, rfl, rfl, rfl, w1⟩ := open_int Try.underlying3 (hval 1 3 v1 rfl rfl) h1
  obtain ⟨k, hk⟩ := Pure.FnExactCutStack l0_0 a0_1 a1 Q0 w1
  clear hA0 hval0 hsz0 hsz
  refine (laws_FnExactCutStack.calls k A0_0 c0_0 l0_0 a0_1 a1 true W hC0_0 lc0_0 hk).mono fun e W' hd => ?_
  obtain ⟨he, bel⟩ : e = .returned (.bool true) ∧ Below W.heap.size W W' := by first | exact ⟨hd.1, hd.2⟩ | exact ⟨hd.1, hd.2.below⟩ | exact ⟨hd.1, hd.2.out⟩
  subst he
  exact ⟨_, rfl, _, _, _, [], _, [], hW', trodAll_mk1 (shut_bool Try.underlying4 _), (trodAll_cons_mk (Below.trod laidOut (by kernel_rfl) (of_decide_eq_true (by kernel_rfl)) k0 bel lt0) (trodAll_cons_mk (shut_int Try.underlying3 w1) trodAll_mk0)), rfl, bel.frame _, fun h => by cases h⟩
theorem over : Rows.fnExactCutStackRow.holds Try.pinned (OpenSpec.ofChange Rows.fnExactCutStackSpec) :=
  OpenClaim.holds_of_wide 7 Try.f7 rfl rfl rfl rfl rfl rfl rfl ⟨rfl, rfl, rfl, rfl, rfl⟩ rfl rfl rfl rfl rfl (by kernel_rfl) Try.func7 (by kernel_rfl)
    (of_decide_eq_true (by kernel_rfl)) (by unfold Func.isWrapper; first | (rw [if_pos (by decide +kernel)]; kernel_rfl) | (rw [if_neg (by decide +kernel)]; exact ⟨rfl, rfl⟩))
    (fun os started H enc _ => lifted os started H enc)
theorem proved : Rows.FnExactCutStackSaid := over
#print axioms proved
end Go.Proofs.Ytpmkgeemopcahaa.fnExactCutStack
namespace Go.Proofs.Ytpmkgeemopcahaa
/-- The row, under a short name, for the claim. -/
theorem fnExactCutStack_holds : Rows.FnExactCutStackSaid := fnExactCutStack.proved
end Go.Proofs.Ytpmkgeemopcahaa
