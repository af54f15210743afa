/- Proved: Rows.FnExactEncodeSaid: at every input that its row speaks of, the law returns true, and its arguments read afterwards as they read before. Conditions: the row's own, no others. -/
import Derived.Test.YtobncomimkmoeaaRows
import Derived.Test.YtobncomimkmoeaaZFnExactEncode10
import Derived.Test.YtobncomimkmoeaaZFnExactEncode11
import Derived.WalkKit
import Derived.ProofKit
import Derived.OpenShut
import Derived.ShutString
import Derived.ChangeOld
import Derived.Below
import Derived.SizedLaws
import Derived.ChangeSlices
namespace Go.Proofs.Ytobncomimkmoeaa.fnExactEncode
open Go.ChangeShapes Go.WideShapes Go.ChangeAt Go.RowKit Go.Proofs.YtobncomimkmoeaaW Go.Proofs.YtobncomimkmoeaaW.PrintWords Go.Proofs.Ytobncomimkmoeaa.F
set_option linter.unusedVariables false
theorem own : ownKnob Try.prog.godebug = none := by kernel_rfl
theorem laidOut : laidOutB Try.prog = true := by kernel_rfl
theorem opn0 : Opn Try.prog 24 ((Kd.pair (Kd.int .i64) (Kd.pair (Kd.slice 25 (Kd.slice 3 (Kd.int .i64))) (Kd.slice 25 (Kd.slice 3 (Kd.int .i64)))))) (fun l => ((Lit.int .i64 l.1).wf = true) ∧ (l.2.1.length * 24 ≤ 140737488351232 ∧ l.2.1.length ≤ maxLen ∧ ∀ yl_2_1 ∈ l.2.1, (yl_2_1.length * 8 ≤ 140737488351232 ∧ yl_2_1.length ≤ maxLen ∧ ∀ yyl_2_1 ∈ yl_2_1, ((Lit.int .i64 yyl_2_1).wf = true))) ∧ (l.2.2.length * 24 ≤ 140737488351232 ∧ l.2.2.length ≤ maxLen ∧ ∀ yl_2_2 ∈ l.2.2, (yl_2_2.length * 8 ≤ 140737488351232 ∧ yl_2_2.length ≤ maxLen ∧ ∀ yyl_2_2 ∈ yl_2_2, ((Lit.int .i64 yyl_2_2).wf = true)))) := (Opn_struct3 Try.underlying24 (by kernel_rfl) (by kernel_rfl) (by kernel_rfl) (by kernel_rfl) (by kernel_rfl) (by kernel_rfl) (by kernel_rfl) (Opn_int Try.underlying3) (Opn_slice 25 24 (by kernel_rfl) Try.underlying22 (by kernel_rfl) (Opn_slice 3 8 (by kernel_rfl) Try.underlying25 (by kernel_rfl) (Opn_int Try.underlying3))) (Opn_slice 25 24 (by kernel_rfl) Try.underlying22 (by kernel_rfl) (Opn_slice 3 8 (by kernel_rfl) Try.underlying25 (by kernel_rfl) (Opn_int Try.underlying3))))
theorem opn1 : Opn Try.prog 25 ((Kd.slice 3 (Kd.int .i64))) (fun l => (l.length * 8 ≤ 140737488351232 ∧ l.length ≤ maxLen ∧ ∀ yl ∈ l, ((Lit.int .i64 yl).wf = true))) := (Opn_slice 3 8 (by kernel_rfl) Try.underlying25 (by kernel_rfl) (Opn_int Try.underlying3))
set_option maxRecDepth 100000 in
theorem lifted (os : Os) (started : os.Started) (H : Type) (enc : TypeId × Value → H) :
    ReturnsInHanded {} Try.checked os 3 .any (Rows.fnExactEncodeSpec.pre6 enc Try.prog Try.f3 Rows.fnExactEncodeRow.domain false) (Rows.fnExactEncodeSpec.post enc Try.prog Try.f3 false true false false) := by
  refine returnsInHanded_of_change_sized (C := Try.checked) own started (by kernel_rfl) Try.func3
    (ChangeSpec.witness6 (enc := enc) (C := Try.checked) false ⟨#[], #[.agg #[.int .i64 0, .slice none 0 0, .slice none 0 0], .slice none 0 0], []⟩ 8 (by kernel_rfl) (by kernel_rfl) (by kernel_rfl) (by kernel_rfl)) ?_
  intro W base args ds gs before hval0 hW hcnd hsz0 _
  have hsz : (DataW.weightsEach Try.prog (Try.f3.params.toList ++ Rows.fnExactEncodeSpec.plain.varTypes Try.prog) (ds ++ gs)).all (· ≤ reachBytes) = true := hsz0
  have hval : ∀ (j : Nat) t v, Try.f3.params[j]? = some t → args[j]? = some v → Value.okWide Try.prog W .any base t v := hval0
  have hW' := hW
  obtain ⟨p, q, hA0, hV, rfl, hfz, hnd⟩ := hW
  have hA : DataW.TrodAll enc Try.prog W 0 (fun _ => true) true Try.f3.params.toList args.toList ds p := hA0
  rw [Try.params3] at hA hval hsz
  obtain ⟨v0, vs0, d0, ds0, p0, q0, hargs, rfl, rfl, h0, r0⟩ := trodAll_cons hA
  obtain ⟨v1, vs1, d1, ds1, p1, q1, rfl, rfl, rfl, h1, r1⟩ := trodAll_cons r0
  obtain ⟨rfl, rfl, rfl⟩ := trodAll_nil r1
  obtain rfl : args = #[v0, v1] := by cases args; simp_all
  obtain ⟨rfl, rfl⟩ := trodVars_none hV
  obtain ⟨cs0, rfl, hcs0⟩ := okWide_struct Try.underlying24 (hval 0 24 v0 rfl rfl)
  have k0 := h0
  have lt0 : ∀ x ∈ p0, x.block < W.heap.size := by obtain ⟨m, hm⟩ := k0; exact DataW.trod_lt m _ _ _ hm
  obtain ⟨⟨a0_0, l0_1, l0_2⟩, hK0, Q0⟩ : ∃ x, ((Kd.pair (Kd.int .i64) (Kd.pair (Kd.slice 25 (Kd.slice 3 (Kd.int .i64))) (Kd.slice 25 (Kd.slice 3 (Kd.int .i64)))))).K W x cs0.toList ∧ ((Lit.int .i64 x.1).wf = true) ∧ (x.2.1.length * 24 ≤ 140737488351232 ∧ x.2.1.length ≤ maxLen ∧ ∀ yx_2_1 ∈ x.2.1, (yx_2_1.length * 8 ≤ 140737488351232 ∧ yx_2_1.length ≤ maxLen ∧ ∀ yyx_2_1 ∈ yx_2_1, ((Lit.int .i64 yyx_2_1).wf = true))) ∧ (x.2.2.length * 24 ≤ 140737488351232 ∧ x.2.2.length ≤ maxLen ∧ ∀ yx_2_2 ∈ x.2.2, (yx_2_2.length * 8 ≤ 140737488351232 ∧ yx_2_2.length ≤ maxLen ∧ ∀ yyx_2_2 ∈ yx_2_2, ((Lit.int .i64 yyx_2_2).wf = true))) := by
    obtain ⟨fuel, hf⟩ := h0
    exact opn0 H enc W 0 true fuel _ _ hf (fun n hn => by have := List.all_eq_true.1 hsz n (DataW.weights_mem_each (j := 0) rfl rfl n hn); simpa using this)
  have hE0 : ∃ cs, cs = cs0.toList := ⟨_, rfl⟩
  obtain ⟨cs, hE0⟩ := hE0
  rw [← hE0] at hK0
  obtain ⟨_, _, rfl, rfl, ⟨_, _, rfl, ⟨A0_1, c0_1, rfl, lc0_1, hC0_1⟩, ⟨A0_2, c0_2, rfl, lc0_2, hC0_2⟩⟩⟩ := hK0
  obtain rfl : cs0 = #[.int .i64 a0_0, .slice A0_1 l0_1.length c0_1, .slice A0_2 l0_2.length c0_2] := by cases cs0; simpa using hE0.symm
  obtain ⟨a1, len1, cap1, rfl⟩ := okWide_slice Try.underlying25 (hval 1 25 v1 rfl rfl)
  have k1 := h1
  have lt1 : ∀ x ∈ p1, x.block < W.heap.size := by obtain ⟨m, hm⟩ := k1; exact DataW.trod_lt m _ _ _ hm
  obtain ⟨l1, ⟨A1, c1, he1, lc1, hC1⟩, Q1⟩ : ∃ l : List (Int), ((Kd.slice 3 (Kd.int .i64))).K W l [.slice a1 len1 cap1] ∧ (l.length * 8 ≤ 140737488351232 ∧ l.length ≤ maxLen ∧ ∀ yl ∈ l, ((Lit.int .i64 yl).wf = true)) := by
    obtain ⟨fuel, hf⟩ := h1
    exact opn1 H enc W 0 true fuel _ _ hf (fun n hn => by have := List.all_eq_true.1 hsz n (DataW.weights_mem_each (j := 1) rfl rfl n hn); simpa using this)
  obtain ⟨rfl, rfl, rfl⟩ : a1 = A1 ∧ len1 = l1.length ∧ cap1 = c1 := by simpa using he1
  obtain ⟨k, hk⟩ := Pure.FnExactEncode a0_0 l0_1 l0_2 l1 Q0 Q1
  clear hA0 hval0 hsz0 hsz
  refine (laws_FnExactEncode.calls k a0_0 A0_1 c0_1 l0_1 A0_2 c0_2 l0_2 a1 cap1 l1 true W hC0_1 lc0_1 hC0_2 lc0_2 hC1 lc1 hk).mono fun e W' hd => ?_
  obtain ⟨he, bel⟩ : e = .returned (.bool true) ∧ Below W.heap.size W W' := by first | exact ⟨hd.1, hd.2⟩ | exact ⟨hd.1, hd.2.below⟩ | exact ⟨hd.1, hd.2.out⟩
  subst he
  exact ⟨_, rfl, _, _, _, [], _, [], hW', trodAll_mk1 (shut_bool Try.underlying4 _), (trodAll_cons_mk (Below.trod laidOut (by kernel_rfl) (of_decide_eq_true (by kernel_rfl)) k0 bel lt0) (trodAll_cons_mk (Below.trod laidOut (by kernel_rfl) (of_decide_eq_true (by kernel_rfl)) k1 bel lt1) trodAll_mk0)), rfl, bel.frame _, fun h => by cases h⟩
theorem over : Rows.fnExactEncodeRow.holds Try.pinned (OpenSpec.ofChange Rows.fnExactEncodeSpec) :=
  OpenClaim.holds_of_wide 3 Try.f3 rfl rfl rfl rfl rfl rfl rfl ⟨rfl, rfl, rfl, rfl, rfl⟩ rfl rfl rfl rfl rfl (by kernel_rfl) Try.func3 (by kernel_rfl)
    (of_decide_eq_true (by kernel_rfl)) (by unfold Func.isWrapper; first | (rw [if_pos (by decide +kernel)]; kernel_rfl) | (rw [if_neg (by decide +kernel)]; exact ⟨rfl, rfl⟩))
    (fun os started H enc _ => lifted os started H enc)
theorem proved : Rows.FnExactEncodeSaid := over
#print axioms proved
end Go.Proofs.Ytobncomimkmoeaa.fnExactEncode
namespace Go.Proofs.Ytobncomimkmoeaa
/-- The row, under a short name, for the claim. -/
theorem fnExactEncode_holds : Rows.FnExactEncodeSaid := fnExactEncode.proved
end Go.Proofs.Ytobncomimkmoeaa
