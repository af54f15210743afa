/- Laid by a program of this claim's own. What the Go function does, as a Lean function, and the proof that the Go code does just that; Lean checks it. -/
import Derived.Test.YtmgpjhgjcmijbaaF0
import Derived.Test.YtmgpjhgjcmijbaaF42
import Derived.Test.YtmgpjhgjcmijbaaF59
namespace Go.Proofs.Ytmgpjhgjcmijbaa.F
open Go.RowKit Go.Proofs.YtmgpjhgjcmijbaaW.PrintWords Go.Proofs.YtmgpjhgjcmijbaaW.PrintLast Go.Proofs.YtmgpjhgjcmijbaaW.PrintMore
attribute [local go_sem] max2_int min2_int max_two min_two max_three min_three max_four min_four   -- for this text's walks alone
set_option linter.unusedVariables false
set_option linter.unusedSimpArgs false

/-! ### impl_LastIndex: function 39 -/
def impl_LastIndex.f (k : Nat) (a0 : Int) (a1 : Int) : Option (Int) := (impl_isDuck.f k a0 a1).bind fun b => (if b = true then ((impl_DealOrder.f k a0 a1).bind fun l => (if 0 ≤ (wrap64 (a0 - 1)) then (if (wrap64 (a0 - 1)) < (l.length : Int) then (some (rd l (wrap64 (a0 - 1)))) else (none)) else (none))) else (some (-1)))
theorem impl_LastIndex.mono : ∀ a0 a1 k, LeO (impl_LastIndex.f k a0 a1) (impl_LastIndex.f (k + 1) a0 a1) := by
  intro a0 a1 k
  unfold impl_LastIndex.f
  refine LeO.bind (impl_isDuck.mono _ _ _) (fun _ => LeO.ite (LeO.bind (impl_DealOrder.mono _ _ _) (fun _ => LeO.refl _)) (LeO.refl _))
set_option maxHeartbeats 8000000 in
set_option maxRecDepth 100000 in
theorem impl_DealOrder.calls_nil (k : Nat) (a0 : Int) (a1 : Int) (w : World) (h : impl_isDuck.f k a0 a1 = some false) :
    Calls Try.prog 63 #[.int .i64 a0, .int .i64 a1] w fun e w' => e = .returned (.slice none 0 0) ∧ Below w.heap.size w w' := by
  have H := Aside0.mk h
  clear h
  go_enter Try.func63, Try.ntmps63
  go_wp2_with (go_at_call 58; (with_reducible refine (impl_isDuck.calls k a0 a1 false _ H.out).mono ?_); rintro e w1 ⟨rfl, hb⟩; have HB := Aside0.mk hb; clear hb)
  go_ret
  exact ⟨rfl, HB.out⟩
set_option maxHeartbeats 8000000 in
set_option maxRecDepth 100000 in
theorem impl_LastIndex.calls (k : Nat) (a0 : Int) (a1 : Int) (r : Int) (w : World) (h : impl_LastIndex.f k a0 a1 = some r) :
    Calls Try.prog 39 #[.int .i64 a0, .int .i64 a1] w fun e w' => e = .returned (.int .i64 r) ∧ Below w.heap.size w w' := by
  unfold impl_LastIndex.f at h
  replace h := Option.bind_eq_some_iff.mp h
  obtain ⟨b, hb, h⟩ := h
  cases b with
  | false =>
    have h1 : some (-1) = some r := by rw [if_neg (by decide)] at h; exact h
    obtain rfl := Option.some.inj h1
    have H := Aside0.mk hb
    clear hb h h1
    have hnil := fun (W : World) (n c : Nat) => eql_none_nil (P := Try.prog) 25 3 Try.underlying25 n c W
    go_enter Try.func39, Try.ntmps39
    go_wp2_with (go_at_call 63; (with_reducible refine (impl_DealOrder.calls_nil k a0 a1 _ H.out).mono ?_); rintro e w1 ⟨rfl, hb⟩; have HB := Aside0.mk hb; clear hb)
    go_ret
    exact ⟨rfl, HB.out⟩
  | true =>
    have h1 := by rw [if_pos rfl] at h; exact h
    replace h1 := Option.bind_eq_some_iff.mp h1
    obtain ⟨l, hl, h1⟩ := h1
    by_cases c1 : 0 ≤ (wrap64 (a0 - 1))
    · rw [if_pos c1] at h1
      by_cases c2 : (wrap64 (a0 - 1)) < (l.length : Int)
      · rw [if_pos c2] at h1
        obtain rfl := Option.some.inj h1
        have H := Aside0.mk hl
        clear hb h h1 hl
        obtain ⟨j, hj⟩ : ∃ j : Int, wrap64 (a0 - 1) = j := ⟨_, rfl⟩
        rw [hj] at c1 c2
        have hjw : IntKind.i64.wrap (a0 - 1) = j := (i64_w _).trans hj
        rw [hj]
        have c1b : decide (0 ≤ j) = true := decide_eq_true c1
        have c2b : decide (j < (l.length : Int)) = true := decide_eq_true c2
        go_enter Try.func39, Try.ntmps39
        go_wp2_with (go_at_call 63; (with_reducible refine (impl_DealOrder.calls k a0 a1 l _ H.out).mono ?_); rintro e w1 ⟨v0, rfl, ho, hb⟩; have HB := Aside0.mk hb; obtain ⟨A0, c0, rfl⟩ := Kd.R_slice ho; have hx := (Kd.R_reads' ho).2.2; obtain ⟨ad, ead, hx0⟩ := Kd.at_int hx j c1 c2; cases ead; have hnil := fun (W : World) => eql_some_nil (P := Try.prog) 25 3 Try.underlying25 ad l.length c0 W; clear hb ho hx; have q1 := eq_true c1; have q2 := eq_true c2; clear c1 c2)
        go_ret
        exact ⟨rfl, HB.out⟩
      · rw [if_neg c2] at h1
        cases h1
    · rw [if_neg c1] at h1
      cases h1

end Go.Proofs.Ytmgpjhgjcmijbaa.F
