/- Laid by a program of this claim's own. What the Go function does, as a Lean function, and the proof that the Go code does just that; Lean checks it. -/
import Derived.Test.YtmgpjhgjcmijbaaF0
import Derived.Test.YtmgpjhgjcmijbaaF46
import Derived.Test.YtmgpjhgjcmijbaaF48
import Derived.Test.YtmgpjhgjcmijbaaF49
import Derived.Test.YtmgpjhgjcmijbaaF50
import Derived.Test.YtmgpjhgjcmijbaaF51
namespace Go.Proofs.Ytmgpjhgjcmijbaa.F
open Go.RowKit Go.Proofs.YtmgpjhgjcmijbaaW.PrintWords Go.Proofs.YtmgpjhgjcmijbaaW.PrintLast Go.Proofs.YtmgpjhgjcmijbaaW.PrintMore
attribute [local go_sem] max2_int min2_int max_two min_two max_three min_three max_four min_four   -- for this text's walks alone
set_option linter.unusedVariables false
set_option linter.unusedSimpArgs false

/-! ### laws_FnExactHandsOf: function 10 -/
/-- What is to be shown of numbers and lists: both functions make the same hands; marks that are laid on them are held. -/
def laws_FnExactHandsOf.Pure : Prop := ∀ (a0 a1 : Int), (Lit.int .i64 a0).wf = true → (Lit.int .i64 a1).wf = true → ∃ (k : Nat) (r : List (List Int)) (m1 : Int) (m2 : List (List Int)),
  spec_HandsOf.f k a0 a1 = some r ∧ impl_HandsOf.f k a0 a1 = some r ∧ laws_eqIntSS.f k r r = some true ∧ laws_markIntSS.f k r 1 = some (m1, m2) ∧ laws_heldIntSS.f k m2 1 = some m1 ∧ 0 ≤ m1
set_option maxHeartbeats 8000000 in
set_option maxRecDepth 100000 in
theorem laws_FnExactHandsOf.walk (P : laws_FnExactHandsOf.Pure) (a0 : Int) (a1 : Int) (w : World) (w0 : (Lit.int .i64 a0).wf = true) (w1 : (Lit.int .i64 a1).wf = true) :
    Calls Try.prog 10 #[.int .i64 a0, .int .i64 a1] w fun e w' => e = .returned (.bool true) ∧ Below w.heap.size w w' := by
  obtain ⟨k, r, m1, m2, hs, hi, he, hm, hh, hn⟩ := P a0 a1 w0 w1
  have HS := Aside0.mk hs
  have HI := Aside0.mk hi
  have HE := Aside0.mk he
  have HM := Aside0.mk hm
  have HH := Aside0.mk hh
  have hn1 : decide (m1 < 0) = false := decide_eq_false (by omega)
  clear hs hi he hm hh hn w0 w1 P
  go_enter Try.func10, Try.ntmps10
  go_wp2_with (go_at_call 33; (with_reducible refine (spec_HandsOf.calls k a0 a1 r _ HS.out).mono ?_); rintro e w1 ⟨v0, rfl, ho, hb⟩; obtain ⟨A1, c1, rfl⟩ := Kd.N_slice ho; have B1 := Aside0.mk hb; have C1 := Aside0.mk (Kd.N_reads' ho).2.2; have L1 := Aside0.mk (Kd.N_reads' ho).2.1; clear ho hb)
  go_wp2_with (go_at_call 34; (with_reducible refine (impl_HandsOf.calls k a0 a1 r _ HI.out).mono ?_); rintro e w2 ⟨v1, rfl, ho, hb⟩; obtain ⟨A2, c2, rfl⟩ := Kd.S_slice ho; have B2 := Aside0.mk hb; have S2 := Aside0.mk ho; clear ho hb)
  go_wp2_with (go_at_call 35; (with_reducible refine (laws_eqIntSS.calls k A2 c2 r A1 c1 r true _ (Kd.S_reads' S2.out).2.2 (Kd.S_reads' S2.out).2.1 (Kd.C_below C1.out B2.out) L1.out HE.out).mono ?_); rintro e w3 ⟨rfl, hd⟩; have B3 := Aside0.mk (B2.out.trans (hd.below.mono B2.out.size)); have S3 := Aside0.mk (Kd.S_below S2.out hd.below); clear hd S2)
  go_wp2_with (go_at_call 36; (with_reducible refine (laws_markIntSS.calls k (fun _ => True) _ r 1 m1 m2 w1 _ B3.out S3.out HM.out).mono ?_); rintro e w4 ⟨rfl, ho, hb, hk⟩; have B4 := Aside0.mk hb; have S4 := Aside0.mk ho; have E4 := Aside0.mk (Kd.S_reads' ho).1; clear ho hb hk S3 B3)
  go_wp2_with (go_at_call 37; refine calls_of_args (args' := #[.slice A2 m2.length c2, .int .i64 1]) (by rw [← E4.out]) ?_; (with_reducible refine (laws_heldIntSS.calls k A2 c2 m2 1 m1 _ (Kd.S_reads' S4.out).2.2 (by rw [← E4.out]; exact (Kd.S_reads' S4.out).2.1) HH.out).mono ?_); rintro e w5 ⟨rfl, hd⟩; have B5 := Aside0.mk (B4.out.trans (hd.below.mono B4.out.size)); have S5 := Aside0.mk (Kd.S_below S4.out hd.below); clear hd S4 B4)
  go_wp2_with (go_at_call 34; (with_reducible refine (impl_HandsOf.calls k a0 a1 r _ HI.out).mono ?_); rintro e w6 ⟨v3, rfl, ho, hb⟩; obtain ⟨A3, c3, rfl⟩ := Kd.S_slice ho; have B6 := Aside0.mk (B5.out.trans (hb.mono B5.out.size)); have S6 := Aside0.mk (Kd.S_below S5.out hb); have C6 := Aside0.mk (Kd.S_reads' ho).2.2; have L6 := Aside0.mk (Kd.S_reads' ho).2.1; clear ho hb S5 B5)
  go_wp2_with (go_at_call 35; (with_reducible refine (laws_eqIntSS.calls k A3 c3 r A1 c1 r true _ C6.out L6.out (Kd.C_below C1.out B6.out) L1.out HE.out).mono ?_); rintro e w7 ⟨rfl, hd⟩; have B7 := Aside0.mk (B6.out.trans (hd.below.mono B6.out.size)); have S7 := Aside0.mk (Kd.S_below S6.out hd.below); clear hd S6 B6)
  go_wp2_with (go_at_call 37; refine calls_of_args (args' := #[.slice A2 m2.length c2, .int .i64 1]) (by rw [← E4.out]) ?_; (with_reducible refine (laws_heldIntSS.calls k A2 c2 m2 1 m1 _ (Kd.S_reads' S7.out).2.2 (by rw [← E4.out]; exact (Kd.S_reads' S7.out).2.1) HH.out).mono ?_); rintro e w8 ⟨rfl, hd⟩; have B8 := Aside0.mk (B7.out.trans (hd.below.mono B7.out.size)); clear hd S7 B7)
  go_ret
  exact ⟨rfl, B1.out.trans (B8.out.mono B1.out.size)⟩

end Go.Proofs.Ytmgpjhgjcmijbaa.F
