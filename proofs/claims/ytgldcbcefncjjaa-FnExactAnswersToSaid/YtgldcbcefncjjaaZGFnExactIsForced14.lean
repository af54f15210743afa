import Derived.Test.YtgldcbcefncjjaaZGFnExactIsForced4
import Derived.Test.YtgldcbcefncjjaaZGFnExactIsForced7
import Derived.Test.YtgldcbcefncjjaaZGFnExactIsForced13
import Derived.Test.YtgldcbcefncjjaaZGFnExactIsForced8
import Derived.Test.YtgldcbcefncjjaaZGFnExactIsForced9
import Derived.Test.YtgldcbcefncjjaaZGFnExactIsForced5
section
/- Laid by a program of this claim's own. What the Go function does, as a Lean function, and the proof that the Go code does just that; Lean checks it. -/
namespace Go.Proofs.Ytgldcbcefncjjaa.F
open Go.RowKit Go.Proofs.YtgldcbcefncjjaaW.PrintWords Go.Proofs.YtgldcbcefncjjaaW.PrintLast Go.Proofs.YtgldcbcefncjjaaW.PrintMore
attribute [local go_sem] max2_int min2_int max_two min_two max_three min_three max_four min_four   -- for this text's walks alone
set_option linter.unusedVariables false
set_option linter.unusedSimpArgs false
/-! ### impl_AnswersTo: function 26 -/
def impl_AnswersTo.f (k : Nat) (l0 : List (S49)) (a1 : Int) : Option (List Int × Bool) := (impl_ForceOk.f k l0).bind fun t338 => (if t338 = true then ((impl_answersFrom.f k l0 0 a1).bind fun bt339 => (some (bt339.1, bt339.2))) else (some (([] : List Int), false)))
set_option maxHeartbeats 8000000 in
set_option maxRecDepth 100000 in
theorem impl_AnswersTo.calls (k : Nat) (A0 : Option Addr) (c0 : Nat) (l0 : List (S49)) (a1 : Int) (r1 : List Int) (r2 : Bool) (w : World) (hr0 : Kd.C k49 w A0 l0.length l0) (hc0 : l0.length ≤ c0) (h : impl_AnswersTo.f k l0 a1 = some (r1, r2)) :
    Calls Try.prog 26 #[.slice A0 l0.length c0, .int .i64 a1] w fun e w' => ∃ v0_ : Value, e = .returned (.tuple #[v0_, .bool r2]) ∧ Kd.R (Kd.int .i64) 3 w' w.heap.size (fun _ => True) v0_ r1 ∧ Below w.heap.size w w' := by
  have HR0 := Aside0.mk hr0
  have HC0 := Aside0.mk hc0
  clear hr0 hc0
  have HB := Aside0.mk (Below.refl w.heap.size w)
  have H : ((impl_ForceOk.f k l0).bind fun t338 => (if t338 = true then ((impl_answersFrom.f k l0 0 a1).bind fun bt339 => (some (bt339.1, bt339.2))) else (some (([] : List Int), false)))) = some (r1, r2) := h
  clear h
  replace H := Option.bind_eq_some_iff.mp H
  obtain ⟨t338, A30, H⟩ := H
  replace H : (if t338 = true then ((impl_answersFrom.f k l0 0 a1).bind fun bt339 => (some (bt339.1, bt339.2))) else (some (([] : List Int), false))) = some (r1, r2) := H
  have A3 := Aside0.mk A30
  clear A30
  by_cases c4 : t338 = true
  · subst c4
    have H1 : ((impl_answersFrom.f k l0 0 a1).bind fun bt339 => (some (bt339.1, bt339.2))) = some (r1, r2) := by rw [if_pos rfl] at H; exact H
    clear H
    have H := H1
    clear H1
    replace H := Option.bind_eq_some_iff.mp H
    obtain ⟨⟨t339, t340⟩, A50, H⟩ := H
    replace H : (some (t339, t340)) = some (r1, r2) := H
    have A5 := Aside0.mk A50
    clear A50
    simp only [Option.some.injEq, Prod.mk.injEq] at H
    obtain ⟨rfl, rfl⟩ := H
    go_enter Try.func26, Try.ntmps26
    go_wp2_with (first | ((with_reducible refine gate_callee (f := 34) rfl ?_); refine goesL_ (some 7) rfl rfl Try.func34 (by kernel_rfl) rfl #[.slice A0 l0.length c0] rfl (by (try simp only [List.map_toArray, List.map_cons, List.map_nil]); first | done | rfl | (simp only [List.length_drop, List.length_take]; rfl)) ?_; (with_reducible refine (impl_ForceOk.calls k _ _ l0 true _ ?side1 ?side2 A3.out).mono ?_); (case side1 => repeat (first | exact HR0.out | (with_reducible refine Kd.C_alloc ?_ _) | (with_reducible refine Kd.C_drewN ?_ _) | (with_reducible refine Kd.C_drew ?_))); (case side2 => exact HC0.out); rintro e w6 ⟨rfl, hb⟩; refine ⟨_, rfl, ?_⟩; have n0_ := Aside0.mk (below_step (by repeat (first | (with_reducible first | exact HB.out | apply below_alloc | apply pw_below_drewN | apply below_drew1) | exact HB.out)) hb); clear HB; have HB := n0_; clear n0_; (try clear hb); (try clear hb2); (try clear hk); (try clear hi)) | ((with_reducible refine gate_callee (f := 60) rfl ?_); refine goesL_ (some 11) rfl rfl Try.func60 (by kernel_rfl) rfl #[.slice A0 l0.length c0, .int .i64 0, .int .i64 a1] rfl (by (try simp only [List.map_toArray, List.map_cons, List.map_nil]); first | done | rfl | (simp only [List.length_drop, List.length_take]; rfl)) ?_; (with_reducible refine (impl_answersFrom.calls k _ _ l0 0 a1 t339 t340 _ ?side1 ?side2 A5.out).mono ?_); (case side1 => repeat (first | exact (Kd.C_below HR0.out HB.out) | (with_reducible refine Kd.C_alloc ?_ _) | (with_reducible refine Kd.C_drewN ?_ _) | (with_reducible refine Kd.C_drew ?_))); (case side2 => exact HC0.out); rintro e w7 ⟨v341, rfl, ho0, hb⟩; refine ⟨_, rfl, ?_⟩; have n0_ := Aside0.mk (Kd.R_lower ho0 (below_size (by repeat (first | (with_reducible first | exact HB.out | apply below_alloc | apply pw_below_drewN | apply below_drew1) | exact HB.out)))); have n1_ := Aside0.mk (below_step (by repeat (first | (with_reducible first | exact HB.out | apply below_alloc | apply pw_below_drewN | apply below_drew1) | exact HB.out)) hb); clear HB; have HO342 := n0_; have HB := n1_; clear n0_ n1_; (try clear hb); (try clear hb2); (try clear hk); (try clear hi); (try clear ho0)))
    go_ret2
    exact ⟨_, by first | rfl | (simp [errW_none, errW_some] <;> rfl) | (simp [*, errW_none, errW_some] <;> rfl), by (with_reducible repeat (first | apply Kd.R_alloc | apply Kd.R_drewN | apply Kd.R_drew)); exact HO342.out, by repeat (first | (with_reducible first | exact HB.out | apply below_alloc | apply pw_below_drewN | apply below_drew1) | exact HB.out)⟩
  · replace c4 := Bool.eq_false_iff.mpr c4
    subst c4
    have H1 : (some (([] : List Int), false)) = some (r1, r2) := by rw [if_neg (show ¬ (false = true) by decide)] at H; exact H
    clear H
    have H := H1
    clear H1
    simp only [Option.some.injEq, Prod.mk.injEq] at H
    obtain ⟨rfl, rfl⟩ := H
    go_enter Try.func26, Try.ntmps26
    go_wp2_with (first | ((with_reducible refine gate_callee (f := 34) rfl ?_); refine goesL_ (some 7) rfl rfl Try.func34 (by kernel_rfl) rfl #[.slice A0 l0.length c0] rfl (by (try simp only [List.map_toArray, List.map_cons, List.map_nil]); first | done | rfl | (simp only [List.length_drop, List.length_take]; rfl)) ?_; (with_reducible refine (impl_ForceOk.calls k _ _ l0 false _ ?side1 ?side2 A3.out).mono ?_); (case side1 => repeat (first | exact HR0.out | (with_reducible refine Kd.C_alloc ?_ _) | (with_reducible refine Kd.C_drewN ?_ _) | (with_reducible refine Kd.C_drew ?_))); (case side2 => exact HC0.out); rintro e w8 ⟨rfl, hb⟩; refine ⟨_, rfl, ?_⟩; have n0_ := Aside0.mk (below_step (by repeat (first | (with_reducible first | exact HB.out | apply below_alloc | apply pw_below_drewN | apply below_drew1) | exact HB.out)) hb); clear HB; have HB := n0_; clear n0_; (try clear hb); (try clear hb2); (try clear hk); (try clear hi)))
    go_ret2
    exact ⟨_, by first | rfl | (simp [errW_none, errW_some] <;> rfl) | (simp [*, errW_none, errW_some] <;> rfl), by first | exact Kd.R_nil _ _ _ _ _ | exact Kd.N_nil _ _ _ _ _ | exact Kd.V_nil _ _ _ _ _ | exact Kd.Q_nil _ _ _ _ _ | exact Kd.S_nil _ _ _ _ _, by repeat (first | (with_reducible first | exact HB.out | apply below_alloc | apply pw_below_drewN | apply below_drew1) | exact HB.out)⟩
end Go.Proofs.Ytgldcbcefncjjaa.F
end
section
/- Laid by a program of this claim's own. What the Go function does, as a Lean function, and the proof that the Go code does just that; Lean checks it. -/
namespace Go.Proofs.Ytgldcbcefncjjaa.F
open Go.RowKit Go.Proofs.YtgldcbcefncjjaaW.PrintWords Go.Proofs.YtgldcbcefncjjaaW.PrintLast Go.Proofs.YtgldcbcefncjjaaW.PrintMore
attribute [local go_sem] max2_int min2_int max_two min_two max_three min_three max_four min_four   -- for this text's walks alone
set_option linter.unusedVariables false
set_option linter.unusedSimpArgs false
/-! ### laws_FnExactAnswersTo: function 5 -/
/-- What is to be shown of numbers and lists: both functions make the same; marks that are laid are held. -/
def laws_FnExactAnswersTo.f (k : Nat) (l0 : List S66) (a1 : Int) : Option Bool :=
  (laws_szNodeS.f k l0 1048576).bind fun s => if s < 0 then some true else
  (laws_toNodeS.f k l0).bind fun X => (spec_AnswersTo.f k X a1).bind fun R => (laws_markNodeS.f k X 1).bind fun M => (laws_markIntS.f k R.1 1).bind fun m =>
    if impl_AnswersTo.f k X a1 = some R ∧ laws_eqIntS.f k R.1 R.1 = some true ∧ laws_eqNodeS.f k X X = some true ∧ 0 ≤ M.1 ∧ 0 ≤ m.1 ∧ laws_heldIntS.f k m.2 1 = some m.1 then some true else none
set_option maxHeartbeats 16000000 in
set_option maxRecDepth 100000 in
theorem laws_FnExactAnswersTo.calls_big (k : Nat) (A0 : Option Addr) (c0 : Nat) (l0 : List S66) (a1 : Int) (s : Int) (w : World) (hr0 : Kd.C k66 w A0 l0.length l0) (hc0 : l0.length ≤ c0) (hs : laws_szNodeS.f k l0 1048576 = some s) (hneg : s < 0) :
    Calls Try.prog 5 #[.slice A0 l0.length c0, .int .i64 a1] w fun e w' => e = .returned (.bool true) ∧ Below w.heap.size w w' := by
  have HR0 := Aside0.mk hr0
  have HC0 := Aside0.mk hc0
  have HS := Aside0.mk hs
  have g1 : decide (s < 0) = true := decide_eq_true hneg
  clear hr0 hc0 hs hneg
  go_enter Try.func5, Try.ntmps5
  go_wp2_with (go_at_call 23; (with_reducible refine (laws_szNodeS.calls k A0 c0 l0 1048576 s _ HR0.out HC0.out HS.out).mono ?_); rintro e w1 ⟨rfl, hd⟩; have B1 := Aside0.mk hd; clear hd)
  go_ret
  exact ⟨rfl, B1.out⟩
set_option maxHeartbeats 16000000 in
set_option maxRecDepth 100000 in
theorem laws_FnExactAnswersTo.calls_in (k : Nat) (A0 : Option Addr) (c0 : Nat) (l0 : List S66) (a1 : Int) (w : World) (hr0 : Kd.C k66 w A0 l0.length l0) (hc0 : l0.length ≤ c0) (s : Int) (hsz : laws_szNodeS.f k l0 1048576 = some s) (hneg : ¬ s < 0) (X : List S49) (ht : laws_toNodeS.f k l0 = some X) (r : List Int) (b : Bool) (hs : spec_AnswersTo.f k X a1 = some (r, b)) (M1 : Int) (M2 : List S49) (hM : laws_markNodeS.f k X 1 = some (M1, M2)) (m1 : Int) (m2 : List Int) (hm : laws_markIntS.f k r 1 = some (m1, m2)) (hi : impl_AnswersTo.f k X a1 = some (r, b)) (he : laws_eqIntS.f k r r = some true) (hq : laws_eqNodeS.f k X X = some true) (hn1 : 0 ≤ M1) (hn2 : 0 ≤ m1) (hh : laws_heldIntS.f k m2 1 = some m1) :
    Calls Try.prog 5 #[.slice A0 l0.length c0, .int .i64 a1] w fun e w' => e = .returned (.bool true) ∧ Below w.heap.size w w' := by
  have HR0 := Aside0.mk hr0
  have HC0 := Aside0.mk hc0
  have HT := Aside0.mk ht
  have HQ := Aside0.mk hq
  have HM := Aside0.mk hM
  have g2 : decide (M1 < 0) = false := decide_eq_false (by omega)
  have HSZ := Aside0.mk hsz
  have g1 : decide (s < 0) = false := decide_eq_false hneg
  have HS := Aside0.mk hs
  have HI := Aside0.mk hi
  have HE := Aside0.mk he
  have HM1 := Aside0.mk hm
  have HH := Aside0.mk hh
  have g3 : decide (m1 < 0) = false := decide_eq_false (by omega)
  have g4 : (b == b) = true := beq_self_eq_true b
  have g5 : (b != b) = false := bne_self_eq_false b
  clear hr0 hc0 ht hq hM hn1 hs hm hi he hn2 hh hsz hneg
  go_enter Try.func5, Try.ntmps5
  go_wp2_with (go_at_call 23; (with_reducible refine (laws_szNodeS.calls k A0 c0 l0 1048576 s _ HR0.out HC0.out HSZ.out).mono ?_); rintro e w1 ⟨rfl, hd⟩; have B1 := Aside0.mk hd; clear hd)
  go_wp2_with (go_at_call 25; (with_reducible refine (laws_toNodeS.calls k A0 c0 l0 X _ (Kd.C_below HR0.out B1.out) HC0.out HT.out).mono ?_); rintro e w2 ⟨v, rfl, ho, hb⟩; obtain ⟨A2, c2, rfl⟩ := Kd.S_slice ho; have B2 := Aside0.mk (below_step B1.out hb); have C2 := Aside0.mk (Kd.S_reads' ho).2.2; have L2 := Aside0.mk (Kd.S_reads' ho).2.1; clear ho hb B1)
  go_wp2_with (go_at_call 24; (with_reducible refine (spec_AnswersTo.calls k A2 c2 X a1 r b _ C2.out L2.out HS.out).mono ?_); rintro e w3 ⟨v, rfl, ho, hb⟩; obtain ⟨A3, c3, rfl⟩ := Kd.R_slice ho; have B3 := Aside0.mk (below_step B2.out hb); have C3 := Aside0.mk (Kd.R_reads' ho).2.2; have L3 := Aside0.mk (Kd.R_reads' ho).2.1; clear ho hb B2 C2 L2)
  go_wp2_with (go_at_call 25; (with_reducible refine (laws_toNodeS.calls k A0 c0 l0 X _ (Kd.C_below HR0.out B3.out) HC0.out HT.out).mono ?_); rintro e w4 ⟨v, rfl, ho, hb⟩; obtain ⟨A4, c4, rfl⟩ := Kd.S_slice ho; have D4 := Aside0.mk hb; have X4 := Aside0.mk ho; have SZ := Aside0.mk hb.size; clear ho hb)
  go_wp2_with (go_at_call 26; (with_reducible refine (impl_AnswersTo.calls k A4 c4 X a1 r b _ (Kd.S_reads' X4.out).2.2 (Kd.S_reads' X4.out).2.1 HI.out).mono ?_); rintro e w5 ⟨v, rfl, ho, hb⟩; obtain ⟨A5, c5, rfl⟩ := Kd.R_slice ho; have D5 := Aside0.mk (below_step D4.out hb); have G5 := Aside0.mk ho; have X5 := Aside0.mk (Kd.S_old X4.out hb); clear ho hb D4 X4)
  go_wp2_with (go_at_call 17; (with_reducible refine (laws_eqIntS.calls k A5 c5 r A3 c3 r true _ (Kd.R_reads' G5.out).2.2 (Kd.R_reads' G5.out).2.1 (Kd.C_below C3.out D5.out) L3.out HE.out).mono ?_); rintro e w6 ⟨rfl, hd⟩; have D6 := Aside0.mk (below_step D5.out hd.below); have G6 := Aside0.mk (Kd.R_below G5.out hd.below); have X6 := Aside0.mk (Kd.S_below X5.out hd.below); clear hd D5 G5 X5)
  go_wp2_with (go_at_call 25; (with_reducible refine (laws_toNodeS.calls k A0 c0 l0 X _ (Kd.C_below HR0.out (below_step B3.out D6.out)) HC0.out HT.out).mono ?_); rintro e w7 ⟨v, rfl, ho, hb⟩; obtain ⟨A7, c7, rfl⟩ := Kd.S_slice ho; have D7 := Aside0.mk (below_step D6.out hb); have G7 := Aside0.mk (Kd.R_below G6.out hb); have X7 := Aside0.mk (Kd.S_below X6.out hb); have C7 := Aside0.mk (Kd.S_reads' ho).2.2; have L7 := Aside0.mk (Kd.S_reads' ho).2.1; clear ho hb D6 G6 X6)
  go_wp2_with (go_at_call 16; (with_reducible refine (laws_eqNodeS.calls k A4 c4 X A7 c7 X true _ (Kd.S_reads' X7.out).2.2 (Kd.S_reads' X7.out).2.1 C7.out L7.out HQ.out).mono ?_); rintro e w8 ⟨rfl, hd⟩; have D8 := Aside0.mk (below_step D7.out hd); have G8 := Aside0.mk (Kd.R_below G7.out hd); have X8 := Aside0.mk (Kd.S_below X7.out hd); clear hd D7 G7 X7 C7 L7)
  go_wp2_with (go_at_call 19; (with_reducible refine (laws_markNodeS.calls k (fun k_ => True ∧ k_ < w4.heap.size) _ X 1 M1 M2 w3 _ D8.out X8.out HM.out).mono ?_); rintro e w9 ⟨rfl, ho, hb, hk⟩; have D9 := Aside0.mk hb; have G9 := Aside0.mk (Kd.R_lower (R_past G8.out hk (fun k_ h_ e_ => Nat.lt_irrefl _ (Nat.lt_of_lt_of_le e_.2 h_))) SZ.out); clear ho hb hk D8 G8 X8)
  go_wp2_with (go_at_call 17; (with_reducible refine (laws_eqIntS.calls k A5 c5 r A3 c3 r true _ (Kd.R_reads' G9.out).2.2 (Kd.R_reads' G9.out).2.1 (Kd.C_below C3.out D9.out) L3.out HE.out).mono ?_); rintro e w10 ⟨rfl, hd⟩; have D10 := Aside0.mk (below_step D9.out hd.below); have G10 := Aside0.mk (Kd.R_below G9.out hd.below); clear hd D9 G9)
  go_wp2_with (go_at_call 18; (with_reducible refine (laws_markIntS.calls k (fun _ => True) _ r 1 m1 m2 w3 _ D10.out G10.out HM1.out).mono ?_); rintro e w11 ⟨rfl, ho, hb, hk⟩; have D11 := Aside0.mk hb; have G11 := Aside0.mk ho; have E0 := Aside0.mk (Kd.R_reads' ho).1; clear ho hb hk D10 G10)
  go_wp2_with (go_at_call 27; refine calls_of_args (args' := #[.slice A5 m2.length c5, .int .i64 1]) (by rw [← E0.out]) ?_; (with_reducible refine (laws_heldIntS.calls k A5 c5 m2 1 m1 _ (Kd.R_reads' G11.out).2.2 (by rw [← E0.out]; exact (Kd.R_reads' G11.out).2.1) HH.out).mono ?_); rintro e w12 ⟨rfl, hd⟩; have D12 := Aside0.mk (below_step D11.out hd.below); have G12 := Aside0.mk (Kd.R_below G11.out hd.below); clear hd D11 G11)
  go_wp2_with (go_at_call 25; (with_reducible refine (laws_toNodeS.calls k A0 c0 l0 X _ (Kd.C_below HR0.out (below_step B3.out D12.out)) HC0.out HT.out).mono ?_); rintro e w13 ⟨v, rfl, ho, hb⟩; obtain ⟨A13, c13, rfl⟩ := Kd.S_slice ho; have D13 := Aside0.mk (below_step D12.out hb); have G13 := Aside0.mk (Kd.R_below G12.out hb); have C13 := Aside0.mk (Kd.S_reads' ho).2.2; have L13 := Aside0.mk (Kd.S_reads' ho).2.1; clear ho hb D12 G12)
  go_wp2_with (go_at_call 26; (with_reducible refine (impl_AnswersTo.calls k A13 c13 X a1 r b _ C13.out L13.out HI.out).mono ?_); rintro e w14 ⟨v, rfl, ho, hb⟩; obtain ⟨A14, c14, rfl⟩ := Kd.R_slice ho; have D14 := Aside0.mk (below_step D13.out hb); have G14 := Aside0.mk (Kd.R_below G13.out hb); have C14 := Aside0.mk (Kd.R_reads' ho).2.2; have L14 := Aside0.mk (Kd.R_reads' ho).2.1; clear ho hb D13 G13 C13 L13)
  go_wp2_with (go_at_call 17; (with_reducible refine (laws_eqIntS.calls k A14 c14 r A3 c3 r true _ C14.out L14.out (Kd.C_below C3.out D14.out) L3.out HE.out).mono ?_); rintro e w15 ⟨rfl, hd⟩; have D15 := Aside0.mk (below_step D14.out hd.below); have G15 := Aside0.mk (Kd.R_below G14.out hd.below); clear hd D14 G14 C14 L14)
  go_wp2_with (go_at_call 27; refine calls_of_args (args' := #[.slice A5 m2.length c5, .int .i64 1]) (by rw [← E0.out]) ?_; (with_reducible refine (laws_heldIntS.calls k A5 c5 m2 1 m1 _ (Kd.R_reads' G15.out).2.2 (by rw [← E0.out]; exact (Kd.R_reads' G15.out).2.1) HH.out).mono ?_); rintro e w16 ⟨rfl, hd⟩; have D16 := Aside0.mk (below_step D15.out hd.below); clear hd D15 G15)
  go_ret
  exact ⟨rfl, below_step B3.out D16.out⟩
theorem laws_FnExactAnswersTo.calls (k : Nat) (A0 : Option Addr) (c0 : Nat) (l0 : List S66) (a1 : Int) (r : Bool) (w : World) (hr0 : Kd.C k66 w A0 l0.length l0) (hc0 : l0.length ≤ c0) (h : laws_FnExactAnswersTo.f k l0 a1 = some r) :
    Calls Try.prog 5 #[.slice A0 l0.length c0, .int .i64 a1] w fun e w' => e = .returned (.bool r) ∧ Below w.heap.size w w' := by
  unfold laws_FnExactAnswersTo.f at h
  obtain ⟨s, h1, h⟩ := Option.bind_eq_some_iff.mp h
  by_cases hs : s < 0
  · rw [if_pos hs] at h
    obtain rfl := Option.some.inj h
    exact laws_FnExactAnswersTo.calls_big k A0 c0 l0 a1 s w hr0 hc0 h1 hs
  · rw [if_neg hs] at h
    obtain ⟨X, h2, h⟩ := Option.bind_eq_some_iff.mp h
    obtain ⟨⟨R1, R2⟩, h3, h⟩ := Option.bind_eq_some_iff.mp h
    obtain ⟨⟨M1, M2⟩, h4, h⟩ := Option.bind_eq_some_iff.mp h
    obtain ⟨⟨m1, m2⟩, h5, h⟩ := Option.bind_eq_some_iff.mp h
    split at h
    · rename_i hc
      obtain ⟨q1, q2, q3, q4, q5, q6⟩ := hc
      obtain rfl := Option.some.inj h
      exact laws_FnExactAnswersTo.calls_in k A0 c0 l0 a1 w hr0 hc0 s h1 hs X h2 R1 R2 h3 M1 M2 h4 m1 m2 h5 q1 q2 q3 q4 q5 q6
    · cases h
end Go.Proofs.Ytgldcbcefncjjaa.F
end
section
namespace Go.Proofs.Ytgldcbcefncjjaa.F
open Go.RowKit Go.Proofs.YtgldcbcefncjjaaW.PrintWords
/-- What is to be shown of numbers and lists. -/
def laws_FnExactAnswersTo.Pure : Prop := ∀ (l0 : List (S66)) (a1 : Int), ((l0.length * 48 ≤ 140737488351232 ∧ l0.length ≤ maxLen ∧ ∀ yl0 ∈ l0, ((yl0.f0.size ≤ maxLen ∧ yl0.f0.size ≤ 140737488351232) ∧ (yl0.f1.length * 8 ≤ 140737488351232 ∧ yl0.f1.length ≤ maxLen ∧ ∀ yyl0_f1 ∈ yl0.f1, ((Lit.int .i64 yyl0_f1).wf = true)) ∧ ((Lit.int .i64 yl0.f2).wf = true)))) → (((Lit.int .i64 a1).wf = true)) → ∃ k, laws_FnExactAnswersTo.f k l0 a1 = some true
end Go.Proofs.Ytgldcbcefncjjaa.F
end
section
/- What a force's check says of it; how deep it is. -/
namespace Go.Proofs.Ytgldcbcefncjjaa.F
open Go.RowKit Go.Proofs.YtgldcbcefncjjaaW.PrintWords Go.Proofs.YtgldcbcefncjjaaW.PrintLast Go.Proofs.YtgldcbcefncjjaaW.PrintMore
set_option linter.unusedVariables false
set_option linter.unusedSimpArgs false
theorem nextM_range (i n : Int) (vs : List Int) : ∀ (c c' : List Int), nextM i n vs c = some c' → ∀ v ∈ vs, i < v ∧ v < n := by
  induction vs with
  | nil => intro c c' h v hv; simp at hv
  | cons w vs ih =>
    intro c c' h v hv
    unfold nextM at h
    by_cases q : i < w ∧ w < n
    · rw [if_pos q] at h
      rcases List.mem_cons.mp hv with rfl | hv
      · exact q
      · exact ih _ _ h v hv
    · rw [if_neg q] at h
      exact absurd h (by simp)
def nodeAt (l : List IN) (c : Int) : IN := rd_T49 l c
def occ (v : Int) (l : List IN) : Nat := (l.flatMap fun x => x.f1).count v
theorem occ_cons (v : Int) (x : IN) (l : List IN) : occ v (x :: l) = x.f1.count v + occ v l := by simp [occ]
theorem rd_set (c : List Int) (i j : Nat) (x : Int) (hi : i < c.length) : rd (c.set i x) (j : Int) = if i = j then x else rd c (j : Int) := by
  unfold rd
  rw [Int.toNat_natCast, List.getD_eq_getElem?_getD, List.getD_eq_getElem?_getD, List.getElem?_set]
  by_cases h : i = j
  · subst h; simp [hi]
  · simp [h]
theorem nextM_count (i n : Int) (h0 : 0 ≤ i) (vs : List Int) : ∀ (c c' : List Int) (v : Nat), nextM i n vs c = some c' → (c.length : Int) = n → 0 ≤ rd c v → rd c v + vs.length ≤ 4611686018427387904 → rd c' v = rd c v + (vs.count (v : Int) : Int) := by
  induction vs with
  | nil => intro c c' v h hc h1 h2; simp [nextM] at h; rw [h]; simp
  | cons w vs ih =>
    intro c c' v h hc h1 h2
    unfold nextM at h
    by_cases q : i < w ∧ w < n
    · rw [if_pos q] at h
      obtain ⟨u, rfl⟩ := Int.eq_ofNat_of_zero_le (show 0 ≤ w by omega)
      have hlt : u < c.length := by omega
      rw [Int.toNat_natCast] at h
      simp only [List.length_cons] at h2
      by_cases e : u = v
      · subst e
        have hw : wrap64 (rd c (u : Int) + 1) = rd c (u : Int) + 1 := w64_id (by omega) (by omega)
        rw [hw] at h
        have h3 := ih _ _ u h (by rw [List.length_set]; exact hc) (by rw [rd_set _ _ _ _ hlt, if_pos rfl]; omega) (by rw [rd_set _ _ _ _ hlt, if_pos rfl]; omega)
        rw [rd_set _ _ _ _ hlt, if_pos rfl] at h3
        rw [h3, List.count_cons_self]
        omega
      · have h3 := ih _ _ v h (by rw [List.length_set]; exact hc) (by rw [rd_set _ _ _ _ hlt, if_neg e]; exact h1) (by rw [rd_set _ _ _ _ hlt, if_neg e]; omega)
        rw [rd_set _ _ _ _ hlt, if_neg e] at h3
        rw [h3, List.count_cons_of_ne (by omega)]
    · rw [if_neg q] at h
      exact absurd h (by simp)
theorem forceM_count (n : Int) (xs : List IN) : ∀ (i : Int) (c c' : List Int) (v : Nat), 0 ≤ i → forceM n i xs c = some c' → (c.length : Int) = n → 0 ≤ rd c v → (∀ x ∈ xs, x.f1.length ≤ 1048576) → rd c v + xs.length * 1048576 ≤ 4611686018427387904 → rd c' v = rd c v + (occ v xs : Int) := by
  induction xs with
  | nil => intro i c c' v hi h hc h0 hx hb; simp [forceM] at h; rw [h]; simp [occ]
  | cons y xs ih =>
    intro i c c' v hi h hc h0 hx hb
    unfold forceM at h
    by_cases q : nodeB y = true
    · rw [if_pos q] at h
      obtain ⟨c2, h1, h2⟩ := Option.bind_eq_some_iff.mp h
      have hy := hx y (by simp)
      simp only [List.length_cons] at hb
      have h3 := nextM_count i n hi y.f1 c c2 v h1 hc h0 (by omega)
      have hle : y.f1.count (v : Int) ≤ y.f1.length := List.count_le_length
      have h4 := ih (i + 1) c2 c' v (by omega) h2 (by rw [nextM_len _ _ _ _ _ h1]; exact hc) (by omega) (fun x hx' => hx x (by simp [hx'])) (by omega)
      rw [h4, h3, occ_cons]
      omega
    · rw [if_neg q] at h
      exact absurd h (by simp)
theorem forceM_up (n : Int) (pre : List IN) : ∀ (x : IN) (rest : List IN) (i : Int) (c c' : List Int), forceM n i (pre ++ x :: rest) c = some c' → ∀ v ∈ x.f1, i + pre.length < v ∧ v < n := by
  induction pre with
  | nil =>
    intro x rest i c c' h v hv
    simp only [List.nil_append] at h
    unfold forceM at h
    by_cases q : nodeB x = true
    · rw [if_pos q] at h
      obtain ⟨c2, h1, h2⟩ := Option.bind_eq_some_iff.mp h
      have := nextM_range _ _ _ _ _ h1 v hv
      simpa using this
    · rw [if_neg q] at h
      exact absurd h (by simp)
  | cons y pre ih =>
    intro x rest i c c' h v hv
    simp only [List.cons_append] at h
    unfold forceM at h
    by_cases q : nodeB y = true
    · rw [if_pos q] at h
      obtain ⟨c2, h1, h2⟩ := Option.bind_eq_some_iff.mp h
      have := ih x rest (i + 1) c2 c' h2 v hv
      simp only [List.length_cons]
      omega
    · rw [if_neg q] at h
      exact absurd h (by simp)
/-- What a force's check says of it: each node leads on to later ones alone; each but the first is led to once. -/
structure Tree (l : List IN) : Prop where
  pos : 1 ≤ l.length
  le : l.length ≤ 40
  up : ∀ pre x rest, l = pre ++ x :: rest → ∀ v ∈ x.f1, (pre.length : Int) < v ∧ v < (l.length : Int)
  once : ∀ v : Nat, 1 ≤ v → v < l.length → occ v l = 1
theorem tree_of (l : List IN) (hx : ∀ x ∈ l, x.f1.length ≤ 1048576) (h : forceB l = true) : Tree l := by
  unfold forceB at h
  simp only [Bool.and_eq_true, decide_eq_true_eq] at h
  obtain ⟨h1, h2⟩ := h
  cases hm : forceM l.length 0 l (List.replicate l.length 0) with
  | none => rw [hm] at h2; exact absurd h2 (by simp [forceR])
  | some c =>
    rw [hm] at h2
    refine ⟨by omega, by omega, ?_, ?_⟩
    · intro pre x rest e v hv
      have hm2 := hm
      rw [e] at hm2
      have := forceM_up _ pre x rest 0 _ _ hm2 v hv
      rw [e]
      omega
    · intro v v1 v2
      have hz : rd (List.replicate l.length 0) (v : Int) = 0 := by
        unfold rd
        rw [Int.toNat_natCast, List.getD_eq_getElem?_getD, List.getElem?_replicate]
        split <;> rfl
      have h3 := forceM_count _ l 0 _ c v (by omega) hm (by simp) (by omega) hx (by rw [hz]; omega)
      rw [hz] at h3
      have hl : c.length = l.length := by
        have : ∀ (xs : List IN) (i : Int) (a b : List Int), forceM l.length i xs a = some b → b.length = a.length := by
          intro xs
          induction xs with
          | nil => intro i a b hh; simp [forceM] at hh; rw [hh]
          | cons y ys ih =>
            intro i a b hh
            unfold forceM at hh
            by_cases q : nodeB y = true
            · rw [if_pos q] at hh
              obtain ⟨c2, g1, g2⟩ := Option.bind_eq_some_iff.mp hh
              rw [ih _ _ _ g2, nextM_len _ _ _ _ _ g1]
            · rw [if_neg q] at hh
              exact absurd hh (by simp)
        simpa using this l 0 _ c hm
      have h4 : c[v]? = some c[v] := List.getElem?_eq_getElem (by omega)
      have h5 : rd c (v : Int) = 1 := by
        change finB c = true at h2
        unfold finB at h2
        rw [List.all_eq_true] at h2
        have hmem : c[v] ∈ c.drop 1 := by
          rw [List.mem_iff_getElem?]
          exact ⟨v - 1, by rw [List.getElem?_drop, show 1 + (v - 1) = v by omega]; exact h4⟩
        have := h2 _ hmem
        unfold rd
        rw [Int.toNat_natCast, List.getD_eq_getElem?_getD, h4]
        simpa using this
      omega
/-! the heights -/
def hgt (l : List IN) : Nat → Nat → Nat
  | 0, _ => 0
  | f + 1, i => ((nodeAt l (i : Int)).f1.map fun v => 1 + hgt l f v.toNat).foldl max 0
/-! the table of depths -/
/-! the program's functions -/
end Go.Proofs.Ytgldcbcefncjjaa.F
end
section
/- The least answers that lead to another object: the program's function and the reference's are one. -/
namespace Go.Proofs.Ytgldcbcefncjjaa.F
open Go.RowKit Go.Proofs.YtgldcbcefncjjaaW.PrintWords Go.Proofs.YtgldcbcefncjjaaW.PrintLast Go.Proofs.YtgldcbcefncjjaaW.PrintMore
set_option linter.unusedVariables false
set_option linter.unusedSimpArgs false
theorem answers_eq (k : Nat) : (∀ x0 x2 x26 x27 x28, impl_answersFrom.l0 k x0 x2 x26 x27 x28 = spec_l13Wrong.l0 k x0 x2 x26 x27 x28) ∧ (∀ l a o, impl_answersFrom.f k l a o = spec_l13Wrong.f k l a o) := by
  induction k with
  | zero => exact ⟨fun _ _ _ _ _ => rfl, fun _ _ _ => rfl⟩
  | succ k ih =>
    obtain ⟨h1, h2⟩ := ih
    refine ⟨fun x0 x2 x26 x27 x28 => ?_, fun l a o => ?_⟩
    · unfold impl_answersFrom.l0 spec_l13Wrong.l0
      simp only [h1, h2]
    · unfold impl_answersFrom.f spec_l13Wrong.f
      simp only [h1]
def tryM (f : Nat → List Int × Bool) : List Int → Int → List Int × Bool
  | [], _ => ([], false)
  | v :: vs, i => if (f v.toNat).2 = true then (i :: (f v.toNat).1, true) else tryM f vs (i + 1)
/-- The least answers from a node on to another object. -/
def wrongM (l : List IN) (o : Int) : Nat → Nat → List Int × Bool
  | 0, _ => ([], false)
  | d + 1, i => if (rd_T49 l (i : Int)).f1.length = 0 then ([], (rd_T49 l (i : Int)).f2 != o) else tryM (wrongM l o d) (rd_T49 l (i : Int)).f1 0
theorem tryM_len (f : Nat → List Int × Bool) (d : Nat) (hf : ∀ i, (f i).1.length ≤ d) (vs : List Int) : ∀ i, (tryM f vs i).1.length ≤ d + 1 := by
  induction vs with
  | nil => intro i; simp [tryM]
  | cons v vs ih =>
    intro i
    unfold tryM
    split
    · have := hf v.toNat
      simp only [List.length_cons]
      omega
    · exact ih (i + 1)
theorem wrongM_len (l : List IN) (o : Int) (d : Nat) : ∀ i, (wrongM l o d i).1.length ≤ d := by
  induction d with
  | zero => intro i; simp [wrongM]
  | succ d ih =>
    intro i
    unfold wrongM
    split
    · simp
    · exact tryM_len _ d ih _ _
theorem try_at (l : List IN) (o : Int) (d : Nat) (hd : d ≤ 1048576) (xs : List Int) (hx : xs.length ≤ 1048576) (vs : List Int) : ∀ pre, xs = pre ++ vs → (∀ v ∈ vs, 0 ≤ v ∧ Ev (fun k => spec_l13Wrong.f k l v o) (wrongM l o d v.toNat)) →
    Ev (fun k => spec_l13Wrong.l0 k l o xs (xs.length : Int) (pre.length : Int)) (tryM (wrongM l o d) vs (pre.length : Int)) := by
  induction vs with
  | nil =>
    intro pre e h
    subst e
    refine Ev.step (f := fun _ => some (([] : List Int), false)) (fun k => ?_) (Ev.now _)
    show spec_l13Wrong.l0 (k + 1) _ _ _ _ _ = _
    rw [spec_l13Wrong.l0, if_neg (mid_nlt _)]
  | cons v vs ih =>
    intro pre e h
    have hp : pre.length ≤ 1048576 := by rw [e] at hx; simp at hx; omega
    have h2 := ih (pre ++ [v]) (by rw [e]; simp) (fun w hw => h w (by simp [hw]))
    rw [← mid_succ pre v (by omega)] at h2
    obtain ⟨hv, hE⟩ := h v (by simp)
    subst e
    refine Ev.stepb hE (fun k => by rw [spec_l13Wrong.l0, if_pos (mid_lt _ _ _), if_pos (nn _), if_pos (mid_lt _ _ _), mid_rd]) ?_
    unfold tryM
    have hlen := wrongM_len l o d v.toNat
    by_cases c : (wrongM l o d v.toNat).2 = true
    · simp only [if_pos c, Option.bind_some, if_pos (show ([(pre.length : Int)] : List Int).length + (wrongM l o d v.toNat).1.length < 17592186044416 by simp; omega)]
      exact Ev.now _
    · simp only [if_neg c]
      have hw : wrap64 ((pre.length : Int) + 1) = (pre.length : Int) + 1 := w64_id (by omega) (by omega)
      rw [hw] at h2 ⊢
      exact h2
theorem wrong_at (l : List IN) (T : Tree l) (hx : ∀ x ∈ l, x.f1.length ≤ 1048576) (o : Int) (d : Nat) : d ≤ 1048576 → ∀ i, i < l.length → l.length ≤ i + d → Ev (fun k => spec_l13Wrong.f k l (i : Int) o) (wrongM l o d i) := by
  induction d with
  | zero => intro _ i h1 h2; omega
  | succ d ih =>
    intro hd i h1 h2
    obtain ⟨x, hxe⟩ : ∃ x, x = l[i] := ⟨_, rfl⟩
    have hsp : l = l.take i ++ x :: l.drop (i + 1) := by rw [hxe, List.getElem_cons_drop, List.take_append_drop]
    have hrd : rd_T49 l (i : Int) = x := by
      unfold rd_T49
      rw [Int.toNat_natCast, List.getD_eq_getElem?_getD, List.getElem?_eq_getElem h1, hxe]; rfl
    have hmem : x ∈ l := by rw [hxe]; exact List.getElem_mem h1
    have hup := T.up _ _ _ hsp
    have htl : (l.take i).length = i := by simp; omega
    rw [htl] at hup
    unfold wrongM
    rw [hrd]
    by_cases c : x.f1.length = 0
    · rw [if_pos c]
      refine Ev.step (f := fun _ => some (([] : List Int), x.f2 != o)) (fun k => ?_) (Ev.now _)
      show spec_l13Wrong.f (k + 1) _ _ _ = _
      rw [spec_l13Wrong.f, if_pos (nn _), if_pos (by omega), hrd, if_pos (by omega)]
    · rw [if_neg c]
      have h3 := try_at l o d (by omega) x.f1 (hx x hmem) x.f1 [] rfl (fun v hv => by
        have := hup v hv
        have hv0 : 0 ≤ v := by omega
        refine ⟨hv0, ?_⟩
        have h4 := ih (by omega) v.toNat (by omega) (by omega)
        rwa [Int.toNat_of_nonneg hv0] at h4)
      refine Ev.step (fun k => ?_) h3
      show spec_l13Wrong.f (k + 1) _ _ _ = _
      rw [spec_l13Wrong.f, if_pos (nn _), if_pos (by omega), hrd, if_neg (by omega)]
      rfl
/-- What both answer. -/
def answersR (l : List IN) (o : Int) : List Int × Bool := if forceB l = true then wrongM l o l.length 0 else ([], false)
theorem spec_answers_ev (l : List IN) (o : Int) (hx : ∀ x ∈ l, x.f1.length ≤ 1048576) : Ev (fun k => spec_AnswersTo.f k l o) (answersR l o) := by
  unfold spec_AnswersTo.f answersR
  refine Ev.bind (spec_Force_ev l (fun x h => by have := hx x h; omega)) ?_
  by_cases c : forceB l = true
  · have T := tree_of l hx c
    have h1 := T.pos
    have h2 := T.le
    simp only [if_pos c]
    exact Ev.bind (wrong_at l T hx o l.length (by omega) 0 (by omega) (by omega)) (Ev.now _)
  · simp only [if_neg c]
    exact Ev.now _
theorem impl_answers_ev (l : List IN) (o : Int) (hx : ∀ x ∈ l, x.f1.length ≤ 1048576) : Ev (fun k => impl_AnswersTo.f k l o) (answersR l o) := by
  unfold impl_AnswersTo.f answersR
  refine Ev.bind (impl_Force_ev l (fun x h => by have := hx x h; omega)) ?_
  by_cases c : forceB l = true
  · have T := tree_of l hx c
    have h1 := T.pos
    have h2 := T.le
    simp only [if_pos c]
    have h3 := wrong_at l T hx o l.length (by omega) 0 (by omega) (by omega)
    have h4 : Ev (fun k => impl_answersFrom.f k l 0 o) (wrongM l o l.length 0) := by
      have e : (fun k => impl_answersFrom.f k l 0 o) = fun k => spec_l13Wrong.f k l 0 o := by
        funext k
        exact (answers_eq k).2 l 0 o
      rw [e]
      exact h3
    exact Ev.bind h4 (Ev.now _)
  · simp only [if_neg c]
    exact Ev.now _
theorem answersR_len (l : List IN) (o : Int) : (answersR l o).1.length ≤ l.length := by
  unfold answersR
  split
  · exact wrongM_len _ _ _ _
  · simp
end Go.Proofs.Ytgldcbcefncjjaa.F
end
section
/- AnswersTo: both functions make the same. -/
namespace Go.Proofs.Ytgldcbcefncjjaa.Pure
open Go.RowKit Go.Proofs.Ytgldcbcefncjjaa.F Go.Proofs.YtgldcbcefncjjaaW.PrintWords Go.Proofs.YtgldcbcefncjjaaW.PrintLast Go.Proofs.YtgldcbcefncjjaaW.PrintMore
set_option linter.unusedVariables false
set_option linter.unusedSimpArgs false
theorem FnExactAnswersTo : laws_FnExactAnswersTo.Pure := by
  intro l o hq _
  obtain ⟨h1, h2, h3⟩ := hq
  obtain ⟨s, hsz, hr⟩ := szNodeS_ev l 1048576 (by omega) (by omega) (by omega) (fun x hx => by have := h3 x hx; omega)
  by_cases c : s < 0
  · obtain ⟨k, hk⟩ := hsz
    have e1 : laws_szNodeS.f k l 1048576 = some s := hk k (Nat.le_refl _)
    exact ⟨k, by unfold laws_FnExactAnswersTo.f; rw [e1, Option.bind_some, if_pos c]⟩
  · have hb := hr.resolve_left c
    have hx : ∀ x ∈ l, x.f1.length ≤ 1048576 := fun x hx => by have := weighN_mem l x hx; omega
    have hx2 : ∀ x ∈ l.map conv, x.f1.length ≤ 4611686018427387904 := by
      intro x hx'
      obtain ⟨y, hy, rfl⟩ := List.mem_map.mp hx'
      have : (conv y).f1.length ≤ 1048576 := hx y hy
      omega
    have hx3 : ∀ x ∈ l.map conv, x.f1.length ≤ 1048576 := by
      intro x hx'
      obtain ⟨y, hy, rfl⟩ := List.mem_map.mp hx'
      exact hx y hy
    have hll : (l.map conv).length ≤ 1048576 := by simp; omega
    have hwn := wN_conv l
    have hl := answersR_len (l.map conv) o
    obtain ⟨k1, H1⟩ := hsz
    obtain ⟨k2, H2⟩ := spec_answers_ev (l.map conv) o hx3
    obtain ⟨k3, H3⟩ := impl_answers_ev (l.map conv) o hx3
    generalize answersR (l.map conv) o = R at H2 H3 hl
    obtain ⟨k4, H4⟩ := markNodeS_ev (l.map conv) 1 (by omega) (by omega) (by omega)
    obtain ⟨k5, H5⟩ := markIntS_ev R.1 1 (by omega) (by omega) (by omega)
    obtain ⟨k6, H6⟩ := toNodeS_ev l (by omega) (fun x hx' => by have := hx x hx'; omega)
    obtain ⟨k7, H7⟩ := eqIntS_same R.1 (by omega)
    obtain ⟨k8, H8⟩ := eqNodeS_same (l.map conv) (by omega) hx2
    obtain ⟨k9, H9⟩ := heldIntS_ev R.1.length 1 (by omega) (by omega) (by omega)
    obtain ⟨K, hK⟩ : ∃ K, K = k1 + k2 + k3 + k4 + k5 + k6 + k7 + k8 + k9 := ⟨_, rfl⟩
    have e1 : laws_szNodeS.f K l 1048576 = some s := H1 K (by omega)
    have e6 : laws_toNodeS.f K l = some (l.map conv) := H6 K (by omega)
    have e2 : spec_AnswersTo.f K (l.map conv) o = some R := H2 K (by omega)
    have e4 : laws_markNodeS.f K (l.map conv) 1 = some ((1 : Int) + (wN (l.map conv) : Int), markN 1 (l.map conv)) := H4 K (by omega)
    have e5 : laws_markIntS.f K R.1 1 = some ((1 : Int) + (R.1.length : Int), seqFrom 1 R.1.length) := H5 K (by omega)
    refine ⟨K, ?_⟩
    unfold laws_FnExactAnswersTo.f
    rw [e1, Option.bind_some, if_neg c, e6, Option.bind_some, e2, Option.bind_some, e4, Option.bind_some, e5, Option.bind_some]
    rw [if_pos]
    exact ⟨H3 K (by omega), H7 K (by omega), H8 K (by omega), by simp only; omega, by simp only; omega, H9 K (by omega)⟩
end Go.Proofs.Ytgldcbcefncjjaa.Pure
end
