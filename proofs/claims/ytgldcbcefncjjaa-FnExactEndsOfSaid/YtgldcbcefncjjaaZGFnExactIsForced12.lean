import Derived.Test.YtgldcbcefncjjaaZGFnExactIsForced4
import Derived.Test.YtgldcbcefncjjaaZGFnExactIsForced8
import Derived.Test.YtgldcbcefncjjaaZGFnExactIsForced9
import Derived.Test.YtgldcbcefncjjaaZGFnExactIsForced5
import Derived.Test.YtgldcbcefncjjaaZGFnExactIsForced7
section
/- Laid by a program of this claim's own. What the Go function does, as a Lean function, and the proof that the Go code does just that; Lean checks it. -/
namespace Go.Proofs.Ytgldcbcefncjjaa.F
open Go.RowKit Go.Proofs.YtgldcbcefncjjaaW.PrintWords Go.Proofs.YtgldcbcefncjjaaW.PrintLast Go.Proofs.YtgldcbcefncjjaaW.PrintMore
attribute [local go_sem] max2_int min2_int max_two min_two max_three min_three max_four min_four   -- for this text's walks alone
set_option linter.unusedVariables false
set_option linter.unusedSimpArgs false
/-! ### laws_FnExactEndsOf: function 6 -/
/-- What is to be shown of numbers and lists: both functions make the same; marks that are laid are held. -/
def laws_FnExactEndsOf.f (k : Nat) (l0 : List S66) : Option Bool :=
  (laws_szNodeS.f k l0 1048576).bind fun s => if s < 0 then some true else
  (laws_toNodeS.f k l0).bind fun X => (spec_EndsOf.f k X).bind fun R => (laws_markNodeS.f k X 1).bind fun M => (laws_markIntS.f k R 1).bind fun m =>
    if impl_EndsOf.f k X = some R ∧ laws_eqIntS.f k R R = some true ∧ laws_eqNodeS.f k X X = some true ∧ 0 ≤ M.1 ∧ 0 ≤ m.1 ∧ laws_heldIntS.f k m.2 1 = some m.1 then some true else none
set_option maxHeartbeats 16000000 in
set_option maxRecDepth 100000 in
theorem laws_FnExactEndsOf.calls_big (k : Nat) (A0 : Option Addr) (c0 : Nat) (l0 : List S66) (s : Int) (w : World) (hr0 : Kd.C k66 w A0 l0.length l0) (hc0 : l0.length ≤ c0) (hs : laws_szNodeS.f k l0 1048576 = some s) (hneg : s < 0) :
    Calls Try.prog 6 #[.slice A0 l0.length c0] w fun e w' => e = .returned (.bool true) ∧ Below w.heap.size w w' := by
  have HR0 := Aside0.mk hr0
  have HC0 := Aside0.mk hc0
  have HS := Aside0.mk hs
  have g1 : decide (s < 0) = true := decide_eq_true hneg
  clear hr0 hc0 hs hneg
  go_enter Try.func6, Try.ntmps6
  go_wp2_with (go_at_call 23; (with_reducible refine (laws_szNodeS.calls k A0 c0 l0 1048576 s _ HR0.out HC0.out HS.out).mono ?_); rintro e w1 ⟨rfl, hd⟩; have B1 := Aside0.mk hd; clear hd)
  go_ret
  exact ⟨rfl, B1.out⟩
set_option maxHeartbeats 16000000 in
set_option maxRecDepth 100000 in
theorem laws_FnExactEndsOf.calls_in (k : Nat) (A0 : Option Addr) (c0 : Nat) (l0 : List S66) (w : World) (hr0 : Kd.C k66 w A0 l0.length l0) (hc0 : l0.length ≤ c0) (s : Int) (hsz : laws_szNodeS.f k l0 1048576 = some s) (hneg : ¬ s < 0) (X : List S49) (ht : laws_toNodeS.f k l0 = some X) (r : List Int) (hs : spec_EndsOf.f k X = some r) (M1 : Int) (M2 : List S49) (hM : laws_markNodeS.f k X 1 = some (M1, M2)) (m1 : Int) (m2 : List Int) (hm : laws_markIntS.f k r 1 = some (m1, m2)) (hi : impl_EndsOf.f k X = some r) (he : laws_eqIntS.f k r r = some true) (hq : laws_eqNodeS.f k X X = some true) (hn1 : 0 ≤ M1) (hn2 : 0 ≤ m1) (hh : laws_heldIntS.f k m2 1 = some m1) :
    Calls Try.prog 6 #[.slice A0 l0.length c0] w fun e w' => e = .returned (.bool true) ∧ Below w.heap.size w w' := by
  have HR0 := Aside0.mk hr0
  have HC0 := Aside0.mk hc0
  have HT := Aside0.mk ht
  have HQ := Aside0.mk hq
  have HM := Aside0.mk hM
  have g2 : decide (M1 < 0) = false := decide_eq_false (by omega)
  have HSZ := Aside0.mk hsz
  have g1 : decide (s < 0) = false := decide_eq_false hneg
  have HS := Aside0.mk hs
  have HI := Aside0.mk hi
  have HE := Aside0.mk he
  have HM1 := Aside0.mk hm
  have HH := Aside0.mk hh
  have g3 : decide (m1 < 0) = false := decide_eq_false (by omega)
  clear hr0 hc0 ht hq hM hn1 hs hm hi he hn2 hh hsz hneg
  go_enter Try.func6, Try.ntmps6
  go_wp2_with (go_at_call 23; (with_reducible refine (laws_szNodeS.calls k A0 c0 l0 1048576 s _ HR0.out HC0.out HSZ.out).mono ?_); rintro e w1 ⟨rfl, hd⟩; have B1 := Aside0.mk hd; clear hd)
  go_wp2_with (go_at_call 25; (with_reducible refine (laws_toNodeS.calls k A0 c0 l0 X _ (Kd.C_below HR0.out B1.out) HC0.out HT.out).mono ?_); rintro e w2 ⟨v, rfl, ho, hb⟩; obtain ⟨A2, c2, rfl⟩ := Kd.S_slice ho; have B2 := Aside0.mk (below_step B1.out hb); have C2 := Aside0.mk (Kd.S_reads' ho).2.2; have L2 := Aside0.mk (Kd.S_reads' ho).2.1; clear ho hb B1)
  go_wp2_with (go_at_call 28; (with_reducible refine (spec_EndsOf.calls k A2 c2 X r _ C2.out L2.out HS.out).mono ?_); rintro e w3 ⟨v, rfl, ho, hb⟩; obtain ⟨A3, c3, rfl⟩ := Kd.R_slice ho; have B3 := Aside0.mk (below_step B2.out hb); have C3 := Aside0.mk (Kd.R_reads' ho).2.2; have L3 := Aside0.mk (Kd.R_reads' ho).2.1; clear ho hb B2 C2 L2)
  go_wp2_with (go_at_call 25; (with_reducible refine (laws_toNodeS.calls k A0 c0 l0 X _ (Kd.C_below HR0.out B3.out) HC0.out HT.out).mono ?_); rintro e w4 ⟨v, rfl, ho, hb⟩; obtain ⟨A4, c4, rfl⟩ := Kd.S_slice ho; have D4 := Aside0.mk hb; have X4 := Aside0.mk ho; have SZ := Aside0.mk hb.size; clear ho hb)
  go_wp2_with (go_at_call 29; (with_reducible refine (impl_EndsOf.calls k A4 c4 X r _ (Kd.S_reads' X4.out).2.2 (Kd.S_reads' X4.out).2.1 HI.out).mono ?_); rintro e w5 ⟨v, rfl, ho, hb⟩; obtain ⟨A5, c5, rfl⟩ := Kd.R_slice ho; have D5 := Aside0.mk (below_step D4.out hb); have G5 := Aside0.mk ho; have X5 := Aside0.mk (Kd.S_old X4.out hb); clear ho hb D4 X4)
  go_wp2_with (go_at_call 17; (with_reducible refine (laws_eqIntS.calls k A5 c5 r A3 c3 r true _ (Kd.R_reads' G5.out).2.2 (Kd.R_reads' G5.out).2.1 (Kd.C_below C3.out D5.out) L3.out HE.out).mono ?_); rintro e w6 ⟨rfl, hd⟩; have D6 := Aside0.mk (below_step D5.out hd.below); have G6 := Aside0.mk (Kd.R_below G5.out hd.below); have X6 := Aside0.mk (Kd.S_below X5.out hd.below); clear hd D5 G5 X5)
  go_wp2_with (go_at_call 25; (with_reducible refine (laws_toNodeS.calls k A0 c0 l0 X _ (Kd.C_below HR0.out (below_step B3.out D6.out)) HC0.out HT.out).mono ?_); rintro e w7 ⟨v, rfl, ho, hb⟩; obtain ⟨A7, c7, rfl⟩ := Kd.S_slice ho; have D7 := Aside0.mk (below_step D6.out hb); have G7 := Aside0.mk (Kd.R_below G6.out hb); have X7 := Aside0.mk (Kd.S_below X6.out hb); have C7 := Aside0.mk (Kd.S_reads' ho).2.2; have L7 := Aside0.mk (Kd.S_reads' ho).2.1; clear ho hb D6 G6 X6)
  go_wp2_with (go_at_call 16; (with_reducible refine (laws_eqNodeS.calls k A4 c4 X A7 c7 X true _ (Kd.S_reads' X7.out).2.2 (Kd.S_reads' X7.out).2.1 C7.out L7.out HQ.out).mono ?_); rintro e w8 ⟨rfl, hd⟩; have D8 := Aside0.mk (below_step D7.out hd); have G8 := Aside0.mk (Kd.R_below G7.out hd); have X8 := Aside0.mk (Kd.S_below X7.out hd); clear hd D7 G7 X7 C7 L7)
  go_wp2_with (go_at_call 19; (with_reducible refine (laws_markNodeS.calls k (fun k_ => True ∧ k_ < w4.heap.size) _ X 1 M1 M2 w3 _ D8.out X8.out HM.out).mono ?_); rintro e w9 ⟨rfl, ho, hb, hk⟩; have D9 := Aside0.mk hb; have G9 := Aside0.mk (Kd.R_lower (R_past G8.out hk (fun k_ h_ e_ => Nat.lt_irrefl _ (Nat.lt_of_lt_of_le e_.2 h_))) SZ.out); clear ho hb hk D8 G8 X8)
  go_wp2_with (go_at_call 17; (with_reducible refine (laws_eqIntS.calls k A5 c5 r A3 c3 r true _ (Kd.R_reads' G9.out).2.2 (Kd.R_reads' G9.out).2.1 (Kd.C_below C3.out D9.out) L3.out HE.out).mono ?_); rintro e w10 ⟨rfl, hd⟩; have D10 := Aside0.mk (below_step D9.out hd.below); have G10 := Aside0.mk (Kd.R_below G9.out hd.below); clear hd D9 G9)
  go_wp2_with (go_at_call 18; (with_reducible refine (laws_markIntS.calls k (fun _ => True) _ r 1 m1 m2 w3 _ D10.out G10.out HM1.out).mono ?_); rintro e w11 ⟨rfl, ho, hb, hk⟩; have D11 := Aside0.mk hb; have G11 := Aside0.mk ho; have E0 := Aside0.mk (Kd.R_reads' ho).1; clear ho hb hk D10 G10)
  go_wp2_with (go_at_call 27; refine calls_of_args (args' := #[.slice A5 m2.length c5, .int .i64 1]) (by rw [← E0.out]) ?_; (with_reducible refine (laws_heldIntS.calls k A5 c5 m2 1 m1 _ (Kd.R_reads' G11.out).2.2 (by rw [← E0.out]; exact (Kd.R_reads' G11.out).2.1) HH.out).mono ?_); rintro e w12 ⟨rfl, hd⟩; have D12 := Aside0.mk (below_step D11.out hd.below); have G12 := Aside0.mk (Kd.R_below G11.out hd.below); clear hd D11 G11)
  go_wp2_with (go_at_call 25; (with_reducible refine (laws_toNodeS.calls k A0 c0 l0 X _ (Kd.C_below HR0.out (below_step B3.out D12.out)) HC0.out HT.out).mono ?_); rintro e w13 ⟨v, rfl, ho, hb⟩; obtain ⟨A13, c13, rfl⟩ := Kd.S_slice ho; have D13 := Aside0.mk (below_step D12.out hb); have G13 := Aside0.mk (Kd.R_below G12.out hb); have C13 := Aside0.mk (Kd.S_reads' ho).2.2; have L13 := Aside0.mk (Kd.S_reads' ho).2.1; clear ho hb D12 G12)
  go_wp2_with (go_at_call 29; (with_reducible refine (impl_EndsOf.calls k A13 c13 X r _ C13.out L13.out HI.out).mono ?_); rintro e w14 ⟨v, rfl, ho, hb⟩; obtain ⟨A14, c14, rfl⟩ := Kd.R_slice ho; have D14 := Aside0.mk (below_step D13.out hb); have G14 := Aside0.mk (Kd.R_below G13.out hb); have C14 := Aside0.mk (Kd.R_reads' ho).2.2; have L14 := Aside0.mk (Kd.R_reads' ho).2.1; clear ho hb D13 G13 C13 L13)
  go_wp2_with (go_at_call 17; (with_reducible refine (laws_eqIntS.calls k A14 c14 r A3 c3 r true _ C14.out L14.out (Kd.C_below C3.out D14.out) L3.out HE.out).mono ?_); rintro e w15 ⟨rfl, hd⟩; have D15 := Aside0.mk (below_step D14.out hd.below); have G15 := Aside0.mk (Kd.R_below G14.out hd.below); clear hd D14 G14 C14 L14)
  go_wp2_with (go_at_call 27; refine calls_of_args (args' := #[.slice A5 m2.length c5, .int .i64 1]) (by rw [← E0.out]) ?_; (with_reducible refine (laws_heldIntS.calls k A5 c5 m2 1 m1 _ (Kd.R_reads' G15.out).2.2 (by rw [← E0.out]; exact (Kd.R_reads' G15.out).2.1) HH.out).mono ?_); rintro e w16 ⟨rfl, hd⟩; have D16 := Aside0.mk (below_step D15.out hd.below); clear hd D15 G15)
  go_ret
  exact ⟨rfl, below_step B3.out D16.out⟩
theorem laws_FnExactEndsOf.calls (k : Nat) (A0 : Option Addr) (c0 : Nat) (l0 : List S66) (r : Bool) (w : World) (hr0 : Kd.C k66 w A0 l0.length l0) (hc0 : l0.length ≤ c0) (h : laws_FnExactEndsOf.f k l0 = some r) :
    Calls Try.prog 6 #[.slice A0 l0.length c0] w fun e w' => e = .returned (.bool r) ∧ Below w.heap.size w w' := by
  unfold laws_FnExactEndsOf.f at h
  obtain ⟨s, h1, h⟩ := Option.bind_eq_some_iff.mp h
  by_cases hs : s < 0
  · rw [if_pos hs] at h
    obtain rfl := Option.some.inj h
    exact laws_FnExactEndsOf.calls_big k A0 c0 l0 s w hr0 hc0 h1 hs
  · rw [if_neg hs] at h
    obtain ⟨X, h2, h⟩ := Option.bind_eq_some_iff.mp h
    obtain ⟨R1, h3, h⟩ := Option.bind_eq_some_iff.mp h
    obtain ⟨⟨M1, M2⟩, h4, h⟩ := Option.bind_eq_some_iff.mp h
    obtain ⟨⟨m1, m2⟩, h5, h⟩ := Option.bind_eq_some_iff.mp h
    split at h
    · rename_i hc
      obtain ⟨q1, q2, q3, q4, q5, q6⟩ := hc
      obtain rfl := Option.some.inj h
      exact laws_FnExactEndsOf.calls_in k A0 c0 l0 w hr0 hc0 s h1 hs X h2 R1 h3 M1 M2 h4 m1 m2 h5 q1 q2 q3 q4 q5 q6
    · cases h
end Go.Proofs.Ytgldcbcefncjjaa.F
end
section
namespace Go.Proofs.Ytgldcbcefncjjaa.F
open Go.RowKit Go.Proofs.YtgldcbcefncjjaaW.PrintWords
/-- What is to be shown of numbers and lists. -/
def laws_FnExactEndsOf.Pure : Prop := ∀ (l0 : List (S66)), ((l0.length * 48 ≤ 140737488351232 ∧ l0.length ≤ maxLen ∧ ∀ yl0 ∈ l0, ((yl0.f0.size ≤ maxLen ∧ yl0.f0.size ≤ 140737488351232) ∧ (yl0.f1.length * 8 ≤ 140737488351232 ∧ yl0.f1.length ≤ maxLen ∧ ∀ yyl0_f1 ∈ yl0.f1, ((Lit.int .i64 yyl0_f1).wf = true)) ∧ ((Lit.int .i64 yl0.f2).wf = true)))) → ∃ k, laws_FnExactEndsOf.f k l0 = some true
end Go.Proofs.Ytgldcbcefncjjaa.F
end
section
/- EndsOf: both functions make the same. -/
namespace Go.Proofs.Ytgldcbcefncjjaa.Pure
open Go.RowKit Go.Proofs.Ytgldcbcefncjjaa.F Go.Proofs.YtgldcbcefncjjaaW.PrintWords Go.Proofs.YtgldcbcefncjjaaW.PrintLast Go.Proofs.YtgldcbcefncjjaaW.PrintMore
set_option linter.unusedVariables false
set_option linter.unusedSimpArgs false
theorem FnExactEndsOf : laws_FnExactEndsOf.Pure := by
  intro l hq
  obtain ⟨h1, h2, h3⟩ := hq
  obtain ⟨s, hsz, hr⟩ := szNodeS_ev l 1048576 (by omega) (by omega) (by omega) (fun x hx => by have := h3 x hx; omega)
  by_cases c : s < 0
  · obtain ⟨k, hk⟩ := hsz
    have e1 : laws_szNodeS.f k l 1048576 = some s := hk k (Nat.le_refl _)
    exact ⟨k, by unfold laws_FnExactEndsOf.f; rw [e1, Option.bind_some, if_pos c]⟩
  · have hb := hr.resolve_left c
    have hx : ∀ x ∈ l, x.f1.length ≤ 1048576 := fun x hx => by have := weighN_mem l x hx; omega
    have hx2 : ∀ x ∈ l.map conv, x.f1.length ≤ 4611686018427387904 := by
      intro x hx'
      obtain ⟨y, hy, rfl⟩ := List.mem_map.mp hx'
      have : (conv y).f1.length ≤ 1048576 := hx y hy
      omega
    have hll : (l.map conv).length ≤ 1048576 := by simp; omega
    have hwn := wN_conv l
    have hl := endsR_len (l.map conv) hll
    obtain ⟨k1, H1⟩ := hsz
    obtain ⟨k2, H2⟩ := spec_ends_ev (l.map conv) hll hx2
    obtain ⟨k3, H3⟩ := impl_ends_ev (l.map conv) hll hx2
    generalize endsR (l.map conv) = R at H2 H3 hl
    obtain ⟨k4, H4⟩ := markNodeS_ev (l.map conv) 1 (by omega) (by omega) (by omega)
    obtain ⟨k5, H5⟩ := markIntS_ev R 1 (by omega) (by omega) (by omega)
    obtain ⟨k6, H6⟩ := toNodeS_ev l (by omega) (fun x hx' => by have := hx x hx'; omega)
    obtain ⟨k7, H7⟩ := eqIntS_same R (by omega)
    obtain ⟨k8, H8⟩ := eqNodeS_same (l.map conv) (by omega) hx2
    obtain ⟨k9, H9⟩ := heldIntS_ev R.length 1 (by omega) (by omega) (by omega)
    obtain ⟨K, hK⟩ : ∃ K, K = k1 + k2 + k3 + k4 + k5 + k6 + k7 + k8 + k9 := ⟨_, rfl⟩
    have e1 : laws_szNodeS.f K l 1048576 = some s := H1 K (by omega)
    have e6 : laws_toNodeS.f K l = some (l.map conv) := H6 K (by omega)
    have e2 : spec_EndsOf.f K (l.map conv) = some R := H2 K (by omega)
    have e4 : laws_markNodeS.f K (l.map conv) 1 = some ((1 : Int) + (wN (l.map conv) : Int), markN 1 (l.map conv)) := H4 K (by omega)
    have e5 : laws_markIntS.f K R 1 = some ((1 : Int) + (R.length : Int), seqFrom 1 R.length) := H5 K (by omega)
    refine ⟨K, ?_⟩
    unfold laws_FnExactEndsOf.f
    rw [e1, Option.bind_some, if_neg c, e6, Option.bind_some, e2, Option.bind_some, e4, Option.bind_some, e5, Option.bind_some]
    rw [if_pos]
    exact ⟨H3 K (by omega), H7 K (by omega), H8 K (by omega), by simp only; omega, by simp only; omega, H9 K (by omega)⟩
end Go.Proofs.Ytgldcbcefncjjaa.Pure
end
