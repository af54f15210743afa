/- Laid by a program of this claim's own. What the Go function does, as a Lean function, and the proof that the Go code does just that; Lean checks it. -/
import Derived.Test.YtclmicogljidkaaF0
import Derived.Test.YtclmicogljidkaaF5
namespace Go.Proofs.Ytclmicogljidkaa.F
open Go.RowKit Go.Proofs.YtclmicogljidkaaW.PrintWords Go.Proofs.YtclmicogljidkaaW.PrintLast Go.Proofs.YtclmicogljidkaaW.PrintMore
attribute [local go_sem] max2_int min2_int max_two min_two max_three min_three max_four min_four   -- for this text's walks alone
set_option linter.unusedVariables false
set_option linter.unusedSimpArgs false

/-! ### impl_dealt: function 65 -/
def impl_dealt.l0 : Nat → List Int → List Int → Bool → Option (List Int)
  | 0, _, _, _ => none
  | k + 1, x5, x6, x7 => if (x6.length : Int) > 1 then (if x7 = true then (if 0 < (x6.length : Int) then (if x5.length < 17592186044416 then (if 1 ≤ (x6.length : Int) then (impl_dealt.l0 k (x5 ++ [rd x6 0]) (x6.drop (1 : Int).toNat) (!x7)) else (none)) else (none)) else (none)) else (if 0 < (x6.length : Int) then (if x6.length < 17592186044416 then ((some (x6 ++ [rd x6 0] : List Int)).bind fun y424 => (if 1 ≤ (y424.length : Int) then (impl_dealt.l0 k x5 (y424.drop (1 : Int).toNat) (!x7)) else (none))) else (none)) else (none))) else (if x5.length + x6.length < 17592186044416 then (some (x5 ++ x6)) else (none))
def impl_dealt.f (k : Nat) (l0 : List Int) (a1 : Int) : Option (List Int) := (slices_Clone_Lint_int.f l0).bind fun t413 => (impl_dealt.l0 k ([] : List Int) t413 (a1 == 1))
theorem impl_dealt.mono_l : ∀ k, (∀ y0 y1 y2, LeO (impl_dealt.l0 k y0 y1 y2) (impl_dealt.l0 (k + 1) y0 y1 y2))
  | 0 => fun _ _ _ r h => by simp [impl_dealt.l0] at h
  | k + 1 => by
    have ih0 := impl_dealt.mono_l k
    · intro y0 y1 y2
      unfold impl_dealt.l0
      repeat' first
      | (with_reducible exact ih0 _ _ _)
      | (with_reducible exact LeO.refl _)
      | (with_reducible exact LeO.none _)
      | (with_reducible refine LeO.ite ?_ ?_)
      | (with_reducible refine LeO.bind ?_ (fun _ => ?_))
      | exact ih0 _ _ _
      | exact LeO.none _
      | refine LeO.ite ?_ ?_
      | refine LeO.bind ?_ (fun _ => ?_)
theorem impl_dealt.mono : ∀ a0 a1 k, LeO (impl_dealt.f k a0 a1) (impl_dealt.f (k + 1) a0 a1) := by
  intro a0 a1 k
  have ih0 := impl_dealt.mono_l k
  unfold impl_dealt.f
  repeat' first
      | (with_reducible exact ih0 _ _ _)
      | (with_reducible exact LeO.refl _)
      | (with_reducible exact LeO.none _)
      | (with_reducible refine LeO.ite ?_ ?_)
      | (with_reducible refine LeO.bind ?_ (fun _ => ?_))
      | exact ih0 _ _ _
      | exact LeO.none _
      | refine LeO.ite ?_ ?_
      | refine LeO.bind ?_ (fun _ => ?_)
set_option maxHeartbeats 8000000 in
set_option maxRecDepth 100000 in
theorem impl_dealt.calls (k : Nat) (A0 : Option Addr) (c0 : Nat) (l0 : List Int) (a1 : Int) (r : List Int) (w : World) (hr0 : Kd.C (Kd.int .i64) w A0 l0.length l0) (hc0 : l0.length ≤ c0) (h : impl_dealt.f k l0 a1 = some r) :
    Calls Try.prog 65 #[.slice A0 l0.length c0, .int .i64 a1] w fun e w' => ∃ v0_ : Value, e = .returned (v0_) ∧ Kd.R (Kd.int .i64) 3 w' w.heap.size (fun _ => True) v0_ r ∧ Below w.heap.size w w' := by
  have HR0 := Aside0.mk hr0
  have HC0 := Aside0.mk hc0
  clear hr0 hc0
  have HB := Aside0.mk (Below.refl w.heap.size w)
  have H : ((slices_Clone_Lint_int.f l0).bind fun t413 => (impl_dealt.l0 k ([] : List Int) t413 (a1 == 1))) = some r := h
  clear h
  replace H := Option.bind_eq_some_iff.mp H
  obtain ⟨t413, A30, H⟩ := H
  replace H : (impl_dealt.l0 k ([] : List Int) t413 (a1 == 1)) = some r := H
  have A3 := Aside0.mk A30
  clear A30
  have H' := Aside0.mk H
  clear H
  go_enter Try.func65, Try.ntmps65
  go_wp2_with (first | ((with_reducible refine gate_callee (f := 88) rfl ?_); refine goesL_ (some 9) rfl rfl Try.func88 (by kernel_rfl) rfl #[.slice A0 l0.length c0] rfl (by (try simp only [List.map_toArray, List.map_cons, List.map_nil]); first | done | rfl | (simp only [List.length_drop, List.length_take]; rfl)) ?_; (with_reducible refine (slices_Clone_Lint_int.calls _ _ l0 t413 _ ?side1 ?side2 A3.out).mono ?_); (case side1 => repeat (first | exact HR0.out | (with_reducible refine Kd.C_alloc ?_ _) | (with_reducible refine Kd.C_drewN ?_ _) | (with_reducible refine Kd.C_drew ?_))); (case side2 => exact HC0.out); rintro e w4 ⟨v414, rfl, ho0, hb⟩; refine ⟨_, rfl, ?_⟩; have n0_ := Aside0.mk (Kd.R_lower ho0 (below_size (by repeat (first | (with_reducible first | exact HB.out | apply below_alloc | apply pw_below_drewN | apply below_drew1) | exact HB.out)))); have n1_ := Aside0.mk (below_step (by repeat (first | (with_reducible first | exact HB.out | apply below_alloc | apply pw_below_drewN | apply below_drew1) | exact HB.out)) hb); clear HB; have HO415 := n0_; have HB := n1_; clear n0_ n1_; (try clear hb); (try clear hb2); (try clear hk); (try clear hi); (try clear ho0)))
  go_loopg [5, 6, 7] k (fun kq v5 v6 v7 w' => ∃ (x5_1 : List Int) (x6_1 : List Int) (x7_1 : Bool), v7 = .bool x7_1 ∧ Aside0 (impl_dealt.l0 kq x5_1 x6_1 x7_1 = some r) ∧ Aside0 (kq ≤ k) ∧ Aside0 (Kd.R (Kd.int .i64) 3 w' w.heap.size (fun k_ => some k_ ≠ (v6 : Value).ownBlock) v5 x5_1) ∧ Aside0 (Kd.Q (Kd.int .i64) 3 w' w.heap.size (fun k_ => some k_ ≠ (v5 : Value).ownBlock) v6 x6_1) ∧ Aside0 (Below w.heap.size w w'))
  case atStart => exact ⟨(([] : List Int)), (t413), ((a1 == 1)), (by first | rfl | (simp; done) | (simp [*]; done)), H', ⟨Nat.le_refl _⟩, ⟨by first | exact Kd.R_nil _ _ _ _ _ | exact Kd.N_nil _ _ _ _ _ | exact Kd.V_nil _ _ _ _ _ | exact Kd.Q_nil _ _ _ _ _ | exact Kd.S_nil _ _ _ _ _⟩, ⟨Kd.Q_of_R (by (with_reducible repeat (first | apply Kd.R_alloc | apply Kd.R_drewN | apply Kd.R_drew)); exact Kd.R_mono HO415.out (fun _ hk => (by simp [Value.ownBlock])))⟩, ⟨by repeat (first | (with_reducible first | exact HB.out | apply below_alloc | apply pw_below_drewN | apply below_drew1) | exact HB.out)⟩⟩
  case round =>
    clear H'
    try clear p2
    obtain ⟨x5_1, x6_1, x7_1, rfl, HA, HK1, HO_5, HO_6, HB⟩ := hrel
    cases gk with
    | zero => exact absurd HA.out (by simp [impl_dealt.l0])
    | succ k1 =>
      have H := HA.out
      clear HA
      simp only [impl_dealt.l0] at H
      by_cases c5 : (x6_1.length : Int) > 1
      · rw [if_pos c5] at H
        have c5b0 : decide (1 < (x6_1.length : Int)) = true := decide_eq_true c5
        have c5b1 : decide (1 < x6_1.length) = true := decide_eq_true (by omega)
        clear c5
        by_cases c6 : x7_1 = true
        · subst c6
          have H1 : (if 0 < (x6_1.length : Int) then (if x5_1.length < 17592186044416 then (if 1 ≤ (x6_1.length : Int) then (impl_dealt.l0 k1 (x5_1 ++ [rd x6_1 0]) (x6_1.drop (1 : Int).toNat) (!true)) else (none)) else (none)) else (none)) = some r := by rw [if_pos rfl] at H; exact H
          clear H
          have H := H1
          clear H1
          by_cases c7 : 0 < (x6_1.length : Int)
          · rw [if_pos c7] at H
            have c7b0 : decide (0 < (x6_1.length : Int)) = true := decide_eq_true c7
            have c7b1 : decide (0 < x6_1.length) = true := decide_eq_true (by omega)
            clear c7
            by_cases c8 : x5_1.length < 17592186044416
            · rw [if_pos c8] at H
              have LMc8 := Aside0.mk c8
              clear c8
              obtain ⟨y417, hy417⟩ : ∃ y_ : List Int, y_ = (x5_1 ++ [rd x6_1 0]) := ⟨_, rfl⟩
              replace H : (if 1 ≤ (x6_1.length : Int) then (impl_dealt.l0 k1 y417 (x6_1.drop (1 : Int).toNat) (!true)) else (none)) = some r := by first | (rw [hy417]; with_reducible exact H) | (have H2_ := (Option.bind_some _ _).symm.trans H; rw [hy417]; with_reducible exact H2_) | (have H2_ := (Option.bind_some _ _).symm.trans H; with_reducible exact H2_) | with_reducible exact H | (rw [hy417]; exact H) | exact H
              have Ny417 := Aside0.mk hy417
              clear hy417
              by_cases c9 : 1 ≤ (x6_1.length : Int)
              · rw [if_pos c9] at H
                have c9b0 := eq_true c9
                have c9b1 : decide (1 ≤ (x6_1.length : Int)) = true := decide_eq_true c9
                clear c9
                obtain ⟨y420, hy420⟩ : ∃ y_ : List Int, y_ = (x6_1.drop (1 : Int).toNat) := ⟨_, rfl⟩
                replace H : (impl_dealt.l0 k1 y417 y420 (!true)) = some r := by first | (rw [hy420]; with_reducible exact H) | (have H2_ := (Option.bind_some _ _).symm.trans H; rw [hy420]; with_reducible exact H2_) | (have H2_ := (Option.bind_some _ _).symm.trans H; with_reducible exact H2_) | with_reducible exact H | (rw [hy420]; exact H) | exact H
                have Ny420 := Aside0.mk hy420
                clear hy420
                have H' := Aside0.mk H
                clear H
                obtain ⟨Ao10, co10, eo10, _⟩ := Kd.Q_slice HO_6.out
                subst eo10
                have p416 : 0 ≤ (0 : Int) := (by omega)
                have q416 : 0 < (x6_1.length : Int) := of_decide_eq_true (by first | (with_reducible assumption) | assumption)
                obtain ⟨ad416, e416, hx416_0⟩ := Kd.at_int (Kd.Q_reads' HO_6.out).2.2 0 p416 q416
                cases e416
                have qi416 : (0 < x6_1.length) = True := eq_true (by omega)
                (try rw [show ((0 : Int)).toNat = 0 from rfl] at hx416_0)
                (try rw [Addr.add_zero'] at hx416_0)
                replace p416 := eq_true p416
                replace q416 := eq_true q416
                go_wp2_with (first | ((with_reducible refine gate_builtin (b := .append) (xs := #[.tmp 18, .tmp 22]) rfl ?_); at_builtin; refine Kd.R_append (Kd.int .i64) (w0 := w) w.heap.size rfl (.tmp 18) (.tmp 22) 22 3 (.int .i64 0) 8 rfl Try.underlying22 info3 rfl (by decide) (by omega) u5 x5_1 (rd x6_1 0) [.int .i64 (rd x6_1 0)] (fun k_ => some k_ ≠ (.slice (some ad416) x6_1.length co10 : Value).ownBlock) (fun _ => False) rfl rfl ?aP (fun _ hk => hk.elim) ?aF ?aO ?aB ?aS ?aL ?_; (case aP => exact rfl); (case aB => exact (by repeat (first | (with_reducible first | exact HB.out | apply below_alloc | apply pw_below_drewN | apply below_drew1) | exact HB.out))); (case aF => exact (fun k_ hk => Kd.fresh' (Kd.Q_lt (by (with_reducible repeat (first | apply Kd.Q_alloc | apply Kd.Q_drewN | apply Kd.Q_drew)); exact HO_6.out)) k_ hk)); (case aO => exact (by (with_reducible repeat (first | apply Kd.R_alloc | apply Kd.R_drewN | apply Kd.R_drew)); exact HO_5.out)); (case aS => exact (below_size (by repeat (first | (with_reducible first | exact HB.out | apply below_alloc | apply pw_below_drewN | apply below_drew1) | exact HB.out)))); (case aL => have := LMc8.out; omega); intro v418 w11 ho hb hg hat; rw [← Ny417.out] at ho; have n0_ := Aside0.mk (Kd.Q_after (ok := (fun _ => True)) (by (with_reducible repeat (first | apply Kd.Q_alloc | apply Kd.Q_drewN | apply Kd.Q_drew)); exact Kd.Q_mono HO_6.out (fun _ hk => ⟨trivial, hk⟩)) hg hat); have n1_ := Aside0.mk (hb); have n2_ := Aside0.mk (ho); clear HO_6; clear HB; clear HO_5; have HO_6 := n0_; have HB := n1_; have HO419 := n2_; clear n0_ n1_ n2_; clear ho hb hg hat; have n_ := Aside0.mk (Kd.Q_mono (ok' := (fun k_ => some k_ ≠ (v418 : Value).ownBlock)) HO_6.out (fun k_ hk => hk.2)); clear HO_6; have HO_6 := n_; clear n_; have q12 : (1 : Int) ≤ ((x6_1.length : Int) : Int) := of_decide_eq_true (by first | (with_reducible assumption) | assumption); obtain ⟨i012, hi012, _, hsz12, _⟩ := info_parts info3; have hcut12 := cut_from (P := Try.prog) 22 3 .i64 Try.underlying22 hi012 1 hsz12 (some ad416) x6_1.length co10 1 (by omega) q12; have hr12 := Kd.Q_drop (k := (1 : Int).toNat) HO_6.out (by omega); obtain ⟨A12, hA12⟩ : ∃ A1, A1 = (if co10 = (1 : Int).toNat then (some ad416) else ((some ad416) : Option Addr).map (·.add ((1 : Int).toNat * 1))) := ⟨_, rfl⟩; obtain ⟨c12, hc12⟩ : ∃ c1, c1 = co10 - (1 : Int).toNat := ⟨_, rfl⟩; have hy12 : y420.length = x6_1.length - (1 : Int).toNat := (by rw [Ny420.out, List.length_drop]); rw [← Ny420.out] at hr12; rw [← hy12, ← hA12, ← hc12] at hcut12; replace hr12 : Kd.Q (Kd.int .i64) 3 w11 w.heap.size (fun k_ => some k_ ≠ (v418 : Value).ownBlock) (.slice A12 y420.length c12) y420 := (by rw [hA12, hc12, hy12]; exact hr12); have HE12 : Aside0 ((Value.slice A12 y420.length c12).ownBlock = (.slice (some ad416) x6_1.length co10 : Value).ownBlock) := ⟨by rw [hA12]; split <;> (cases ((some ad416) : Option Addr) <;> rfl)⟩; clear hy12 hi012 hsz12 HO_6 hA12 hc12; have HO422 := Aside0.mk hr12; clear hr12; replace q12 := eq_true q12; have n_ := Aside0.mk (Kd.R_mono (ok' := fun k_ => some k_ ≠ (.slice A12 y420.length c12 : Value).ownBlock) HO419.out (fun k_ hk => (by rw [HE12.out]; exact hk))); clear HO419; have HO419 := n_; clear n_))
                go_roundg k1
                case measure => have := HK1.out; omega
                case rel => exact ⟨(y417), (y420), (!true), (by first | rfl | (simp; done) | (simp [*]; done)), H', ⟨by have := HK1.out; omega⟩, ⟨by (with_reducible repeat (first | apply Kd.R_alloc | apply Kd.R_drewN | apply Kd.R_drew)); exact HO419.out⟩, ⟨by (with_reducible repeat (first | apply Kd.Q_alloc | apply Kd.Q_drewN | apply Kd.Q_drew)); exact HO422.out⟩, ⟨by repeat (first | (with_reducible first | exact HB.out | apply below_alloc | apply pw_below_drewN | apply below_drew1) | exact HB.out)⟩⟩
              · rw [if_neg c9] at H
                exact absurd H (by simp)
            · rw [if_neg c8] at H
              exact absurd H (by simp)
          · rw [if_neg c7] at H
            exact absurd H (by simp)
        · replace c6 := Bool.eq_false_iff.mpr c6
          subst c6
          have H1 : (if 0 < (x6_1.length : Int) then (if x6_1.length < 17592186044416 then ((some (x6_1 ++ [rd x6_1 0] : List Int)).bind fun y424 => (if 1 ≤ (y424.length : Int) then (impl_dealt.l0 k1 x5_1 (y424.drop (1 : Int).toNat) (!false)) else (none))) else (none)) else (none)) = some r := by rw [if_neg (show ¬ (false = true) by decide)] at H; exact H
          clear H
          have H := H1
          clear H1
          by_cases c13 : 0 < (x6_1.length : Int)
          · rw [if_pos c13] at H
            have c13b0 : decide (0 < (x6_1.length : Int)) = true := decide_eq_true c13
            have c13b1 : decide (0 < x6_1.length) = true := decide_eq_true (by omega)
            clear c13
            by_cases c14 : x6_1.length < 17592186044416
            · rw [if_pos c14] at H
              have LMc14 := Aside0.mk c14
              clear c14
              obtain ⟨y424, hy424⟩ : ∃ y_ : List Int, y_ = (x6_1 ++ [rd x6_1 0]) := ⟨_, rfl⟩
              replace H : (if 1 ≤ (y424.length : Int) then (impl_dealt.l0 k1 x5_1 (y424.drop (1 : Int).toNat) (!false)) else (none)) = some r := by first | (rw [hy424]; with_reducible exact H) | (have H2_ := (Option.bind_some _ _).symm.trans H; rw [hy424]; with_reducible exact H2_) | (have H2_ := (Option.bind_some _ _).symm.trans H; with_reducible exact H2_) | with_reducible exact H | (rw [hy424]; exact H) | exact H
              have Ny424 := Aside0.mk hy424
              clear hy424
              by_cases c15 : 1 ≤ (y424.length : Int)
              · rw [if_pos c15] at H
                have c15b0 := eq_true c15
                have c15b1 : decide (1 ≤ (y424.length : Int)) = true := decide_eq_true c15
                clear c15
                obtain ⟨y427, hy427⟩ : ∃ y_ : List Int, y_ = (y424.drop (1 : Int).toNat) := ⟨_, rfl⟩
                replace H : (impl_dealt.l0 k1 x5_1 y427 (!false)) = some r := by first | (rw [hy427]; with_reducible exact H) | (have H2_ := (Option.bind_some _ _).symm.trans H; rw [hy427]; with_reducible exact H2_) | (have H2_ := (Option.bind_some _ _).symm.trans H; with_reducible exact H2_) | with_reducible exact H | (rw [hy427]; exact H) | exact H
                have Ny427 := Aside0.mk hy427
                clear hy427
                have H' := Aside0.mk H
                clear H
                obtain ⟨Ao16, co16, eo16, _⟩ := Kd.Q_slice HO_6.out
                subst eo16
                have p423 : 0 ≤ (0 : Int) := (by omega)
                have q423 : 0 < (x6_1.length : Int) := of_decide_eq_true (by first | (with_reducible assumption) | assumption)
                obtain ⟨ad423, e423, hx423_0⟩ := Kd.at_int (Kd.Q_reads' HO_6.out).2.2 0 p423 q423
                cases e423
                have qi423 : (0 < x6_1.length) = True := eq_true (by omega)
                (try rw [show ((0 : Int)).toNat = 0 from rfl] at hx423_0)
                (try rw [Addr.add_zero'] at hx423_0)
                replace p423 := eq_true p423
                replace q423 := eq_true q423
                go_wp2_with (first | ((with_reducible refine gate_builtin (b := .append) (xs := #[.tmp 24, .tmp 28]) rfl ?_); at_builtin; refine Kd.Q_append (Kd.int .i64) (w0 := w) w.heap.size rfl (.tmp 24) (.tmp 28) 22 3 (.int .i64 0) 8 rfl Try.underlying22 info3 rfl (by decide) (by omega) (.slice (some ad423) x6_1.length co16) x6_1 (rd x6_1 0) [.int .i64 (rd x6_1 0)] (fun k_ => some k_ ≠ (u5 : Value).ownBlock) (fun _ => False) rfl rfl ?aP (fun _ hk => hk.elim) ?aF ?aO ?aB ?aS ?aL ?_; (case aP => exact rfl); (case aB => exact (by repeat (first | (with_reducible first | exact HB.out | apply below_alloc | apply pw_below_drewN | apply below_drew1) | exact HB.out))); (case aF => exact (fun k_ hk => Kd.fresh' (Kd.R_lt (by (with_reducible repeat (first | apply Kd.R_alloc | apply Kd.R_drewN | apply Kd.R_drew)); exact HO_5.out)) k_ hk)); (case aO => exact (by (with_reducible repeat (first | apply Kd.Q_alloc | apply Kd.Q_drewN | apply Kd.Q_drew)); exact HO_6.out)); (case aS => exact (below_size (by repeat (first | (with_reducible first | exact HB.out | apply below_alloc | apply pw_below_drewN | apply below_drew1) | exact HB.out)))); (case aL => have := LMc14.out; omega); intro v425 w17 ho hb hg hat; rw [← Ny424.out] at ho; have n0_ := Aside0.mk (Kd.R_after (ok := (fun _ => True)) (by (with_reducible repeat (first | apply Kd.R_alloc | apply Kd.R_drewN | apply Kd.R_drew)); exact Kd.R_mono HO_5.out (fun _ hk => ⟨trivial, hk⟩)) hg hat); have n1_ := Aside0.mk (hb); have n2_ := Aside0.mk (ho); clear HO_5; clear HB; clear HO_6; have HO_5 := n0_; have HB := n1_; have HO426 := n2_; clear n0_ n1_ n2_; clear ho hb hg hat; obtain ⟨Ao18, co18, eo18, _⟩ := Kd.Q_slice HO426.out; subst eo18; have q19 : (1 : Int) ≤ ((y424.length : Int) : Int) := of_decide_eq_true (by first | (with_reducible assumption) | assumption); obtain ⟨i019, hi019, _, hsz19, _⟩ := info_parts info3; have hcut19 := cut_from (P := Try.prog) 22 3 .i64 Try.underlying22 hi019 1 hsz19 Ao18 y424.length co18 1 (by omega) q19; have hr19 := Kd.Q_drop (k := (1 : Int).toNat) HO426.out (by omega); obtain ⟨A19, hA19⟩ : ∃ A1, A1 = (if co18 = (1 : Int).toNat then Ao18 else (Ao18 : Option Addr).map (·.add ((1 : Int).toNat * 1))) := ⟨_, rfl⟩; obtain ⟨c19, hc19⟩ : ∃ c1, c1 = co18 - (1 : Int).toNat := ⟨_, rfl⟩; have hy19 : y427.length = y424.length - (1 : Int).toNat := (by rw [Ny427.out, List.length_drop]); rw [← Ny427.out] at hr19; rw [← hy19, ← hA19, ← hc19] at hcut19; replace hr19 : Kd.Q (Kd.int .i64) 3 w17 w.heap.size (fun k_ => some k_ ≠ (u5 : Value).ownBlock) (.slice A19 y427.length c19) y427 := (by rw [hA19, hc19, hy19]; exact hr19); have HE19 : Aside0 ((Value.slice A19 y427.length c19).ownBlock = (.slice Ao18 y424.length co18 : Value).ownBlock) := ⟨by rw [hA19]; split <;> (cases (Ao18 : Option Addr) <;> rfl)⟩; clear hy19 hi019 hsz19 HO426 hA19 hc19; have HO429 := Aside0.mk hr19; clear hr19; replace q19 := eq_true q19; have n_ := Aside0.mk (Kd.R_mono (ok' := fun k_ => (True ∧ some k_ ≠ (.slice A19 y427.length c19 : Value).ownBlock)) HO_5.out (fun k_ hk => ⟨trivial, (by rw [HE19.out]; exact hk.2)⟩)); clear HO_5; have HO_5 := n_; clear n_))
                go_roundg k1
                case measure => have := HK1.out; omega
                case rel => exact ⟨(x5_1), (y427), (!false), (by first | rfl | (simp; done) | (simp [*]; done)), H', ⟨by have := HK1.out; omega⟩, ⟨by (with_reducible repeat (first | apply Kd.R_alloc | apply Kd.R_drewN | apply Kd.R_drew)); exact Kd.R_mono HO_5.out (fun _ hk => hk.2)⟩, ⟨by (with_reducible repeat (first | apply Kd.Q_alloc | apply Kd.Q_drewN | apply Kd.Q_drew)); exact HO429.out⟩, ⟨by repeat (first | (with_reducible first | exact HB.out | apply below_alloc | apply pw_below_drewN | apply below_drew1) | exact HB.out)⟩⟩
              · rw [if_neg c15] at H
                exact absurd H (by simp)
            · rw [if_neg c14] at H
              exact absurd H (by simp)
          · rw [if_neg c13] at H
            exact absurd H (by simp)
      · rw [if_neg c5] at H
        have c5b0 : decide (1 < (x6_1.length : Int)) = false := decide_eq_false c5
        have c5b1 : decide (1 < x6_1.length) = false := decide_eq_false (by omega)
        clear c5
        by_cases c20 : x5_1.length + x6_1.length < 17592186044416
        · rw [if_pos c20] at H
          have LMc20 := Aside0.mk c20
          clear c20
          obtain ⟨y430, hy430⟩ : ∃ y_ : List Int, y_ = (x5_1 ++ x6_1) := ⟨_, rfl⟩
          replace H : (some y430) = some r := by first | (rw [hy430]; with_reducible exact H) | (have H2_ := (Option.bind_some _ _).symm.trans H; rw [hy430]; with_reducible exact H2_) | (have H2_ := (Option.bind_some _ _).symm.trans H; with_reducible exact H2_) | with_reducible exact H | (rw [hy430]; exact H) | exact H
          have Ny430 := Aside0.mk hy430
          clear hy430
          obtain rfl := Option.some.inj H
          obtain ⟨Ao21, co21, eo21, _⟩ := Kd.Q_slice HO_6.out
          subst eo21
          go_wp2_with (first | ((with_reducible refine gate_builtin (b := .append) (xs := #[.tmp 32, .tmp 33]) rfl ?_); at_builtin; refine Kd.R_append_rows (Kd.int .i64) (w0 := w) w.heap.size rfl (.tmp 32) (.tmp 33) 22 3 (.int .i64 0) 8 rfl Try.underlying22 info3 rfl (by decide) (by omega) u5 x5_1 x6_1 _ _ _ (fun k_ => some k_ ≠ (.slice Ao21 x6_1.length co21 : Value).ownBlock) (fun _ => False) rfl rfl ?aO ?aR (fun _ _ h => h) (fun _ h => h.elim) ?aF ?aB ?aS ?aL ?_; (case aR => repeat (first | exact (Kd.Q_reads' HO_6.out).2.2 | (with_reducible refine Kd.C_alloc ?_ _) | (with_reducible refine Kd.C_drewN ?_ _) | (with_reducible refine Kd.C_drew ?_))); (case aB => exact (by repeat (first | (with_reducible first | exact HB.out | apply below_alloc | apply pw_below_drewN | apply below_drew1) | exact HB.out))); (case aF => exact (fun k_ hk => Kd.fresh' (Kd.Q_lt (by (with_reducible repeat (first | apply Kd.Q_alloc | apply Kd.Q_drewN | apply Kd.Q_drew)); exact HO_6.out)) k_ hk)); (case aO => exact (by (with_reducible repeat (first | apply Kd.R_alloc | apply Kd.R_drewN | apply Kd.R_drew)); exact HO_5.out)); (case aS => exact (below_size (by repeat (first | (with_reducible first | exact HB.out | apply below_alloc | apply pw_below_drewN | apply below_drew1) | exact HB.out)))); (case aL => have := LMc20.out; omega); intro v431 w22 ho hb hg hat; rw [← Ny430.out] at ho; have n0_ := Aside0.mk (Kd.Q_after (ok := (fun _ => True)) (by (with_reducible repeat (first | apply Kd.Q_alloc | apply Kd.Q_drewN | apply Kd.Q_drew)); exact Kd.Q_mono HO_6.out (fun _ hk => ⟨trivial, hk⟩)) hg hat); have n1_ := Aside0.mk (hb); have n2_ := Aside0.mk (ho); clear HO_6; clear HB; clear HO_5; have HO_6 := n0_; have HB := n1_; have HO432 := n2_; clear n0_ n1_ n2_; clear ho hb hg hat))
          go_ret
          exact ⟨_, by first | rfl | (simp [errW_none, errW_some] <;> rfl) | (simp [*, errW_none, errW_some] <;> rfl), by (with_reducible repeat (first | apply Kd.R_alloc | apply Kd.R_drewN | apply Kd.R_drew)); exact Kd.R_mono HO432.out (fun _ hk => trivial), by repeat (first | (with_reducible first | exact HB.out | apply below_alloc | apply pw_below_drewN | apply below_drew1) | exact HB.out)⟩
        · rw [if_neg c20] at H
          exact absurd H (by simp)

end Go.Proofs.Ytclmicogljidkaa.F
