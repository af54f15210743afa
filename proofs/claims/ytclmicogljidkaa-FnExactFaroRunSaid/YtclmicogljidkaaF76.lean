/- Laid by a program of this claim's own. What the Go function does, as a Lean function, and the proof that the Go code does just that; Lean checks it. -/
import Derived.Test.YtclmicogljidkaaF0
namespace Go.Proofs.Ytclmicogljidkaa.F
open Go.RowKit Go.Proofs.YtclmicogljidkaaW.PrintWords Go.Proofs.YtclmicogljidkaaW.PrintLast Go.Proofs.YtclmicogljidkaaW.PrintMore
attribute [local go_sem] max2_int min2_int max_two min_two max_three min_three max_four min_four   -- for this text's walks alone
set_option linter.unusedVariables false
set_option linter.unusedSimpArgs false

/-! ### spec_l04Faro: function 86 -/
mutual
def spec_l04Faro.l0 : Nat → Int → List Int → List Int → List Int → Option (List Int)
  | 0, _, _, _, _ => none
  | k + 1, x1, x5, x6, x7 => if (x5.length : Int) > 0 then (spec_l04Faro.j1 k x1 x5 x6 x7 true) else (spec_l04Faro.j1 k x1 x5 x6 x7 (decide ((x6.length : Int) > 0)))
def spec_l04Faro.j1 : Nat → Int → List Int → List Int → List Int → Bool → Option (List Int)
  | 0, _, _, _, _, _ => none
  | k + 1, x1, x5, x6, x7, x26 => if x26 = true then (if (x6.length : Int) = 0 then (if 0 < (x5.length : Int) then (if x7.length < 17592186044416 then (if 1 ≤ (x5.length : Int) then (spec_l04Faro.l0 k x1 (x5.drop 1) x6 (x7 ++ [rd x5 0])) else (none)) else (none)) else (none)) else (if (x5.length : Int) > 0 then (if ((x7.length : Int) % 2) = x1 then (if 0 < (x5.length : Int) then (if x7.length < 17592186044416 then (if 1 ≤ (x5.length : Int) then (spec_l04Faro.l0 k x1 (x5.drop 1) x6 (x7 ++ [rd x5 0])) else (none)) else (none)) else (none)) else (if 0 < (x6.length : Int) then (if x7.length < 17592186044416 then (if 1 ≤ (x6.length : Int) then (spec_l04Faro.l0 k x1 x5 (x6.drop 1) (x7 ++ [rd x6 0])) else (none)) else (none)) else (none))) else (if 0 < (x6.length : Int) then (if x7.length < 17592186044416 then (if 1 ≤ (x6.length : Int) then (spec_l04Faro.l0 k x1 x5 (x6.drop 1) (x7 ++ [rd x6 0])) else (none)) else (none)) else (none)))) else (some x7)
end
def spec_l04Faro.f (k : Nat) (l0 : List Int) (a1 : Int) : Option (List Int) := if 0 ≤ (wrap64 ((l0.length : Int) / 2)) then (if (wrap64 ((l0.length : Int) / 2)) ≤ (l0.length : Int) then (spec_l04Faro.l0 k a1 (l0.take ((wrap64 ((l0.length : Int) / 2)) : Int).toNat) (l0.drop ((wrap64 ((l0.length : Int) / 2)) : Int).toNat) (([] : List Int))) else (none)) else (none)
theorem spec_l04Faro.mono_l : ∀ k, (∀ y0 y1 y2 y3, LeO (spec_l04Faro.l0 k y0 y1 y2 y3) (spec_l04Faro.l0 (k + 1) y0 y1 y2 y3)) ∧ (∀ y0 y1 y2 y3 y4, LeO (spec_l04Faro.j1 k y0 y1 y2 y3 y4) (spec_l04Faro.j1 (k + 1) y0 y1 y2 y3 y4))
  | 0 => ⟨fun _ _ _ _ r h => by simp [spec_l04Faro.l0] at h, fun _ _ _ _ _ r h => by simp [spec_l04Faro.j1] at h⟩
  | k + 1 => by
    obtain ⟨ih0, ih1⟩ := spec_l04Faro.mono_l k
    refine ⟨?_, ?_⟩
    · intro y0 y1 y2 y3
      unfold spec_l04Faro.l0
      repeat' first
      | (with_reducible exact ih0 _ _ _ _)
      | (with_reducible exact ih1 _ _ _ _ _)
      | (with_reducible exact LeO.refl _)
      | (with_reducible exact LeO.none _)
      | (with_reducible refine LeO.ite ?_ ?_)
      | (with_reducible refine LeO.bind ?_ (fun _ => ?_))
      | exact ih0 _ _ _ _
      | exact ih1 _ _ _ _ _
      | exact LeO.none _
      | refine LeO.ite ?_ ?_
      | refine LeO.bind ?_ (fun _ => ?_)
    · intro y0 y1 y2 y3 y4
      unfold spec_l04Faro.j1
      repeat' first
      | (with_reducible exact ih0 _ _ _ _)
      | (with_reducible exact ih1 _ _ _ _ _)
      | (with_reducible exact LeO.refl _)
      | (with_reducible exact LeO.none _)
      | (with_reducible refine LeO.ite ?_ ?_)
      | (with_reducible refine LeO.bind ?_ (fun _ => ?_))
      | exact ih0 _ _ _ _
      | exact ih1 _ _ _ _ _
      | exact LeO.none _
      | refine LeO.ite ?_ ?_
      | refine LeO.bind ?_ (fun _ => ?_)
theorem spec_l04Faro.mono : ∀ a0 a1 k, LeO (spec_l04Faro.f k a0 a1) (spec_l04Faro.f (k + 1) a0 a1) := by
  intro a0 a1 k
  obtain ⟨ih0, ih1⟩ := spec_l04Faro.mono_l k
  unfold spec_l04Faro.f
  repeat' first
      | (with_reducible exact ih0 _ _ _ _)
      | (with_reducible exact ih1 _ _ _ _ _)
      | (with_reducible exact LeO.refl _)
      | (with_reducible exact LeO.none _)
      | (with_reducible refine LeO.ite ?_ ?_)
      | (with_reducible refine LeO.bind ?_ (fun _ => ?_))
      | exact ih0 _ _ _ _
      | exact ih1 _ _ _ _ _
      | exact LeO.none _
      | refine LeO.ite ?_ ?_
      | refine LeO.bind ?_ (fun _ => ?_)
set_option maxHeartbeats 8000000 in
set_option maxRecDepth 100000 in
theorem spec_l04Faro.calls (k : Nat) (P0_ : Nat → Prop) (A0 : Option Addr) (c0 : Nat) (l0 : List Int) (a1 : Int) (r : List Int) (w : World) (hs0 : Kd.V (Kd.int .i64) 3 w w.heap.size (fun k_ => P0_ k_) (.slice A0 l0.length c0) l0) (h : spec_l04Faro.f k l0 a1 = some r) :
    Calls Try.prog 86 #[.slice A0 l0.length c0, .int .i64 a1] w fun e w' => ∃ v0_ : Value, e = .returned (v0_) ∧ Kd.R (Kd.int .i64) 3 w' w.heap.size (fun k_ => (w.heap.size ≤ k_)) v0_ r ∧ Below w.heap.size w w' := by
  have HO0 := Aside0.mk (show Kd.V (Kd.int .i64) 3 w w.heap.size (fun k_ => (P0_ k_ ∨ w.heap.size ≤ k_)) (.slice A0 l0.length c0) l0 from Kd.V_mono hs0 (fun k_ hk => .inl hk))
  have HB := Aside0.mk (Below.refl w.heap.size w)
  have H : (if 0 ≤ (wrap64 ((l0.length : Int) / 2)) then (if (wrap64 ((l0.length : Int) / 2)) ≤ (l0.length : Int) then (spec_l04Faro.l0 k a1 (l0.take ((wrap64 ((l0.length : Int) / 2)) : Int).toNat) (l0.drop ((wrap64 ((l0.length : Int) / 2)) : Int).toNat) (([] : List Int))) else (none)) else (none)) = some r := h
  clear h
  obtain ⟨ji3, hji3⟩ : ∃ j_ : Int, (wrap64 ((l0.length : Int) / 2)) = j_ := ⟨_, rfl⟩
  replace H : (if 0 ≤ (ji3) then (if (ji3) ≤ (l0.length : Int) then (spec_l04Faro.l0 k a1 (l0.take ((ji3) : Int).toNat) (l0.drop ((ji3) : Int).toNat) (([] : List Int))) else (none)) else (none)) = some r := by first | (rw [hji3] at H; exact H) | (simp only [hji3] at H ⊢; exact H)
  have hji3w : (IntKind.i64.wrap ((l0.length : Int) / 2)) = ji3 := (i64_w _).trans hji3
  by_cases c4 : 0 ≤ (ji3)
  · rw [if_pos c4] at H
    have c4b0 := eq_true c4
    have c4b1 : decide (0 ≤ (ji3)) = true := decide_eq_true c4
    clear c4
    by_cases c5 : (ji3) ≤ (l0.length : Int)
    · rw [if_pos c5] at H
      have c5b0 := eq_true c5
      have c5b1 : decide ((ji3) ≤ (l0.length : Int)) = true := decide_eq_true c5
      clear c5
      obtain ⟨y663, hy663⟩ : ∃ y_ : List Int, y_ = (l0.take ((ji3) : Int).toNat) := ⟨_, rfl⟩
      replace H : (spec_l04Faro.l0 k a1 y663 (l0.drop ((ji3) : Int).toNat) (([] : List Int))) = some r := by first | (rw [hy663]; with_reducible exact H) | (have H2_ := (Option.bind_some _ _).symm.trans H; rw [hy663]; with_reducible exact H2_) | (have H2_ := (Option.bind_some _ _).symm.trans H; with_reducible exact H2_) | with_reducible exact H | (rw [hy663]; exact H) | exact H
      have Ny663 := Aside0.mk hy663
      clear hy663
      have c6b0 := eq_true (of_decide_eq_true (by first | (with_reducible assumption) | assumption) : 0 ≤ (ji3))
      have c7b0 := eq_true (of_decide_eq_true (by first | (with_reducible assumption) | assumption) : (ji3) ≤ (l0.length : Int))
      obtain ⟨y668, hy668⟩ : ∃ y_ : List Int, y_ = (l0.drop ((ji3) : Int).toNat) := ⟨_, rfl⟩
      replace H : (spec_l04Faro.l0 k a1 y663 y668 (([] : List Int))) = some r := by first | (rw [hy668]; with_reducible exact H) | (have H2_ := (Option.bind_some _ _).symm.trans H; rw [hy668]; with_reducible exact H2_) | (have H2_ := (Option.bind_some _ _).symm.trans H; with_reducible exact H2_) | with_reducible exact H | (rw [hy668]; exact H) | exact H
      have Ny668 := Aside0.mk hy668
      clear hy668
      obtain ⟨y673, hy673⟩ : ∃ y_ : List Int, y_ = (([] : List Int)) := ⟨_, rfl⟩
      replace H : (spec_l04Faro.l0 k a1 y663 y668 y673) = some r := by first | (rw [hy673]; with_reducible exact H) | (have H2_ := (Option.bind_some _ _).symm.trans H; rw [hy673]; with_reducible exact H2_) | (have H2_ := (Option.bind_some _ _).symm.trans H; with_reducible exact H2_) | with_reducible exact H | (rw [hy673]; exact H) | exact H
      have Ny673 := Aside0.mk hy673
      clear hy673
      have H' := Aside0.mk H
      clear H
      have q8 : ((ji3) : Int) ≤ ((l0.length : Int) : Int) := of_decide_eq_true (by first | (with_reducible assumption) | assumption)
      obtain ⟨i08, hi08, _, hsz8, _⟩ := info_parts info3
      have hroom8 : l0.length ≤ c0 := (Kd.V_reads' HO0.out).2.1
      have hC8 : Kd.F (Kd.int .i64) _ _ A0 l0.length l0 := (Kd.V_at (base := w.heap.size) HO0.out).2.2
      have hcut8 := cut_to (P := Try.prog) 22 3 .i64 Try.underlying22 hi08 A0 l0.length c0 (ji3) (of_decide_eq_true (by first | (with_reducible assumption) | assumption)) q8 hroom8
      have hr8 := Kd.F_take (m := ((ji3) : Int).toNat) hC8 (by omega)
      have hy8 : y663.length = ((ji3) : Int).toNat := (by rw [Ny663.out, List.length_take]; omega)
      rw [← Ny663.out] at hr8
      rw [← hy8] at hcut8
      have HO667 := Aside0.mk (show Kd.V (Kd.int .i64) 3 _ w.heap.size _ (.slice A0 y663.length c0) y663 from Kd.V_mk (by omega) hr8)
      have HC667 := Aside0.mk (show y663.length ≤ c0 from by omega)
      clear hr8 hC8 hroom8 hi08 hsz8
      have KY8 := Aside0.mk hy8
      clear hy8
      replace q8 := eq_true q8
      have q9 : ((ji3) : Int) ≤ ((l0.length : Int) : Int) := of_decide_eq_true (by first | (with_reducible assumption) | assumption)
      obtain ⟨i09, hi09, _, hsz9, _⟩ := info_parts info3
      have hroom9 : l0.length ≤ c0 := (Kd.V_reads' HO0.out).2.1
      have hC9 : Kd.F (Kd.int .i64) _ _ A0 l0.length l0 := (Kd.V_at (base := w.heap.size) HO0.out).2.2
      have q09 : (0 : Int) ≤ ((ji3) : Int) := of_decide_eq_true (by first | (with_reducible assumption) | assumption)
      have hcut9 := cut_from (P := Try.prog) 22 3 .i64 Try.underlying22 hi09 1 hsz9 A0 l0.length c0 (ji3) q09 q9
      have hr9 := Kd.F_cut (m := ((ji3) : Int).toNat) (c := c0) hC9 (by omega) hroom9
      obtain ⟨A9, hA9⟩ : ∃ A1, A1 = (if c0 = ((ji3) : Int).toNat then A0 else (A0 : Option Addr).map (·.add (((ji3) : Int).toNat * 1))) := ⟨_, rfl⟩
      obtain ⟨c9, hc9⟩ : ∃ c1, c1 = c0 - ((ji3) : Int).toNat := ⟨_, rfl⟩
      have hy9 : y668.length = l0.length - ((ji3) : Int).toNat := (by rw [Ny668.out, List.length_drop] <;> omega)
      rw [show (l0).drop ((ji3) : Int).toNat = y668 from Ny668.out.symm] at hr9
      replace hr9 : Kd.F (Kd.int .i64) _ _ A9 y668.length y668 := (by rw [hA9]; exact hr9)
      rw [← hy9, ← hA9, ← hc9] at hcut9
      have HO672 := Aside0.mk (show Kd.V (Kd.int .i64) 3 _ w.heap.size _ (.slice A9 y668.length c9) y668 from Kd.V_mk (by rw [hy9, hc9]; exact Nat.sub_le_sub_right hroom9 _) hr9)
      have HC672 := Aside0.mk (show y668.length ≤ c9 from by rw [hy9, hc9]; exact Nat.sub_le_sub_right hroom9 _)
      clear hr9 hC9 hroom9 hi09 hsz9 hc9
      have KY9 := Aside0.mk hy9
      have KA9 := Aside0.mk hA9
      clear hy9 hA9
      replace q9 := eq_true q9
      go_enter Try.func86, Try.ntmps86
      go_wp2_with (first | ((with_reducible refine gate_dst (N := 18) rfl ?_); (try (refine gate_guard (by rfl) ?_; dsimp only)); refine Kd.R_lit (Kd.int .i64) _ 3 ?hg (N := 18) ?hd (xs := ([] : List Int)) (inner := []) (ok := fun _ => True) (okp := fun _ => True) ?hr ?hp (fun _ hk => hk) trivial (Below.refl _ _) (Nat.le_refl _) (by simp) ?_; (case hd => rfl); (case hg => rfl); (case hr => first | (go_simp; done) | (go_simp; rfl)); (case hp => exact (Reps.none _ _)); intro v674 w10 ho11 hb hg_ hnew_; clear hg_ hnew_; (first | rw [← Ny673.out] at ho11 | (simp only [Int.reduceToNat] at ho11; rw [← Ny673.out] at ho11)); have n0_ := Aside0.mk (Kd.V_elder' (by (with_reducible repeat (first | apply Kd.V_alloc | apply Kd.V_drewN | apply Kd.V_drew)); exact HO0.out) (Kd.R_base ho11) hb); have n1_ := Aside0.mk (Kd.V_elder' (by (with_reducible repeat (first | apply Kd.V_alloc | apply Kd.V_drewN | apply Kd.V_drew)); exact HO667.out) (Kd.R_base ho11) hb); have n2_ := Aside0.mk (Kd.V_elder' (by (with_reducible repeat (first | apply Kd.V_alloc | apply Kd.V_drewN | apply Kd.V_drew)); exact HO672.out) (Kd.R_base ho11) hb); have n3_ := Aside0.mk (Kd.R_lower (Kd.R_newM (M := fun k_ => (w.heap.size ≤ k_)) ho11 (below_size (by repeat (first | (with_reducible first | exact HB.out | apply below_alloc | apply pw_below_drewN | apply below_drew1) | exact HB.out))) (fun k_ h_ => h_)) (below_size (by repeat (first | (with_reducible first | exact HB.out | apply below_alloc | apply pw_below_drewN | apply below_drew1) | exact HB.out)))); have n4_ := Aside0.mk (below_step (by repeat (first | (with_reducible first | exact HB.out | apply below_alloc | apply pw_below_drewN | apply below_drew1) | exact HB.out)) hb); clear HO0; clear HO667; clear HO672; clear HB; have HO0 := n0_; have HO667 := n1_; have HO672 := n2_; have HO675 := n3_; have HB := n4_; clear n0_ n1_ n2_ n3_ n4_; clear hb ho11))
      go_loopg [5, 6, 7] k (fun kq v5 v6 v7 w' => ∃ (x5_1 : List Int) (x6_1 : List Int) (x7_1 : List Int), Aside0 (spec_l04Faro.l0 kq a1 x5_1 x6_1 x7_1 = some r) ∧ Aside0 (kq ≤ k) ∧ Aside0 (Kd.V (Kd.int .i64) 3 w' w.heap.size (fun k_ => (P0_ k_ ∨ w.heap.size ≤ k_) ∧ some k_ ≠ (v7 : Value).ownBlock) v5 x5_1) ∧ Aside0 (Kd.V (Kd.int .i64) 3 w' w.heap.size (fun k_ => (P0_ k_ ∨ w.heap.size ≤ k_) ∧ some k_ ≠ (v7 : Value).ownBlock) v6 x6_1) ∧ Aside0 (Kd.R (Kd.int .i64) 3 w' w.heap.size (fun k_ => (w.heap.size ≤ k_)) v7 x7_1) ∧ Aside0 (Below w.heap.size w w'))
      case atStart => exact ⟨(y663), (y668), (y673), H', ⟨Nat.le_refl _⟩, ⟨by (with_reducible repeat (first | apply Kd.V_alloc | apply Kd.V_drewN | apply Kd.V_drew)); exact HO667.out⟩, ⟨by (with_reducible repeat (first | apply Kd.V_alloc | apply Kd.V_drewN | apply Kd.V_drew)); exact HO672.out⟩, ⟨by (with_reducible repeat (first | apply Kd.R_alloc | apply Kd.R_drewN | apply Kd.R_drew)); exact Kd.R_mono HO675.out (fun _ hk => hk.1)⟩, ⟨by repeat (first | (with_reducible first | exact HB.out | apply below_alloc | apply pw_below_drewN | apply below_drew1) | exact HB.out)⟩⟩
      case round =>
        clear H'
        try clear c1
        try clear p2
        try clear c4
        try clear c4b0
        try clear c4b1
        try clear c5
        try clear c5b0
        try clear c5b1
        try clear c6
        try clear c6b0
        try clear p6
        try clear c7
        try clear c7b0
        try clear c8
        try clear q8
        try clear c9
        try clear q9
        try clear q09
        try clear q8
        try clear q9
        obtain ⟨x5_1, x6_1, x7_1, HA, HK1, HO_5, HO_6, HO_7, HB⟩ := hrel
        cases gk with
        | zero => exact absurd HA.out (by simp [spec_l04Faro.l0])
        | succ k1 =>
          have H := HA.out
          clear HA
          simp only [spec_l04Faro.l0] at H
          have HC12 := Aside0.mk H
          clear H
          go_upto_region 4 with (fail)
          go_cut [26] (fun v26 wc => ∃ (kq : Nat) (x26_11 : Bool), v26 = .bool x26_11 ∧ Aside0 (spec_l04Faro.j1 kq a1 x5_1 x6_1 x7_1 x26_11 = some r) ∧ Aside0 (kq ≤ k1) ∧ Aside0 (Kd.V (Kd.int .i64) 3 wc w.heap.size (fun k_ => (P0_ k_ ∨ w.heap.size ≤ k_) ∧ some k_ ≠ (u7 : Value).ownBlock) u5 x5_1) ∧ Aside0 (Kd.V (Kd.int .i64) 3 wc w.heap.size (fun k_ => (P0_ k_ ∨ w.heap.size ≤ k_) ∧ some k_ ≠ (u7 : Value).ownBlock) u6 x6_1) ∧ Aside0 (Kd.R (Kd.int .i64) 3 wc w.heap.size (fun k_ => (w.heap.size ≤ k_)) u7 x7_1) ∧ Aside0 (Below w.heap.size w wc))
          case first =>
            have H := HC12.out
            clear HC12
            by_cases c13 : (x5_1.length : Int) > 0
            · rw [if_pos c13] at H
              have c13b0 : decide (0 < (x5_1.length : Int)) = true := decide_eq_true c13
              have c13b1 : decide (0 < x5_1.length) = true := decide_eq_true (by omega)
              clear c13
              (first | rw [c13b0] | (simp only [i64_w, i32_w]; rw [c13b0]) | skip)
              have H' := Aside0.mk H
              clear H
              obtain ⟨Ao14, co14, eo14⟩ := Kd.V_slice HO_5.out
              subst eo14
              go_wp2
              go_meet
              case rel => exact ⟨_, (true), (by first | rfl | (simp; done) | (simp [*]; done)), H', ⟨by have := HK1.out; first | omega | exact Nat.le_refl _⟩, ⟨by (with_reducible repeat (first | apply Kd.V_alloc | apply Kd.V_drewN | apply Kd.V_drew)); exact HO_5.out⟩, ⟨by (with_reducible repeat (first | apply Kd.V_alloc | apply Kd.V_drewN | apply Kd.V_drew)); exact HO_6.out⟩, ⟨by (with_reducible repeat (first | apply Kd.R_alloc | apply Kd.R_drewN | apply Kd.R_drew)); exact HO_7.out⟩, ⟨by repeat (first | (with_reducible first | exact HB.out | apply below_alloc | apply pw_below_drewN | apply below_drew1) | exact HB.out)⟩⟩
            · rw [if_neg c13] at H
              have c13b0 : decide (0 < (x5_1.length : Int)) = false := decide_eq_false c13
              have c13b1 : decide (0 < x5_1.length) = false := decide_eq_false (by omega)
              clear c13
              (first | rw [c13b0] | (simp only [i64_w, i32_w]; rw [c13b0]) | skip)
              have H' := Aside0.mk H
              clear H
              obtain ⟨Ao15, co15, eo15⟩ := Kd.V_slice HO_5.out
              subst eo15
              obtain ⟨Ao16, co16, eo16⟩ := Kd.V_slice HO_6.out
              subst eo16
              go_wp2
              go_meet
              case rel => exact ⟨_, (decide ((x6_1.length : Int) > 0)), (by first | rfl | (simp; done) | (simp [*]; done)), H', ⟨by have := HK1.out; first | omega | exact Nat.le_refl _⟩, ⟨by (with_reducible repeat (first | apply Kd.V_alloc | apply Kd.V_drewN | apply Kd.V_drew)); exact HO_5.out⟩, ⟨by (with_reducible repeat (first | apply Kd.V_alloc | apply Kd.V_drewN | apply Kd.V_drew)); exact HO_6.out⟩, ⟨by (with_reducible repeat (first | apply Kd.R_alloc | apply Kd.R_drewN | apply Kd.R_drew)); exact HO_7.out⟩, ⟨by repeat (first | (with_reducible first | exact HB.out | apply below_alloc | apply pw_below_drewN | apply below_drew1) | exact HB.out)⟩⟩
          case rest =>
            clear HC12
            try clear c1
            try clear p2
            try clear c4
            try clear c4b0
            try clear c4b1
            try clear c5
            try clear c5b0
            try clear c5b1
            try clear c6
            try clear c6b0
            try clear p6
            try clear c7
            try clear c7b0
            try clear c8
            try clear q8
            try clear c9
            try clear q9
            try clear c13
            try clear c13b0
            try clear c13b1
            try clear p2
            try clear p6
            try clear q09
            try clear q8
            try clear q9
            obtain ⟨kq, x26_11, rfl, HA, HJ11, HO_5, HO_6, HO_7, HB⟩ := hcut
            cases kq with
            | zero => exact absurd HA.out (by simp [spec_l04Faro.j1])
            | succ kj11 =>
              have H := HA.out
              clear HA
              simp only [spec_l04Faro.j1] at H
              by_cases c17 : x26_11 = true
              · subst c17
                have H1 : (if (x6_1.length : Int) = 0 then (if 0 < (x5_1.length : Int) then (if x7_1.length < 17592186044416 then (if 1 ≤ (x5_1.length : Int) then (spec_l04Faro.l0 kj11 a1 (x5_1.drop 1) x6_1 (x7_1 ++ [rd x5_1 0])) else (none)) else (none)) else (none)) else (if (x5_1.length : Int) > 0 then (if ((x7_1.length : Int) % 2) = a1 then (if 0 < (x5_1.length : Int) then (if x7_1.length < 17592186044416 then (if 1 ≤ (x5_1.length : Int) then (spec_l04Faro.l0 kj11 a1 (x5_1.drop 1) x6_1 (x7_1 ++ [rd x5_1 0])) else (none)) else (none)) else (none)) else (if 0 < (x6_1.length : Int) then (if x7_1.length < 17592186044416 then (if 1 ≤ (x6_1.length : Int) then (spec_l04Faro.l0 kj11 a1 x5_1 (x6_1.drop 1) (x7_1 ++ [rd x6_1 0])) else (none)) else (none)) else (none))) else (if 0 < (x6_1.length : Int) then (if x7_1.length < 17592186044416 then (if 1 ≤ (x6_1.length : Int) then (spec_l04Faro.l0 kj11 a1 x5_1 (x6_1.drop 1) (x7_1 ++ [rd x6_1 0])) else (none)) else (none)) else (none)))) = some r := by rw [if_pos rfl] at H; exact H
                clear H
                have H := H1
                clear H1
                by_cases c18 : (x6_1.length : Int) = 0
                · rw [if_pos c18] at H
                  have c18b0 : ((x6_1.length : Int) == 0) = true := beq_iff_eq.mpr c18
                  have c18b1 : ((x6_1.length : Int) != 0) = false := bne_eq_false_iff_eq.mpr c18
                  clear c18
                  by_cases c19 : 0 < (x5_1.length : Int)
                  · rw [if_pos c19] at H
                    have c19b0 : decide (0 < (x5_1.length : Int)) = true := decide_eq_true c19
                    have c19b1 : decide (0 < x5_1.length) = true := decide_eq_true (by omega)
                    clear c19
                    by_cases c20 : x7_1.length < 17592186044416
                    · rw [if_pos c20] at H
                      have LMc20 := Aside0.mk c20
                      clear c20
                      obtain ⟨y677, hy677⟩ : ∃ y_ : List Int, y_ = (x7_1 ++ [rd x5_1 0]) := ⟨_, rfl⟩
                      replace H : (if 1 ≤ (x5_1.length : Int) then (spec_l04Faro.l0 kj11 a1 (x5_1.drop 1) x6_1 y677) else (none)) = some r := by first | (rw [hy677]; with_reducible exact H) | (have H2_ := (Option.bind_some _ _).symm.trans H; rw [hy677]; with_reducible exact H2_) | (have H2_ := (Option.bind_some _ _).symm.trans H; with_reducible exact H2_) | with_reducible exact H | (rw [hy677]; exact H) | exact H
                      have Ny677 := Aside0.mk hy677
                      clear hy677
                      by_cases c21 : 1 ≤ (x5_1.length : Int)
                      · rw [if_pos c21] at H
                        have c21b0 := eq_true c21
                        have c21b1 : decide (1 ≤ (x5_1.length : Int)) = true := decide_eq_true c21
                        clear c21
                        obtain ⟨y680, hy680⟩ : ∃ y_ : List Int, y_ = (x5_1.drop 1) := ⟨_, rfl⟩
                        replace H : (spec_l04Faro.l0 kj11 a1 y680 x6_1 y677) = some r := by first | (rw [hy680]; with_reducible exact H) | (have H2_ := (Option.bind_some _ _).symm.trans H; rw [hy680]; with_reducible exact H2_) | (have H2_ := (Option.bind_some _ _).symm.trans H; with_reducible exact H2_) | with_reducible exact H | (rw [hy680]; exact H) | exact H
                        have Ny680 := Aside0.mk hy680
                        clear hy680
                        have H' := Aside0.mk H
                        clear H
                        obtain ⟨Ao22, co22, eo22⟩ := Kd.V_slice HO_6.out
                        subst eo22
                        obtain ⟨Ao23, co23, eo23⟩ := Kd.V_slice HO_5.out
                        subst eo23
                        have p676 : 0 ≤ (0 : Int) := (by omega)
                        have q676 : 0 < (x5_1.length : Int) := of_decide_eq_true (by first | (with_reducible assumption) | assumption)
                        obtain ⟨ad676, e676, hx676_0⟩ := Kd.at_int (Kd.V_reads' HO_5.out).2.2 0 p676 q676
                        cases e676
                        have qi676 : (0 < x5_1.length) = True := eq_true (by omega)
                        (try rw [show ((0 : Int)).toNat = 0 from rfl] at hx676_0)
                        (try rw [Addr.add_zero'] at hx676_0)
                        replace p676 := eq_true p676
                        replace q676 := eq_true q676
                        go_wp2_with (first | ((with_reducible refine gate_builtin (b := .append) (xs := #[.tmp 42, .tmp 46]) rfl ?_); (try (refine gate_guard (by rfl) ?_; dsimp only)); at_builtin; refine Kd.R_append (Kd.int .i64) (w0 := w) w.heap.size rfl (.tmp 42) (.tmp 46) 22 3 (.int .i64 0) 8 rfl Try.underlying22 info3 rfl (by decide) (by omega) u7 x7_1 (rd x5_1 0) [.int .i64 (rd x5_1 0)] (fun k_ => (w.heap.size ≤ k_)) (fun _ => False) rfl rfl ?aP (fun _ hk => hk.elim) ?aF ?aO ?aB ?aS ?aL ?_; (case aP => exact rfl); (case aB => exact (by repeat (first | (with_reducible first | exact HB.out | apply below_alloc | apply pw_below_drewN | apply below_drew1) | exact HB.out))); (case aF => exact (fun k_ hk => (Nat.le_trans (below_size (by repeat (first | (with_reducible first | exact HB.out | apply below_alloc | apply pw_below_drewN | apply below_drew1) | exact HB.out))) hk))); (case aO => exact (by (with_reducible repeat (first | apply Kd.R_alloc | apply Kd.R_drewN | apply Kd.R_drew)); exact HO_7.out)); (case aS => exact (below_size (by repeat (first | (with_reducible first | exact HB.out | apply below_alloc | apply pw_below_drewN | apply below_drew1) | exact HB.out)))); (case aL => have := LMc20.out; omega); intro v678 w24 ho hb hg hat; rw [← Ny677.out] at ho; have n0_ := Aside0.mk (Kd.V_afterv (ok := (fun k_ => (P0_ k_ ∨ w.heap.size ≤ k_))) (by (with_reducible repeat (first | apply Kd.V_alloc | apply Kd.V_drewN | apply Kd.V_drew)); exact HO_5.out) hg hat); have n1_ := Aside0.mk (Kd.V_afterv (ok := (fun k_ => (P0_ k_ ∨ w.heap.size ≤ k_))) (by (with_reducible repeat (first | apply Kd.V_alloc | apply Kd.V_drewN | apply Kd.V_drew)); exact HO_6.out) hg hat); have n2_ := Aside0.mk (hb); have n3_ := Aside0.mk (ho); clear HO_5; clear HO_6; clear HB; clear HO_7; have HO_5 := n0_; have HO_6 := n1_; have HB := n2_; have HO679 := n3_; clear n0_ n1_ n2_ n3_; clear ho hb hg hat; have q25 : (1 : Int) ≤ ((x5_1.length : Int) : Int) := of_decide_eq_true (by first | (with_reducible assumption) | assumption); obtain ⟨i025, hi025, _, hsz25, _⟩ := info_parts info3; have hroom25 : x5_1.length ≤ co23 := (Kd.V_reads' HO_5.out).2.1; have hC25 : Kd.F (Kd.int .i64) _ _ (some ad676) x5_1.length x5_1 := (Kd.V_at (base := w.heap.size) HO_5.out).2.2; have hcut25 := cut_from (P := Try.prog) 22 3 .i64 Try.underlying22 hi025 1 hsz25 (some ad676) x5_1.length co23 1 (by omega) q25; have hr25 := Kd.F_cut (m := (1 : Int).toNat) (c := co23) hC25 (by omega) hroom25; obtain ⟨A25, hA25⟩ : ∃ A1, A1 = (if co23 = (1 : Int).toNat then (some ad676) else ((some ad676) : Option Addr).map (·.add ((1 : Int).toNat * 1))) := ⟨_, rfl⟩; obtain ⟨c25, hc25⟩ : ∃ c1, c1 = co23 - (1 : Int).toNat := ⟨_, rfl⟩; have hy25 : y680.length = x5_1.length - (1 : Int).toNat := (by rw [Ny680.out, List.length_drop] <;> omega); rw [show (x5_1).drop (1 : Int).toNat = y680 from Ny680.out.symm] at hr25; replace hr25 : Kd.F (Kd.int .i64) _ _ A25 y680.length y680 := (by rw [hA25]; exact hr25); rw [← hy25, ← hA25, ← hc25] at hcut25; have HO684 := Aside0.mk (show Kd.V (Kd.int .i64) 3 _ w.heap.size _ (.slice A25 y680.length c25) y680 from Kd.V_mk (by rw [hy25, hc25]; exact Nat.sub_le_sub_right hroom25 _) hr25); have HC684 := Aside0.mk (show y680.length ≤ c25 from by rw [hy25, hc25]; exact Nat.sub_le_sub_right hroom25 _); clear hr25 hC25 hroom25 hi025 hsz25 hc25; have KY25 := Aside0.mk hy25; have KA25 := Aside0.mk hA25; clear hy25 hA25; replace q25 := eq_true q25))
                        go_roundg kj11
                        case measure => have := HK1.out; have := HJ11.out; omega
                        case rel => exact ⟨(y680), (x6_1), (y677), H', ⟨by have := HK1.out; have := HJ11.out; omega⟩, ⟨by (with_reducible repeat (first | apply Kd.V_alloc | apply Kd.V_drewN | apply Kd.V_drew)); exact HO684.out⟩, ⟨by (with_reducible repeat (first | apply Kd.V_alloc | apply Kd.V_drewN | apply Kd.V_drew)); exact HO_6.out⟩, ⟨by (with_reducible repeat (first | apply Kd.R_alloc | apply Kd.R_drewN | apply Kd.R_drew)); exact HO679.out⟩, ⟨by repeat (first | (with_reducible first | exact HB.out | apply below_alloc | apply pw_below_drewN | apply below_drew1) | exact HB.out)⟩⟩
                      · rw [if_neg c21] at H
                        exact absurd H (by simp)
                    · rw [if_neg c20] at H
                      exact absurd H (by simp)
                  · rw [if_neg c19] at H
                    exact absurd H (by simp)
                · rw [if_neg c18] at H
                  have c18b0 : ((x6_1.length : Int) == 0) = false := beq_eq_false_iff_ne.mpr c18
                  have c18b1 : ((x6_1.length : Int) != 0) = true := bne_iff_ne.mpr c18
                  have c18b2 : ¬ (x6_1 = []) := fun h_ => c18 (by rw [h_]; rfl)
                  by_cases c26 : (x5_1.length : Int) > 0
                  · rw [if_pos c26] at H
                    have c26b0 : decide (0 < (x5_1.length : Int)) = true := decide_eq_true c26
                    have c26b1 : decide (0 < x5_1.length) = true := decide_eq_true (by omega)
                    clear c26
                    by_cases c27 : ((x7_1.length : Int) % 2) = a1
                    · rw [if_pos c27] at H
                      have c27b0 : (((x7_1.length : Int) % 2) == a1) = true := beq_iff_eq.mpr c27
                      have c27b1 : (((x7_1.length : Int) % 2) != a1) = false := bne_eq_false_iff_eq.mpr c27
                      clear c27
                      by_cases c28 : 0 < (x5_1.length : Int)
                      · rw [if_pos c28] at H
                        have c28b0 : decide (0 < (x5_1.length : Int)) = true := decide_eq_true c28
                        have c28b1 : decide (0 < x5_1.length) = true := decide_eq_true (by omega)
                        clear c28
                        by_cases c29 : x7_1.length < 17592186044416
                        · rw [if_pos c29] at H
                          have LMc29 := Aside0.mk c29
                          clear c29
                          obtain ⟨y686, hy686⟩ : ∃ y_ : List Int, y_ = (x7_1 ++ [rd x5_1 0]) := ⟨_, rfl⟩
                          replace H : (if 1 ≤ (x5_1.length : Int) then (spec_l04Faro.l0 kj11 a1 (x5_1.drop 1) x6_1 y686) else (none)) = some r := by first | (rw [hy686]; with_reducible exact H) | (have H2_ := (Option.bind_some _ _).symm.trans H; rw [hy686]; with_reducible exact H2_) | (have H2_ := (Option.bind_some _ _).symm.trans H; with_reducible exact H2_) | with_reducible exact H | (rw [hy686]; exact H) | exact H
                          have Ny686 := Aside0.mk hy686
                          clear hy686
                          by_cases c30 : 1 ≤ (x5_1.length : Int)
                          · rw [if_pos c30] at H
                            have c30b0 := eq_true c30
                            have c30b1 : decide (1 ≤ (x5_1.length : Int)) = true := decide_eq_true c30
                            clear c30
                            obtain ⟨y689, hy689⟩ : ∃ y_ : List Int, y_ = (x5_1.drop 1) := ⟨_, rfl⟩
                            replace H : (spec_l04Faro.l0 kj11 a1 y689 x6_1 y686) = some r := by first | (rw [hy689]; with_reducible exact H) | (have H2_ := (Option.bind_some _ _).symm.trans H; rw [hy689]; with_reducible exact H2_) | (have H2_ := (Option.bind_some _ _).symm.trans H; with_reducible exact H2_) | with_reducible exact H | (rw [hy689]; exact H) | exact H
                            have Ny689 := Aside0.mk hy689
                            clear hy689
                            have H' := Aside0.mk H
                            clear H
                            obtain ⟨Ao31, co31, eo31⟩ := Kd.V_slice HO_6.out
                            subst eo31
                            obtain ⟨Ao32, co32, eo32⟩ := Kd.V_slice HO_5.out
                            subst eo32
                            obtain ⟨Ao33, co33, eo33⟩ := Kd.R_slice HO_7.out
                            subst eo33
                            have p685 : 0 ≤ (0 : Int) := (by omega)
                            have q685 : 0 < (x5_1.length : Int) := of_decide_eq_true (by first | (with_reducible assumption) | assumption)
                            obtain ⟨ad685, e685, hx685_0⟩ := Kd.at_int (Kd.V_reads' HO_5.out).2.2 0 p685 q685
                            cases e685
                            have qi685 : (0 < x5_1.length) = True := eq_true (by omega)
                            (try rw [show ((0 : Int)).toNat = 0 from rfl] at hx685_0)
                            (try rw [Addr.add_zero'] at hx685_0)
                            replace p685 := eq_true p685
                            replace q685 := eq_true q685
                            go_wp2_with (first | ((with_reducible refine gate_builtin (b := .append) (xs := #[.tmp 42, .tmp 46]) rfl ?_); (try (refine gate_guard (by rfl) ?_; dsimp only)); at_builtin; refine Kd.R_append (Kd.int .i64) (w0 := w) w.heap.size rfl (.tmp 42) (.tmp 46) 22 3 (.int .i64 0) 8 rfl Try.underlying22 info3 rfl (by decide) (by omega) (.slice Ao33 x7_1.length co33) x7_1 (rd x5_1 0) [.int .i64 (rd x5_1 0)] (fun k_ => (w.heap.size ≤ k_)) (fun _ => False) rfl rfl ?aP (fun _ hk => hk.elim) ?aF ?aO ?aB ?aS ?aL ?_; (case aP => exact rfl); (case aB => exact (by repeat (first | (with_reducible first | exact HB.out | apply below_alloc | apply pw_below_drewN | apply below_drew1) | exact HB.out))); (case aF => exact (fun k_ hk => (Nat.le_trans (below_size (by repeat (first | (with_reducible first | exact HB.out | apply below_alloc | apply pw_below_drewN | apply below_drew1) | exact HB.out))) hk))); (case aO => exact (by (with_reducible repeat (first | apply Kd.R_alloc | apply Kd.R_drewN | apply Kd.R_drew)); exact HO_7.out)); (case aS => exact (below_size (by repeat (first | (with_reducible first | exact HB.out | apply below_alloc | apply pw_below_drewN | apply below_drew1) | exact HB.out)))); (case aL => have := LMc29.out; omega); intro v687 w34 ho hb hg hat; rw [← Ny686.out] at ho; have n0_ := Aside0.mk (Kd.V_afterv (ok := (fun k_ => (P0_ k_ ∨ w.heap.size ≤ k_))) (by (with_reducible repeat (first | apply Kd.V_alloc | apply Kd.V_drewN | apply Kd.V_drew)); exact HO_5.out) hg hat); have n1_ := Aside0.mk (Kd.V_afterv (ok := (fun k_ => (P0_ k_ ∨ w.heap.size ≤ k_))) (by (with_reducible repeat (first | apply Kd.V_alloc | apply Kd.V_drewN | apply Kd.V_drew)); exact HO_6.out) hg hat); have n2_ := Aside0.mk (hb); have n3_ := Aside0.mk (ho); clear HO_5; clear HO_6; clear HB; clear HO_7; have HO_5 := n0_; have HO_6 := n1_; have HB := n2_; have HO688 := n3_; clear n0_ n1_ n2_ n3_; clear ho hb hg hat; have q35 : (1 : Int) ≤ ((x5_1.length : Int) : Int) := of_decide_eq_true (by first | (with_reducible assumption) | assumption); obtain ⟨i035, hi035, _, hsz35, _⟩ := info_parts info3; have hroom35 : x5_1.length ≤ co32 := (Kd.V_reads' HO_5.out).2.1; have hC35 : Kd.F (Kd.int .i64) _ _ (some ad685) x5_1.length x5_1 := (Kd.V_at (base := w.heap.size) HO_5.out).2.2; have hcut35 := cut_from (P := Try.prog) 22 3 .i64 Try.underlying22 hi035 1 hsz35 (some ad685) x5_1.length co32 1 (by omega) q35; have hr35 := Kd.F_cut (m := (1 : Int).toNat) (c := co32) hC35 (by omega) hroom35; obtain ⟨A35, hA35⟩ : ∃ A1, A1 = (if co32 = (1 : Int).toNat then (some ad685) else ((some ad685) : Option Addr).map (·.add ((1 : Int).toNat * 1))) := ⟨_, rfl⟩; obtain ⟨c35, hc35⟩ : ∃ c1, c1 = co32 - (1 : Int).toNat := ⟨_, rfl⟩; have hy35 : y689.length = x5_1.length - (1 : Int).toNat := (by rw [Ny689.out, List.length_drop] <;> omega); rw [show (x5_1).drop (1 : Int).toNat = y689 from Ny689.out.symm] at hr35; replace hr35 : Kd.F (Kd.int .i64) _ _ A35 y689.length y689 := (by rw [hA35]; exact hr35); rw [← hy35, ← hA35, ← hc35] at hcut35; have HO693 := Aside0.mk (show Kd.V (Kd.int .i64) 3 _ w.heap.size _ (.slice A35 y689.length c35) y689 from Kd.V_mk (by rw [hy35, hc35]; exact Nat.sub_le_sub_right hroom35 _) hr35); have HC693 := Aside0.mk (show y689.length ≤ c35 from by rw [hy35, hc35]; exact Nat.sub_le_sub_right hroom35 _); clear hr35 hC35 hroom35 hi035 hsz35 hc35; have KY35 := Aside0.mk hy35; have KA35 := Aside0.mk hA35; clear hy35 hA35; replace q35 := eq_true q35))
                            go_roundg kj11
                            case measure => have := HK1.out; have := HJ11.out; omega
                            case rel => exact ⟨(y689), (x6_1), (y686), H', ⟨by have := HK1.out; have := HJ11.out; omega⟩, ⟨by (with_reducible repeat (first | apply Kd.V_alloc | apply Kd.V_drewN | apply Kd.V_drew)); exact HO693.out⟩, ⟨by (with_reducible repeat (first | apply Kd.V_alloc | apply Kd.V_drewN | apply Kd.V_drew)); exact HO_6.out⟩, ⟨by (with_reducible repeat (first | apply Kd.R_alloc | apply Kd.R_drewN | apply Kd.R_drew)); exact HO688.out⟩, ⟨by repeat (first | (with_reducible first | exact HB.out | apply below_alloc | apply pw_below_drewN | apply below_drew1) | exact HB.out)⟩⟩
                          · rw [if_neg c30] at H
                            exact absurd H (by simp)
                        · rw [if_neg c29] at H
                          exact absurd H (by simp)
                      · rw [if_neg c28] at H
                        exact absurd H (by simp)
                    · rw [if_neg c27] at H
                      have c27b0 : (((x7_1.length : Int) % 2) == a1) = false := beq_eq_false_iff_ne.mpr c27
                      have c27b1 : (((x7_1.length : Int) % 2) != a1) = true := bne_iff_ne.mpr c27
                      by_cases c36 : 0 < (x6_1.length : Int)
                      · rw [if_pos c36] at H
                        have c36b0 : decide (0 < (x6_1.length : Int)) = true := decide_eq_true c36
                        have c36b1 : decide (0 < x6_1.length) = true := decide_eq_true (by omega)
                        clear c36
                        by_cases c37 : x7_1.length < 17592186044416
                        · rw [if_pos c37] at H
                          have LMc37 := Aside0.mk c37
                          clear c37
                          obtain ⟨y695, hy695⟩ : ∃ y_ : List Int, y_ = (x7_1 ++ [rd x6_1 0]) := ⟨_, rfl⟩
                          replace H : (if 1 ≤ (x6_1.length : Int) then (spec_l04Faro.l0 kj11 a1 x5_1 (x6_1.drop 1) y695) else (none)) = some r := by first | (rw [hy695]; with_reducible exact H) | (have H2_ := (Option.bind_some _ _).symm.trans H; rw [hy695]; with_reducible exact H2_) | (have H2_ := (Option.bind_some _ _).symm.trans H; with_reducible exact H2_) | with_reducible exact H | (rw [hy695]; exact H) | exact H
                          have Ny695 := Aside0.mk hy695
                          clear hy695
                          by_cases c38 : 1 ≤ (x6_1.length : Int)
                          · rw [if_pos c38] at H
                            have c38b0 := eq_true c38
                            have c38b1 : decide (1 ≤ (x6_1.length : Int)) = true := decide_eq_true c38
                            clear c38
                            obtain ⟨y698, hy698⟩ : ∃ y_ : List Int, y_ = (x6_1.drop 1) := ⟨_, rfl⟩
                            replace H : (spec_l04Faro.l0 kj11 a1 x5_1 y698 y695) = some r := by first | (rw [hy698]; with_reducible exact H) | (have H2_ := (Option.bind_some _ _).symm.trans H; rw [hy698]; with_reducible exact H2_) | (have H2_ := (Option.bind_some _ _).symm.trans H; with_reducible exact H2_) | with_reducible exact H | (rw [hy698]; exact H) | exact H
                            have Ny698 := Aside0.mk hy698
                            clear hy698
                            have H' := Aside0.mk H
                            clear H
                            obtain ⟨Ao39, co39, eo39⟩ := Kd.V_slice HO_6.out
                            subst eo39
                            obtain ⟨Ao40, co40, eo40⟩ := Kd.V_slice HO_5.out
                            subst eo40
                            obtain ⟨Ao41, co41, eo41⟩ := Kd.R_slice HO_7.out
                            subst eo41
                            have p694 : 0 ≤ (0 : Int) := (by omega)
                            have q694 : 0 < (x6_1.length : Int) := of_decide_eq_true (by first | (with_reducible assumption) | assumption)
                            obtain ⟨ad694, e694, hx694_0⟩ := Kd.at_int (Kd.V_reads' HO_6.out).2.2 0 p694 q694
                            cases e694
                            have qi694 : (0 < x6_1.length) = True := eq_true (by omega)
                            (try rw [show ((0 : Int)).toNat = 0 from rfl] at hx694_0)
                            (try rw [Addr.add_zero'] at hx694_0)
                            replace p694 := eq_true p694
                            replace q694 := eq_true q694
                            go_wp2_with (first | ((with_reducible refine gate_builtin (b := .append) (xs := #[.tmp 50, .tmp 54]) rfl ?_); (try (refine gate_guard (by rfl) ?_; dsimp only)); at_builtin; refine Kd.R_append (Kd.int .i64) (w0 := w) w.heap.size rfl (.tmp 50) (.tmp 54) 22 3 (.int .i64 0) 8 rfl Try.underlying22 info3 rfl (by decide) (by omega) (.slice Ao41 x7_1.length co41) x7_1 (rd x6_1 0) [.int .i64 (rd x6_1 0)] (fun k_ => (w.heap.size ≤ k_)) (fun _ => False) rfl rfl ?aP (fun _ hk => hk.elim) ?aF ?aO ?aB ?aS ?aL ?_; (case aP => exact rfl); (case aB => exact (by repeat (first | (with_reducible first | exact HB.out | apply below_alloc | apply pw_below_drewN | apply below_drew1) | exact HB.out))); (case aF => exact (fun k_ hk => (Nat.le_trans (below_size (by repeat (first | (with_reducible first | exact HB.out | apply below_alloc | apply pw_below_drewN | apply below_drew1) | exact HB.out))) hk))); (case aO => exact (by (with_reducible repeat (first | apply Kd.R_alloc | apply Kd.R_drewN | apply Kd.R_drew)); exact HO_7.out)); (case aS => exact (below_size (by repeat (first | (with_reducible first | exact HB.out | apply below_alloc | apply pw_below_drewN | apply below_drew1) | exact HB.out)))); (case aL => have := LMc37.out; omega); intro v696 w42 ho hb hg hat; rw [← Ny695.out] at ho; have n0_ := Aside0.mk (Kd.V_afterv (ok := (fun k_ => (P0_ k_ ∨ w.heap.size ≤ k_))) (by (with_reducible repeat (first | apply Kd.V_alloc | apply Kd.V_drewN | apply Kd.V_drew)); exact HO_5.out) hg hat); have n1_ := Aside0.mk (Kd.V_afterv (ok := (fun k_ => (P0_ k_ ∨ w.heap.size ≤ k_))) (by (with_reducible repeat (first | apply Kd.V_alloc | apply Kd.V_drewN | apply Kd.V_drew)); exact HO_6.out) hg hat); have n2_ := Aside0.mk (hb); have n3_ := Aside0.mk (ho); clear HO_5; clear HO_6; clear HB; clear HO_7; have HO_5 := n0_; have HO_6 := n1_; have HB := n2_; have HO697 := n3_; clear n0_ n1_ n2_ n3_; clear ho hb hg hat; have q43 : (1 : Int) ≤ ((x6_1.length : Int) : Int) := of_decide_eq_true (by first | (with_reducible assumption) | assumption); obtain ⟨i043, hi043, _, hsz43, _⟩ := info_parts info3; have hroom43 : x6_1.length ≤ co39 := (Kd.V_reads' HO_6.out).2.1; have hC43 : Kd.F (Kd.int .i64) _ _ (some ad694) x6_1.length x6_1 := (Kd.V_at (base := w.heap.size) HO_6.out).2.2; have hcut43 := cut_from (P := Try.prog) 22 3 .i64 Try.underlying22 hi043 1 hsz43 (some ad694) x6_1.length co39 1 (by omega) q43; have hr43 := Kd.F_cut (m := (1 : Int).toNat) (c := co39) hC43 (by omega) hroom43; obtain ⟨A43, hA43⟩ : ∃ A1, A1 = (if co39 = (1 : Int).toNat then (some ad694) else ((some ad694) : Option Addr).map (·.add ((1 : Int).toNat * 1))) := ⟨_, rfl⟩; obtain ⟨c43, hc43⟩ : ∃ c1, c1 = co39 - (1 : Int).toNat := ⟨_, rfl⟩; have hy43 : y698.length = x6_1.length - (1 : Int).toNat := (by rw [Ny698.out, List.length_drop] <;> omega); rw [show (x6_1).drop (1 : Int).toNat = y698 from Ny698.out.symm] at hr43; replace hr43 : Kd.F (Kd.int .i64) _ _ A43 y698.length y698 := (by rw [hA43]; exact hr43); rw [← hy43, ← hA43, ← hc43] at hcut43; have HO702 := Aside0.mk (show Kd.V (Kd.int .i64) 3 _ w.heap.size _ (.slice A43 y698.length c43) y698 from Kd.V_mk (by rw [hy43, hc43]; exact Nat.sub_le_sub_right hroom43 _) hr43); have HC702 := Aside0.mk (show y698.length ≤ c43 from by rw [hy43, hc43]; exact Nat.sub_le_sub_right hroom43 _); clear hr43 hC43 hroom43 hi043 hsz43 hc43; have KY43 := Aside0.mk hy43; have KA43 := Aside0.mk hA43; clear hy43 hA43; replace q43 := eq_true q43))
                            go_roundg kj11
                            case measure => have := HK1.out; have := HJ11.out; omega
                            case rel => exact ⟨(x5_1), (y698), (y695), H', ⟨by have := HK1.out; have := HJ11.out; omega⟩, ⟨by (with_reducible repeat (first | apply Kd.V_alloc | apply Kd.V_drewN | apply Kd.V_drew)); exact HO_5.out⟩, ⟨by (with_reducible repeat (first | apply Kd.V_alloc | apply Kd.V_drewN | apply Kd.V_drew)); exact HO702.out⟩, ⟨by (with_reducible repeat (first | apply Kd.R_alloc | apply Kd.R_drewN | apply Kd.R_drew)); exact HO697.out⟩, ⟨by repeat (first | (with_reducible first | exact HB.out | apply below_alloc | apply pw_below_drewN | apply below_drew1) | exact HB.out)⟩⟩
                          · rw [if_neg c38] at H
                            exact absurd H (by simp)
                        · rw [if_neg c37] at H
                          exact absurd H (by simp)
                      · rw [if_neg c36] at H
                        exact absurd H (by simp)
                  · rw [if_neg c26] at H
                    have c26b0 : decide (0 < (x5_1.length : Int)) = false := decide_eq_false c26
                    have c26b1 : decide (0 < x5_1.length) = false := decide_eq_false (by omega)
                    clear c26
                    by_cases c44 : 0 < (x6_1.length : Int)
                    · rw [if_pos c44] at H
                      have c44b0 : decide (0 < (x6_1.length : Int)) = true := decide_eq_true c44
                      have c44b1 : decide (0 < x6_1.length) = true := decide_eq_true (by omega)
                      clear c44
                      by_cases c45 : x7_1.length < 17592186044416
                      · rw [if_pos c45] at H
                        have LMc45 := Aside0.mk c45
                        clear c45
                        obtain ⟨y704, hy704⟩ : ∃ y_ : List Int, y_ = (x7_1 ++ [rd x6_1 0]) := ⟨_, rfl⟩
                        replace H : (if 1 ≤ (x6_1.length : Int) then (spec_l04Faro.l0 kj11 a1 x5_1 (x6_1.drop 1) y704) else (none)) = some r := by first | (rw [hy704]; with_reducible exact H) | (have H2_ := (Option.bind_some _ _).symm.trans H; rw [hy704]; with_reducible exact H2_) | (have H2_ := (Option.bind_some _ _).symm.trans H; with_reducible exact H2_) | with_reducible exact H | (rw [hy704]; exact H) | exact H
                        have Ny704 := Aside0.mk hy704
                        clear hy704
                        by_cases c46 : 1 ≤ (x6_1.length : Int)
                        · rw [if_pos c46] at H
                          have c46b0 := eq_true c46
                          have c46b1 : decide (1 ≤ (x6_1.length : Int)) = true := decide_eq_true c46
                          clear c46
                          obtain ⟨y707, hy707⟩ : ∃ y_ : List Int, y_ = (x6_1.drop 1) := ⟨_, rfl⟩
                          replace H : (spec_l04Faro.l0 kj11 a1 x5_1 y707 y704) = some r := by first | (rw [hy707]; with_reducible exact H) | (have H2_ := (Option.bind_some _ _).symm.trans H; rw [hy707]; with_reducible exact H2_) | (have H2_ := (Option.bind_some _ _).symm.trans H; with_reducible exact H2_) | with_reducible exact H | (rw [hy707]; exact H) | exact H
                          have Ny707 := Aside0.mk hy707
                          clear hy707
                          have H' := Aside0.mk H
                          clear H
                          obtain ⟨Ao47, co47, eo47⟩ := Kd.V_slice HO_6.out
                          subst eo47
                          obtain ⟨Ao48, co48, eo48⟩ := Kd.V_slice HO_5.out
                          subst eo48
                          have p703 : 0 ≤ (0 : Int) := (by omega)
                          have q703 : 0 < (x6_1.length : Int) := of_decide_eq_true (by first | (with_reducible assumption) | assumption)
                          obtain ⟨ad703, e703, hx703_0⟩ := Kd.at_int (Kd.V_reads' HO_6.out).2.2 0 p703 q703
                          cases e703
                          have qi703 : (0 < x6_1.length) = True := eq_true (by omega)
                          (try rw [show ((0 : Int)).toNat = 0 from rfl] at hx703_0)
                          (try rw [Addr.add_zero'] at hx703_0)
                          replace p703 := eq_true p703
                          replace q703 := eq_true q703
                          go_wp2_with (first | ((with_reducible refine gate_builtin (b := .append) (xs := #[.tmp 50, .tmp 54]) rfl ?_); (try (refine gate_guard (by rfl) ?_; dsimp only)); at_builtin; refine Kd.R_append (Kd.int .i64) (w0 := w) w.heap.size rfl (.tmp 50) (.tmp 54) 22 3 (.int .i64 0) 8 rfl Try.underlying22 info3 rfl (by decide) (by omega) u7 x7_1 (rd x6_1 0) [.int .i64 (rd x6_1 0)] (fun k_ => (w.heap.size ≤ k_)) (fun _ => False) rfl rfl ?aP (fun _ hk => hk.elim) ?aF ?aO ?aB ?aS ?aL ?_; (case aP => exact rfl); (case aB => exact (by repeat (first | (with_reducible first | exact HB.out | apply below_alloc | apply pw_below_drewN | apply below_drew1) | exact HB.out))); (case aF => exact (fun k_ hk => (Nat.le_trans (below_size (by repeat (first | (with_reducible first | exact HB.out | apply below_alloc | apply pw_below_drewN | apply below_drew1) | exact HB.out))) hk))); (case aO => exact (by (with_reducible repeat (first | apply Kd.R_alloc | apply Kd.R_drewN | apply Kd.R_drew)); exact HO_7.out)); (case aS => exact (below_size (by repeat (first | (with_reducible first | exact HB.out | apply below_alloc | apply pw_below_drewN | apply below_drew1) | exact HB.out)))); (case aL => have := LMc45.out; omega); intro v705 w49 ho hb hg hat; rw [← Ny704.out] at ho; have n0_ := Aside0.mk (Kd.V_afterv (ok := (fun k_ => (P0_ k_ ∨ w.heap.size ≤ k_))) (by (with_reducible repeat (first | apply Kd.V_alloc | apply Kd.V_drewN | apply Kd.V_drew)); exact HO_5.out) hg hat); have n1_ := Aside0.mk (Kd.V_afterv (ok := (fun k_ => (P0_ k_ ∨ w.heap.size ≤ k_))) (by (with_reducible repeat (first | apply Kd.V_alloc | apply Kd.V_drewN | apply Kd.V_drew)); exact HO_6.out) hg hat); have n2_ := Aside0.mk (hb); have n3_ := Aside0.mk (ho); clear HO_5; clear HO_6; clear HB; clear HO_7; have HO_5 := n0_; have HO_6 := n1_; have HB := n2_; have HO706 := n3_; clear n0_ n1_ n2_ n3_; clear ho hb hg hat; have q50 : (1 : Int) ≤ ((x6_1.length : Int) : Int) := of_decide_eq_true (by first | (with_reducible assumption) | assumption); obtain ⟨i050, hi050, _, hsz50, _⟩ := info_parts info3; have hroom50 : x6_1.length ≤ co47 := (Kd.V_reads' HO_6.out).2.1; have hC50 : Kd.F (Kd.int .i64) _ _ (some ad703) x6_1.length x6_1 := (Kd.V_at (base := w.heap.size) HO_6.out).2.2; have hcut50 := cut_from (P := Try.prog) 22 3 .i64 Try.underlying22 hi050 1 hsz50 (some ad703) x6_1.length co47 1 (by omega) q50; have hr50 := Kd.F_cut (m := (1 : Int).toNat) (c := co47) hC50 (by omega) hroom50; obtain ⟨A50, hA50⟩ : ∃ A1, A1 = (if co47 = (1 : Int).toNat then (some ad703) else ((some ad703) : Option Addr).map (·.add ((1 : Int).toNat * 1))) := ⟨_, rfl⟩; obtain ⟨c50, hc50⟩ : ∃ c1, c1 = co47 - (1 : Int).toNat := ⟨_, rfl⟩; have hy50 : y707.length = x6_1.length - (1 : Int).toNat := (by rw [Ny707.out, List.length_drop] <;> omega); rw [show (x6_1).drop (1 : Int).toNat = y707 from Ny707.out.symm] at hr50; replace hr50 : Kd.F (Kd.int .i64) _ _ A50 y707.length y707 := (by rw [hA50]; exact hr50); rw [← hy50, ← hA50, ← hc50] at hcut50; have HO711 := Aside0.mk (show Kd.V (Kd.int .i64) 3 _ w.heap.size _ (.slice A50 y707.length c50) y707 from Kd.V_mk (by rw [hy50, hc50]; exact Nat.sub_le_sub_right hroom50 _) hr50); have HC711 := Aside0.mk (show y707.length ≤ c50 from by rw [hy50, hc50]; exact Nat.sub_le_sub_right hroom50 _); clear hr50 hC50 hroom50 hi050 hsz50 hc50; have KY50 := Aside0.mk hy50; have KA50 := Aside0.mk hA50; clear hy50 hA50; replace q50 := eq_true q50))
                          go_roundg kj11
                          case measure => have := HK1.out; have := HJ11.out; omega
                          case rel => exact ⟨(x5_1), (y707), (y704), H', ⟨by have := HK1.out; have := HJ11.out; omega⟩, ⟨by (with_reducible repeat (first | apply Kd.V_alloc | apply Kd.V_drewN | apply Kd.V_drew)); exact HO_5.out⟩, ⟨by (with_reducible repeat (first | apply Kd.V_alloc | apply Kd.V_drewN | apply Kd.V_drew)); exact HO711.out⟩, ⟨by (with_reducible repeat (first | apply Kd.R_alloc | apply Kd.R_drewN | apply Kd.R_drew)); exact HO706.out⟩, ⟨by repeat (first | (with_reducible first | exact HB.out | apply below_alloc | apply pw_below_drewN | apply below_drew1) | exact HB.out)⟩⟩
                        · rw [if_neg c46] at H
                          exact absurd H (by simp)
                      · rw [if_neg c45] at H
                        exact absurd H (by simp)
                    · rw [if_neg c44] at H
                      exact absurd H (by simp)
              · replace c17 := Bool.eq_false_iff.mpr c17
                subst c17
                have H1 : (some x7_1) = some r := by rw [if_neg (show ¬ (false = true) by decide)] at H; exact H
                clear H
                have H := H1
                clear H1
                obtain rfl := Option.some.inj H
                go_wp2
                go_ret
                exact ⟨_, by first | rfl | (simp [errW_none, errW_some] <;> rfl) | (simp only [← hji3]; first | rfl | (simp [errW_none, errW_some] <;> rfl)) | (simp [*, errW_none, errW_some] <;> rfl), by (with_reducible repeat (first | apply Kd.R_alloc | apply Kd.R_drewN | apply Kd.R_drew)); exact HO_7.out, by repeat (first | (with_reducible first | exact HB.out | apply below_alloc | apply pw_below_drewN | apply below_drew1) | exact HB.out)⟩
    · rw [if_neg c5] at H
      exact absurd H (by simp)
  · rw [if_neg c4] at H
    exact absurd H (by simp)

end Go.Proofs.Ytclmicogljidkaa.F
