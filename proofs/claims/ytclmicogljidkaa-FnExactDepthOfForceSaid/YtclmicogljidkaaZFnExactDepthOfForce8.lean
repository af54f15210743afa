import Derived.Test.YtclmicogljidkaaF0
import Derived.Test.YtclmicogljidkaaZFnExactDepthOfForce4
import Derived.Test.YtclmicogljidkaaZFnExactDepthOfForce7
import Derived.Test.YtclmicogljidkaaZFnExactDepthOfForce6
import Derived.Test.YtclmicogljidkaaM
import Derived.Test.YtclmicogljidkaaZFnExactDepthOfForce3
import Derived.Test.YtclmicogljidkaaZFnExactDepthOfForce5
/- Laid by a program of this claim's own. What the Go function does, as a Lean function, and the proof that the Go code does just that; Lean checks it. -/
namespace Go.Proofs.Ytclmicogljidkaa.F
open Go.RowKit Go.Proofs.YtclmicogljidkaaW.PrintWords Go.Proofs.YtclmicogljidkaaW.PrintLast Go.Proofs.YtclmicogljidkaaW.PrintMore
attribute [local go_sem] max2_int min2_int max_two min_two max_three min_three max_four min_four   -- for this text's walks alone
set_option linter.unusedVariables false
set_option linter.unusedSimpArgs false

/-! ### impl_PlayForce: function 51 -/
def impl_PlayForce.l0 : Nat → List (S67) → Int → List Int → Int → Int → Option (Int × Bool)
  | 0, _, _, _, _, _ => none
  | k + 1, x0, x6, x12, x13, x14 => if x14 < x13 then (if 0 ≤ x14 then (if x14 < (x12.length : Int) then (if (rd x12 x14) < 0 then (some (0, false)) else (if 0 ≤ x6 then (if x6 < (x0.length : Int) then (if (rd x12 x14) ≥ (((rd_T67 x0 x6).f1).length : Int) then (some (0, false)) else (if 0 ≤ (rd x12 x14) then (if (rd x12 x14) < (((rd_T67 x0 x6).f1).length : Int) then (impl_PlayForce.l0 k x0 (rd ((rd_T67 x0 x6).f1) (rd x12 x14)) x12 x13 (wrap64 (x14 + 1))) else (none)) else (none))) else (none)) else (none))) else (none)) else (none)) else (some (x6, true))
def impl_PlayForce.f (k : Nat) (l0 : List (S67)) (l1 : List Int) : Option (Int × Bool) := (impl_ForceOk.f k l0).bind fun t1016 => (if t1016 = true then (impl_PlayForce.l0 k l0 0 l1 (l1.length : Int) 0) else (some (0, false)))
theorem impl_PlayForce.mono_l : ∀ k, (∀ y0 y1 y2 y3 y4, LeO (impl_PlayForce.l0 k y0 y1 y2 y3 y4) (impl_PlayForce.l0 (k + 1) y0 y1 y2 y3 y4))
  | 0 => fun _ _ _ _ _ r h => by simp [impl_PlayForce.l0] at h
  | k + 1 => by
    have ih0 := impl_PlayForce.mono_l k
    · intro y0 y1 y2 y3 y4
      unfold impl_PlayForce.l0
      repeat' first
      | (with_reducible exact ih0 _ _ _ _ _)
      | (with_reducible exact impl_ForceOk.mono _ _)
      | (with_reducible exact LeO.refl _)
      | (with_reducible exact LeO.none _)
      | (with_reducible refine LeO.ite ?_ ?_)
      | (with_reducible refine LeO.bind ?_ (fun _ => ?_))
      | exact ih0 _ _ _ _ _
      | exact impl_ForceOk.mono _ _
      | exact LeO.none _
      | refine LeO.ite ?_ ?_
      | refine LeO.bind ?_ (fun _ => ?_)
theorem impl_PlayForce.mono : ∀ a0 a1 k, LeO (impl_PlayForce.f k a0 a1) (impl_PlayForce.f (k + 1) a0 a1) := by
  intro a0 a1 k
  have ih0 := impl_PlayForce.mono_l k
  unfold impl_PlayForce.f
  repeat' first
      | (with_reducible exact ih0 _ _ _ _ _)
      | (with_reducible exact impl_ForceOk.mono _ _)
      | (with_reducible exact LeO.refl _)
      | (with_reducible exact LeO.none _)
      | (with_reducible refine LeO.ite ?_ ?_)
      | (with_reducible refine LeO.bind ?_ (fun _ => ?_))
      | exact ih0 _ _ _ _ _
      | exact impl_ForceOk.mono _ _
      | exact LeO.none _
      | refine LeO.ite ?_ ?_
      | refine LeO.bind ?_ (fun _ => ?_)
set_option maxHeartbeats 8000000 in
set_option maxRecDepth 100000 in
theorem impl_PlayForce.calls (k : Nat) (A0 : Option Addr) (c0 : Nat) (l0 : List (S67)) (A1 : Option Addr) (c1 : Nat) (l1 : List Int) (r1 : Int) (r2 : Bool) (w : World) (hr0 : Kd.C k67 w A0 l0.length l0) (hc0 : l0.length ≤ c0) (hr1 : Kd.C (Kd.int .i64) w A1 l1.length l1) (hc1 : l1.length ≤ c1) (h : impl_PlayForce.f k l0 l1 = some (r1, r2)) :
    Calls Try.prog 51 #[.slice A0 l0.length c0, .slice A1 l1.length c1] w fun e w' => e = .returned (.tuple #[.int .i64 r1, .bool r2]) ∧ Below w.heap.size w w' := by
  have HR0 := Aside0.mk hr0
  have HC0 := Aside0.mk hc0
  clear hr0 hc0
  have HR1 := Aside0.mk hr1
  have HC1 := Aside0.mk hc1
  clear hr1 hc1
  have HB := Aside0.mk (Below.refl w.heap.size w)
  have H : ((impl_ForceOk.f k l0).bind fun t1016 => (if t1016 = true then (impl_PlayForce.l0 k l0 0 l1 (l1.length : Int) 0) else (some (0, false)))) = some (r1, r2) := h
  clear h
  replace H := Option.bind_eq_some_iff.mp H
  obtain ⟨t1016, A30, H⟩ := H
  replace H : (if t1016 = true then (impl_PlayForce.l0 k l0 0 l1 (l1.length : Int) 0) else (some (0, false))) = some (r1, r2) := H
  have A3 := Aside0.mk A30
  clear A30
  by_cases c4 : t1016 = true
  · subst c4
    have H1 : (impl_PlayForce.l0 k l0 0 l1 (l1.length : Int) 0) = some (r1, r2) := by rw [if_pos rfl] at H; exact H
    clear H
    have H := H1
    clear H1
    have H' := Aside0.mk H
    clear H
    go_enter Try.func51, Try.ntmps51
    go_wp2_with (first | ((with_reducible refine gate_callee (f := 33) rfl ?_); refine goesL_ (some 10) rfl rfl Try.func33 (by kernel_rfl) rfl #[.slice A0 l0.length c0] rfl (by (try simp only [List.map_toArray, List.map_cons, List.map_nil]); first | done | rfl | (simp only [List.length_drop, List.length_take]; rfl)) ?_; (with_reducible refine (impl_ForceOk.calls k _ _ l0 true _ ?side1 ?side2 A3.out).mono ?_); (case side1 => repeat (first | exact HR0.out | (with_reducible refine Kd.C_alloc ?_ _) | (with_reducible refine Kd.C_drewN ?_ _) | (with_reducible refine Kd.C_drew ?_))); (case side2 => exact HC0.out); rintro e w5 ⟨rfl, hb⟩; refine ⟨_, rfl, ?_⟩; have n0_ := Aside0.mk (below_step (by repeat (first | (with_reducible first | exact HB.out | apply below_alloc | apply pw_below_drewN | apply below_drew1) | exact HB.out)) hb); clear HB; have HB := n0_; clear n0_; (try clear hb); (try clear hb2); (try clear hk); (try clear hi)))
    go_loopg [6, 14] k (fun kq v6 v14 w' => ∃ (x6_1 : Int) (x14_1 : Int), v6 = .int .i64 x6_1 ∧ v14 = .int .i64 x14_1 ∧ Aside0 (impl_PlayForce.l0 kq l0 x6_1 l1 (l1.length : Int) x14_1 = some (r1, r2)) ∧ Aside0 (kq ≤ k) ∧ Aside0 (Below w.heap.size w w'))
    case atStart => exact ⟨(0), (0), (by first | rfl | (simp; done) | (simp [*]; done)), (by first | rfl | (simp; done) | (simp [*]; done)), H', ⟨Nat.le_refl _⟩, ⟨by repeat (first | (with_reducible first | exact HB.out | apply below_alloc | apply pw_below_drewN | apply below_drew1) | exact HB.out)⟩⟩
    case round =>
      clear H'
      try clear c1
      try clear p2
      try clear c3
      try clear c4
      try clear c5
      obtain ⟨x6_1, x14_1, rfl, rfl, HA, HK1, HB⟩ := hrel
      cases gk with
      | zero => exact absurd HA.out (by simp [impl_PlayForce.l0])
      | succ k1 =>
        have H := HA.out
        clear HA
        simp only [impl_PlayForce.l0] at H
        by_cases c6 : x14_1 < (l1.length : Int)
        · rw [if_pos c6] at H
          have c6b0 : decide (x14_1 < (l1.length : Int)) = true := decide_eq_true c6
          clear c6
          by_cases c7 : 0 ≤ x14_1
          · rw [if_pos c7] at H
            have c7b0 : decide (0 ≤ x14_1) = true := decide_eq_true c7
            clear c7
            by_cases c8 : x14_1 < (l1.length : Int)
            · rw [if_pos c8] at H
              have c8b0 : decide (x14_1 < (l1.length : Int)) = true := decide_eq_true c8
              clear c8
              by_cases c9 : (rd l1 x14_1) < 0
              · rw [if_pos c9] at H
                have c9b0 : decide ((rd l1 x14_1) < 0) = true := decide_eq_true c9
                clear c9
                simp only [Option.some.injEq, Prod.mk.injEq] at H
                obtain ⟨rfl, rfl⟩ := H
                have p1017 : 0 ≤ (x14_1 : Int) := of_decide_eq_true (by first | (with_reducible assumption) | assumption)
                have q1017 : x14_1 < (l1.length : Int) := of_decide_eq_true (by first | (with_reducible assumption) | assumption)
                obtain ⟨ad1017, e1017, hx1017_0⟩ := Kd.at_int HR1.out x14_1 p1017 q1017
                cases e1017
                replace hx1017_0 := (HB.out.cell (World.block_lt_of_cell? w _ hx1017_0)).trans hx1017_0
                replace p1017 := eq_true p1017
                replace q1017 := eq_true q1017
                go_wp2
                go_ret2
                exact ⟨by first | rfl | (simp [errW_none, errW_some] <;> rfl) | (simp [*, errW_none, errW_some] <;> rfl), by repeat (first | (with_reducible first | exact HB.out | apply below_alloc | apply pw_below_drewN | apply below_drew1) | exact HB.out)⟩
              · rw [if_neg c9] at H
                have c9b0 : decide ((rd l1 x14_1) < 0) = false := decide_eq_false c9
                clear c9
                by_cases c10 : 0 ≤ x6_1
                · rw [if_pos c10] at H
                  have c10b0 : decide (0 ≤ x6_1) = true := decide_eq_true c10
                  clear c10
                  by_cases c11 : x6_1 < (l0.length : Int)
                  · rw [if_pos c11] at H
                    have c11b0 : decide (x6_1 < (l0.length : Int)) = true := decide_eq_true c11
                    clear c11
                    by_cases c12 : (rd l1 x14_1) ≥ (((rd_T67 l0 x6_1).f1).length : Int)
                    · rw [if_pos c12] at H
                      have c12b0 : decide ((((rd_T67 l0 x6_1).f1).length : Int) ≤ (rd l1 x14_1)) = true := decide_eq_true c12
                      clear c12
                      simp only [Option.some.injEq, Prod.mk.injEq] at H
                      obtain ⟨rfl, rfl⟩ := H
                      have p1017 : 0 ≤ (x14_1 : Int) := of_decide_eq_true (by first | (with_reducible assumption) | assumption)
                      have q1017 : x14_1 < (l1.length : Int) := of_decide_eq_true (by first | (with_reducible assumption) | assumption)
                      obtain ⟨ad1017, e1017, hx1017_0⟩ := Kd.at_int HR1.out x14_1 p1017 q1017
                      cases e1017
                      replace hx1017_0 := (HB.out.cell (World.block_lt_of_cell? w _ hx1017_0)).trans hx1017_0
                      replace p1017 := eq_true p1017
                      replace q1017 := eq_true q1017
                      have p1018 : 0 ≤ (x6_1 : Int) := of_decide_eq_true (by first | (with_reducible assumption) | assumption)
                      have q1018 : x6_1 < (l0.length : Int) := of_decide_eq_true (by first | (with_reducible assumption) | assumption)
                      obtain ⟨ad1018, A1018_1, c1018_1, e1018, hx1018_0, hx1018_1, hx1018_2, hl1018_1, hi1018_1⟩ := at_T67 HR0.out x6_1 p1018 q1018
                      cases e1018
                      replace hx1018_0 := (HB.out.cell (World.block_lt_of_cell? w _ hx1018_0)).trans hx1018_0
                      replace hx1018_1 := (HB.out.cell (World.block_lt_of_cell? w _ hx1018_1)).trans hx1018_1
                      replace hx1018_2 := (HB.out.cell (World.block_lt_of_cell? w _ hx1018_2)).trans hx1018_2
                      have HR1018_1 := Aside0.mk hi1018_1
                      have HC1018_1 := Aside0.mk hl1018_1
                      clear hi1018_1 hl1018_1
                      replace p1018 := eq_true p1018
                      replace q1018 := eq_true q1018
                      go_wp2
                      go_ret2
                      exact ⟨by first | rfl | (simp [errW_none, errW_some] <;> rfl) | (simp [*, errW_none, errW_some] <;> rfl), by repeat (first | (with_reducible first | exact HB.out | apply below_alloc | apply pw_below_drewN | apply below_drew1) | exact HB.out)⟩
                    · rw [if_neg c12] at H
                      have c12b0 : decide ((((rd_T67 l0 x6_1).f1).length : Int) ≤ (rd l1 x14_1)) = false := decide_eq_false c12
                      clear c12
                      by_cases c13 : 0 ≤ (rd l1 x14_1)
                      · rw [if_pos c13] at H
                        have c13b0 : decide (0 ≤ (rd l1 x14_1)) = true := decide_eq_true c13
                        clear c13
                        by_cases c14 : (rd l1 x14_1) < (((rd_T67 l0 x6_1).f1).length : Int)
                        · rw [if_pos c14] at H
                          have c14b0 : decide ((rd l1 x14_1) < (((rd_T67 l0 x6_1).f1).length : Int)) = true := decide_eq_true c14
                          clear c14
                          have H' := Aside0.mk H
                          clear H
                          have p1017 : 0 ≤ (x14_1 : Int) := of_decide_eq_true (by first | (with_reducible assumption) | assumption)
                          have q1017 : x14_1 < (l1.length : Int) := of_decide_eq_true (by first | (with_reducible assumption) | assumption)
                          obtain ⟨ad1017, e1017, hx1017_0⟩ := Kd.at_int HR1.out x14_1 p1017 q1017
                          cases e1017
                          replace hx1017_0 := (HB.out.cell (World.block_lt_of_cell? w _ hx1017_0)).trans hx1017_0
                          replace p1017 := eq_true p1017
                          replace q1017 := eq_true q1017
                          have p1018 : 0 ≤ (x6_1 : Int) := of_decide_eq_true (by first | (with_reducible assumption) | assumption)
                          have q1018 : x6_1 < (l0.length : Int) := of_decide_eq_true (by first | (with_reducible assumption) | assumption)
                          obtain ⟨ad1018, A1018_1, c1018_1, e1018, hx1018_0, hx1018_1, hx1018_2, hl1018_1, hi1018_1⟩ := at_T67 HR0.out x6_1 p1018 q1018
                          cases e1018
                          replace hx1018_0 := (HB.out.cell (World.block_lt_of_cell? w _ hx1018_0)).trans hx1018_0
                          replace hx1018_1 := (HB.out.cell (World.block_lt_of_cell? w _ hx1018_1)).trans hx1018_1
                          replace hx1018_2 := (HB.out.cell (World.block_lt_of_cell? w _ hx1018_2)).trans hx1018_2
                          have HR1018_1 := Aside0.mk hi1018_1
                          have HC1018_1 := Aside0.mk hl1018_1
                          clear hi1018_1 hl1018_1
                          replace p1018 := eq_true p1018
                          replace q1018 := eq_true q1018
                          have p1019 : 0 ≤ (x6_1 : Int) := of_decide_eq_true (by first | (with_reducible assumption) | assumption)
                          have q1019 : x6_1 < (l0.length : Int) := of_decide_eq_true (by first | (with_reducible assumption) | assumption)
                          obtain ⟨ad1019, A1019_1, c1019_1, e1019, hx1019_0, hx1019_1, hx1019_2, hl1019_1, hi1019_1⟩ := at_T67 HR0.out x6_1 p1019 q1019
                          obtain rfl : ad1018 = ad1019 := (by injection e1019)
                          replace hx1019_0 := (HB.out.cell (World.block_lt_of_cell? w _ hx1019_0)).trans hx1019_0
                          replace hx1019_1 := (HB.out.cell (World.block_lt_of_cell? w _ hx1019_1)).trans hx1019_1
                          replace hx1019_2 := (HB.out.cell (World.block_lt_of_cell? w _ hx1019_2)).trans hx1019_2
                          have HR1019_1 := Aside0.mk hi1019_1
                          have HC1019_1 := Aside0.mk hl1019_1
                          clear hi1019_1 hl1019_1
                          replace p1019 := eq_true p1019
                          replace q1019 := eq_true q1019
                          have ea_ := Option.some.inj (hx1018_1.symm.trans hx1019_1)
                          injection ea_ with ea_ en_ ec_
                          subst ea_
                          subst ec_
                          clear en_
                          have p1020 : 0 ≤ ((rd l1 x14_1) : Int) := of_decide_eq_true (by first | (with_reducible assumption) | assumption)
                          have q1020 : (rd l1 x14_1) < (((rd_T67 l0 x6_1).f1).length : Int) := of_decide_eq_true (by first | (with_reducible assumption) | assumption)
                          obtain ⟨ad1020, e1020, hx1020_0⟩ := Kd.at_int HR1019_1.out (rd l1 x14_1) p1020 q1020
                          cases e1020
                          replace hx1020_0 := (HB.out.cell (World.block_lt_of_cell? w _ hx1020_0)).trans hx1020_0
                          replace p1020 := eq_true p1020
                          replace q1020 := eq_true q1020
                          go_wp2
                          go_roundg k1
                          case measure => have := HK1.out; omega
                          case rel => exact ⟨(rd ((rd_T67 l0 x6_1).f1) (rd l1 x14_1)), (wrap64 (x14_1 + 1)), (by first | rfl | (simp; done) | (simp [*]; done)), (by first | rfl | (simp; done) | (simp [*]; done)), H', ⟨by have := HK1.out; omega⟩, ⟨by repeat (first | (with_reducible first | exact HB.out | apply below_alloc | apply pw_below_drewN | apply below_drew1) | exact HB.out)⟩⟩
                        · rw [if_neg c14] at H
                          exact absurd H (by simp)
                      · rw [if_neg c13] at H
                        exact absurd H (by simp)
                  · rw [if_neg c11] at H
                    exact absurd H (by simp)
                · rw [if_neg c10] at H
                  exact absurd H (by simp)
            · rw [if_neg c8] at H
              exact absurd H (by simp)
          · rw [if_neg c7] at H
            exact absurd H (by simp)
        · rw [if_neg c6] at H
          have c6b0 : decide (x14_1 < (l1.length : Int)) = false := decide_eq_false c6
          clear c6
          simp only [Option.some.injEq, Prod.mk.injEq] at H
          obtain ⟨rfl, rfl⟩ := H
          go_wp2
          go_ret2
          exact ⟨by first | rfl | (simp [errW_none, errW_some] <;> rfl) | (simp [*, errW_none, errW_some] <;> rfl), by repeat (first | (with_reducible first | exact HB.out | apply below_alloc | apply pw_below_drewN | apply below_drew1) | exact HB.out)⟩
  · replace c4 := Bool.eq_false_iff.mpr c4
    subst c4
    have H1 : (some (0, false)) = some (r1, r2) := by rw [if_neg (show ¬ (false = true) by decide)] at H; exact H
    clear H
    have H := H1
    clear H1
    simp only [Option.some.injEq, Prod.mk.injEq] at H
    obtain ⟨rfl, rfl⟩ := H
    go_enter Try.func51, Try.ntmps51
    go_wp2_with (first | ((with_reducible refine gate_callee (f := 33) rfl ?_); refine goesL_ (some 10) rfl rfl Try.func33 (by kernel_rfl) rfl #[.slice A0 l0.length c0] rfl (by (try simp only [List.map_toArray, List.map_cons, List.map_nil]); first | done | rfl | (simp only [List.length_drop, List.length_take]; rfl)) ?_; (with_reducible refine (impl_ForceOk.calls k _ _ l0 false _ ?side1 ?side2 A3.out).mono ?_); (case side1 => repeat (first | exact HR0.out | (with_reducible refine Kd.C_alloc ?_ _) | (with_reducible refine Kd.C_drewN ?_ _) | (with_reducible refine Kd.C_drew ?_))); (case side2 => exact HC0.out); rintro e w15 ⟨rfl, hb⟩; refine ⟨_, rfl, ?_⟩; have n0_ := Aside0.mk (below_step (by repeat (first | (with_reducible first | exact HB.out | apply below_alloc | apply pw_below_drewN | apply below_drew1) | exact HB.out)) hb); clear HB; have HB := n0_; clear n0_; (try clear hb); (try clear hb2); (try clear hk); (try clear hi)))
    go_ret2
    exact ⟨by first | rfl | (simp [errW_none, errW_some] <;> rfl) | (simp [*, errW_none, errW_some] <;> rfl), by repeat (first | (with_reducible first | exact HB.out | apply below_alloc | apply pw_below_drewN | apply below_drew1) | exact HB.out)⟩

end Go.Proofs.Ytclmicogljidkaa.F
/- A force that is played. -/
namespace Go.Proofs.Ytclmicogljidkaa.F
open Go.RowKit Go.Proofs.YtclmicogljidkaaW.PrintWords Go.Proofs.YtclmicogljidkaaW.PrintLast Go.Proofs.YtclmicogljidkaaW.PrintMore
set_option linter.unusedVariables false
set_option linter.unusedSimpArgs false
theorem nextM_range (i n : Int) (vs : List Int) : ∀ (c c' : List Int), nextM i n vs c = some c' → ∀ v ∈ vs, i < v ∧ v < n := by
  induction vs with
  | nil => intro c c' h v hv; simp at hv
  | cons w vs ih =>
    intro c c' h v hv
    unfold nextM at h
    by_cases q : i < w ∧ w < n
    · rw [if_pos q] at h
      rcases List.mem_cons.mp hv with rfl | hv
      · exact q
      · exact ih _ _ h v hv
    · rw [if_neg q] at h
      exact absurd h (by simp)
theorem forceM_range (n : Int) (xs : List IN) : ∀ (i : Int) (c c' : List Int), 0 ≤ i → forceM n i xs c = some c' → ∀ x ∈ xs, ∀ v ∈ x.f1, 0 ≤ v ∧ v < n := by
  induction xs with
  | nil => intro i c c' hi h x hx; simp at hx
  | cons y xs ih =>
    intro i c c' hi h x hx v hv
    unfold forceM at h
    by_cases q : nodeB y = true
    · rw [if_pos q] at h
      obtain ⟨c2, h1, h2⟩ := Option.bind_eq_some_iff.mp h
      rcases List.mem_cons.mp hx with rfl | hx
      · have := nextM_range _ _ _ _ _ h1 v hv
        omega
      · exact ih _ _ _ (by omega) h2 x hx v hv
    · rw [if_neg q] at h
      exact absurd h (by simp)
theorem forceB_range (l : List IN) (h : forceB l = true) : (1 ≤ l.length ∧ l.length ≤ 40) ∧ ∀ x ∈ l, ∀ v ∈ x.f1, 0 ≤ v ∧ v < (l.length : Int) := by
  unfold forceB at h
  simp only [Bool.and_eq_true, decide_eq_true_eq] at h
  obtain ⟨h1, h2⟩ := h
  refine ⟨by omega, ?_⟩
  cases hm : forceM l.length 0 l (List.replicate l.length 0) with
  | none => rw [hm] at h2; exact absurd h2 (by simp [forceR])
  | some c => exact forceM_range _ _ _ _ _ (by omega) hm
def nodeAt (l : List IN) (c : Int) : IN := rd_T67 l c
theorem nodeAt_mem (l : List IN) (c : Int) (h0 : 0 ≤ c) (h1 : c < (l.length : Int)) : nodeAt l c ∈ l := by
  obtain ⟨n, rfl⟩ := Int.eq_ofNat_of_zero_le h0
  have hn : n < l.length := by omega
  unfold nodeAt rd_T67
  rw [Int.toNat_natCast, List.getD_eq_getElem?_getD, List.getElem?_eq_getElem hn]
  exact List.getElem_mem hn
theorem rd_mem (l : List Int) (c : Int) (h0 : 0 ≤ c) (h1 : c < (l.length : Int)) : rd l c ∈ l := by
  obtain ⟨n, rfl⟩ := Int.eq_ofNat_of_zero_le h0
  have hn : n < l.length := by omega
  unfold rd
  rw [Int.toNat_natCast, List.getD_eq_getElem?_getD, List.getElem?_eq_getElem hn]
  exact List.getElem_mem hn
def playM (l : List IN) : Int → List Int → Int × Bool
  | c, [] => (c, true)
  | c, a :: qs => if 0 ≤ a ∧ a < ((nodeAt l c).f1.length : Int) then playM l (rd (nodeAt l c).f1 a) qs else (0, false)
theorem impl_play_at (l : List IN) (hr : ∀ x ∈ l, ∀ v ∈ x.f1, 0 ≤ v ∧ v < (l.length : Int)) (rest : List Int) : ∀ (pre : List Int) (c : Int), (pre ++ rest).length ≤ 4611686018427387904 → 0 ≤ c → c < (l.length : Int) →
    Ev (fun k => impl_PlayForce.l0 k l c (pre ++ rest) ((pre ++ rest).length : Int) (pre.length : Int)) (playM l c rest) := by
  induction rest with
  | nil =>
    intro pre c hb h0 h1
    refine Ev.step (f := fun _ => some (c, true)) (fun k => ?_) (Ev.now _)
    show impl_PlayForce.l0 (k + 1) l c _ _ _ = _
    rw [impl_PlayForce.l0, if_neg (mid_nlt _)]
  | cons a rest ih =>
    intro pre c hb h0 h1
    by_cases q : 0 ≤ a ∧ a < ((nodeAt l c).f1.length : Int)
    · have hv := hr _ (nodeAt_mem l c h0 h1) _ (rd_mem _ a q.1 q.2)
      have h := ih (pre ++ [a]) (rd (nodeAt l c).f1 a) (by simpa using hb) hv.1 hv.2
      rw [← mid_cons, ← mid_succ pre a (by simp at hb; omega)] at h
      rw [show playM l c (a :: rest) = playM l (rd (nodeAt l c).f1 a) rest by simp only [playM, if_pos q]]
      unfold nodeAt at q
      refine Ev.step (fun k => ?_) h
      show impl_PlayForce.l0 (k + 1) l c _ _ _ = _
      rw [impl_PlayForce.l0, if_pos (mid_lt _ _ _), if_pos (nn _), if_pos (mid_lt _ _ _), mid_rd, if_neg (by omega), if_pos h0, if_pos h1, if_neg (by omega), if_pos q.1, if_pos q.2]
      rfl
    · rw [show playM l c (a :: rest) = (0, false) by simp only [playM, if_neg q]]
      unfold nodeAt at q
      refine Ev.step (f := fun _ => some ((0 : Int), false)) (fun k => ?_) (Ev.now _)
      show impl_PlayForce.l0 (k + 1) l c _ _ _ = _
      rw [impl_PlayForce.l0, if_pos (mid_lt _ _ _), if_pos (nn _), if_pos (mid_lt _ _ _), mid_rd]
      by_cases z : a < 0
      · rw [if_pos z]
      · rw [if_neg z, if_pos h0, if_pos h1, if_pos (by omega)]
theorem spec_play_at (l : List IN) (hl : ∀ x ∈ l, x.f1.length ≤ 4611686018427387904) (hr : ∀ x ∈ l, ∀ v ∈ x.f1, 0 ≤ v ∧ v < (l.length : Int)) (rest : List Int) : ∀ (pre : List Int) (c : Int), (pre ++ rest).length ≤ 4611686018427387904 → 0 ≤ c → c < (l.length : Int) →
    Ev (fun k => spec_PlayForce.l0 k l c (pre ++ rest) ((pre ++ rest).length : Int) (pre.length : Int)) (playM l c rest) := by
  induction rest with
  | nil =>
    intro pre c hb h0 h1
    refine Ev.step (f := fun _ => some (c, true)) (fun k => ?_) (Ev.now _)
    show spec_PlayForce.l0 (k + 1) l c _ _ _ = _
    rw [spec_PlayForce.l0, if_neg (mid_nlt _)]
  | cons a rest ih =>
    intro pre c hb h0 h1
    have hlen := hl _ (nodeAt_mem l c h0 h1)
    unfold nodeAt at hlen
    by_cases q : 0 ≤ a ∧ a < ((nodeAt l c).f1.length : Int)
    · have hv := hr _ (nodeAt_mem l c h0 h1) _ (rd_mem _ a q.1 q.2)
      have h := ih (pre ++ [a]) (rd (nodeAt l c).f1 a) (by simpa using hb) hv.1 hv.2
      rw [← mid_cons, ← mid_succ pre a (by simp at hb; omega)] at h
      rw [show playM l c (a :: rest) = playM l (rd (nodeAt l c).f1 a) rest by simp only [playM, if_pos q]]
      unfold nodeAt at q
      refine Ev.step (fun k => ?_) h
      show spec_PlayForce.l0 (k + 1) l c _ _ _ = _
      rw [spec_PlayForce.l0, if_pos (mid_lt _ _ _), if_pos (nn _), if_pos (mid_lt _ _ _), mid_rd, if_pos h0, if_pos h1, w64_id (by omega) (by omega), l01In_eq, decide_eq_true (by omega), Option.bind_some, if_pos rfl, if_pos q.1, if_pos q.2]
      rfl
    · rw [show playM l c (a :: rest) = (0, false) by simp only [playM, if_neg q]]
      unfold nodeAt at q
      refine Ev.step (f := fun _ => some ((0 : Int), false)) (fun k => ?_) (Ev.now _)
      show spec_PlayForce.l0 (k + 1) l c _ _ _ = _
      rw [spec_PlayForce.l0, if_pos (mid_lt _ _ _), if_pos (nn _), if_pos (mid_lt _ _ _), mid_rd, if_pos h0, if_pos h1, w64_id (by omega) (by omega), l01In_eq, decide_eq_false (by omega), Option.bind_some, if_neg (by simp)]
theorem play_both (l : List IN) (qs : List Int) (hl : ∀ x ∈ l, x.f1.length ≤ 4611686018427387904) (ha : qs.length ≤ 4611686018427387904) : ∃ r : Int × Bool, Ev (fun k => spec_PlayForce.f k l qs) r ∧ Ev (fun k => impl_PlayForce.f k l qs) r := by
  have E1 := spec_Force_ev l hl
  have E2 := impl_Force_ev l hl
  unfold spec_PlayForce.f impl_PlayForce.f
  by_cases h : forceB l = true
  · obtain ⟨⟨h1, h2⟩, hr⟩ := forceB_range l h
    refine ⟨playM l 0 qs, Ev.bind E1 ?_, Ev.bind E2 ?_⟩
    · simp only [h, if_true]
      exact spec_play_at l hl hr qs [] 0 ha (by omega) (by omega)
    · simp only [h, if_true]
      exact impl_play_at l hr qs [] 0 ha (by omega) (by omega)
  · refine ⟨(0, false), Ev.bind E1 ?_, Ev.bind E2 ?_⟩
    · simp only [h, if_false]
      exact Ev.now _
    · simp only [h, if_false]
      exact Ev.now _
end Go.Proofs.Ytclmicogljidkaa.F
/- How deep a force is: the table of depths from the root, and the heights from below. -/
namespace Go.Proofs.Ytclmicogljidkaa.F
open Go.RowKit Go.Proofs.YtclmicogljidkaaW.PrintWords Go.Proofs.YtclmicogljidkaaW.PrintLast Go.Proofs.YtclmicogljidkaaW.PrintMore
set_option linter.unusedVariables false
set_option linter.unusedSimpArgs false
def occ (v : Int) (l : List IN) : Nat := (l.flatMap fun x => x.f1).count v
theorem occ_cons (v : Int) (x : IN) (l : List IN) : occ v (x :: l) = x.f1.count v + occ v l := by simp [occ]
theorem occ_append (v : Int) (a b : List IN) : occ v (a ++ b) = occ v a + occ v b := by simp [occ]
theorem rd_set (c : List Int) (i j : Nat) (x : Int) (hi : i < c.length) : rd (c.set i x) (j : Int) = if i = j then x else rd c (j : Int) := by
  unfold rd
  rw [Int.toNat_natCast, List.getD_eq_getElem?_getD, List.getD_eq_getElem?_getD, List.getElem?_set]
  by_cases h : i = j
  · subst h; simp [hi]
  · simp [h]
theorem nextM_count (i n : Int) (h0 : 0 ≤ i) (vs : List Int) : ∀ (c c' : List Int) (v : Nat), nextM i n vs c = some c' → (c.length : Int) = n → 0 ≤ rd c v → rd c v + vs.length ≤ 4611686018427387904 → rd c' v = rd c v + (vs.count (v : Int) : Int) := by
  induction vs with
  | nil => intro c c' v h hc h1 h2; simp [nextM] at h; rw [h]; simp
  | cons w vs ih =>
    intro c c' v h hc h1 h2
    unfold nextM at h
    by_cases q : i < w ∧ w < n
    · rw [if_pos q] at h
      obtain ⟨u, rfl⟩ := Int.eq_ofNat_of_zero_le (show 0 ≤ w by omega)
      have hlt : u < c.length := by omega
      rw [Int.toNat_natCast] at h
      simp only [List.length_cons] at h2
      by_cases e : u = v
      · subst e
        have hw : wrap64 (rd c (u : Int) + 1) = rd c (u : Int) + 1 := w64_id (by omega) (by omega)
        rw [hw] at h
        have h3 := ih _ _ u h (by rw [List.length_set]; exact hc) (by rw [rd_set _ _ _ _ hlt, if_pos rfl]; omega) (by rw [rd_set _ _ _ _ hlt, if_pos rfl]; omega)
        rw [rd_set _ _ _ _ hlt, if_pos rfl] at h3
        rw [h3, List.count_cons_self]
        omega
      · have h3 := ih _ _ v h (by rw [List.length_set]; exact hc) (by rw [rd_set _ _ _ _ hlt, if_neg e]; exact h1) (by rw [rd_set _ _ _ _ hlt, if_neg e]; omega)
        rw [rd_set _ _ _ _ hlt, if_neg e] at h3
        rw [h3, List.count_cons_of_ne (by omega)]
    · rw [if_neg q] at h
      exact absurd h (by simp)
theorem forceM_count (n : Int) (xs : List IN) : ∀ (i : Int) (c c' : List Int) (v : Nat), 0 ≤ i → forceM n i xs c = some c' → (c.length : Int) = n → 0 ≤ rd c v → (∀ x ∈ xs, x.f1.length ≤ 1048576) → rd c v + xs.length * 1048576 ≤ 4611686018427387904 → rd c' v = rd c v + (occ v xs : Int) := by
  induction xs with
  | nil => intro i c c' v hi h hc h0 hx hb; simp [forceM] at h; rw [h]; simp [occ]
  | cons y xs ih =>
    intro i c c' v hi h hc h0 hx hb
    unfold forceM at h
    by_cases q : nodeB y = true
    · rw [if_pos q] at h
      obtain ⟨c2, h1, h2⟩ := Option.bind_eq_some_iff.mp h
      have hy := hx y (by simp)
      simp only [List.length_cons] at hb
      have h3 := nextM_count i n hi y.f1 c c2 v h1 hc h0 (by omega)
      have hle : y.f1.count (v : Int) ≤ y.f1.length := List.count_le_length
      have h4 := ih (i + 1) c2 c' v (by omega) h2 (by rw [nextM_len _ _ _ _ _ h1]; exact hc) (by omega) (fun x hx' => hx x (by simp [hx'])) (by omega)
      rw [h4, h3, occ_cons]
      omega
    · rw [if_neg q] at h
      exact absurd h (by simp)
theorem forceM_up (n : Int) (pre : List IN) : ∀ (x : IN) (rest : List IN) (i : Int) (c c' : List Int), forceM n i (pre ++ x :: rest) c = some c' → ∀ v ∈ x.f1, i + pre.length < v ∧ v < n := by
  induction pre with
  | nil =>
    intro x rest i c c' h v hv
    simp only [List.nil_append] at h
    unfold forceM at h
    by_cases q : nodeB x = true
    · rw [if_pos q] at h
      obtain ⟨c2, h1, h2⟩ := Option.bind_eq_some_iff.mp h
      have := nextM_range _ _ _ _ _ h1 v hv
      simpa using this
    · rw [if_neg q] at h
      exact absurd h (by simp)
  | cons y pre ih =>
    intro x rest i c c' h v hv
    simp only [List.cons_append] at h
    unfold forceM at h
    by_cases q : nodeB y = true
    · rw [if_pos q] at h
      obtain ⟨c2, h1, h2⟩ := Option.bind_eq_some_iff.mp h
      have := ih x rest (i + 1) c2 c' h2 v hv
      simp only [List.length_cons]
      omega
    · rw [if_neg q] at h
      exact absurd h (by simp)
/-- What a force's check says of it: each node leads on to later ones alone; each but the first is led to once. -/
structure Tree (l : List IN) : Prop where
  pos : 1 ≤ l.length
  le : l.length ≤ 40
  up : ∀ pre x rest, l = pre ++ x :: rest → ∀ v ∈ x.f1, (pre.length : Int) < v ∧ v < (l.length : Int)
  once : ∀ v : Nat, 1 ≤ v → v < l.length → occ v l = 1
theorem tree_of (l : List IN) (hx : ∀ x ∈ l, x.f1.length ≤ 1048576) (h : forceB l = true) : Tree l := by
  unfold forceB at h
  simp only [Bool.and_eq_true, decide_eq_true_eq] at h
  obtain ⟨h1, h2⟩ := h
  cases hm : forceM l.length 0 l (List.replicate l.length 0) with
  | none => rw [hm] at h2; exact absurd h2 (by simp [forceR])
  | some c =>
    rw [hm] at h2
    refine ⟨by omega, by omega, ?_, ?_⟩
    · intro pre x rest e v hv
      have hm2 := hm
      rw [e] at hm2
      have := forceM_up _ pre x rest 0 _ _ hm2 v hv
      rw [e]
      omega
    · intro v v1 v2
      have hz : rd (List.replicate l.length 0) (v : Int) = 0 := by
        unfold rd
        rw [Int.toNat_natCast, List.getD_eq_getElem?_getD, List.getElem?_replicate]
        split <;> rfl
      have h3 := forceM_count _ l 0 _ c v (by omega) hm (by simp) (by omega) hx (by rw [hz]; omega)
      rw [hz] at h3
      have hl : c.length = l.length := by
        have : ∀ (xs : List IN) (i : Int) (a b : List Int), forceM l.length i xs a = some b → b.length = a.length := by
          intro xs
          induction xs with
          | nil => intro i a b hh; simp [forceM] at hh; rw [hh]
          | cons y ys ih =>
            intro i a b hh
            unfold forceM at hh
            by_cases q : nodeB y = true
            · rw [if_pos q] at hh
              obtain ⟨c2, g1, g2⟩ := Option.bind_eq_some_iff.mp hh
              rw [ih _ _ _ g2, nextM_len _ _ _ _ _ g1]
            · rw [if_neg q] at hh
              exact absurd hh (by simp)
        simpa using this l 0 _ c hm
      have h4 : c[v]? = some c[v] := List.getElem?_eq_getElem (by omega)
      have h5 : rd c (v : Int) = 1 := by
        change finB c = true at h2
        unfold finB at h2
        rw [List.all_eq_true] at h2
        have hmem : c[v] ∈ c.drop 1 := by
          rw [List.mem_iff_getElem?]
          exact ⟨v - 1, by rw [List.getElem?_drop, show 1 + (v - 1) = v by omega]; exact h4⟩
        have := h2 _ hmem
        unfold rd
        rw [Int.toNat_natCast, List.getD_eq_getElem?_getD, h4]
        simpa using this
      omega
/-! the heights -/
def hgt (l : List IN) : Nat → Nat → Nat
  | 0, _ => 0
  | f + 1, i => ((nodeAt l (i : Int)).f1.map fun v => 1 + hgt l f v.toNat).foldl max 0
theorem foldl_max_ge (xs : List Nat) : ∀ a, a ≤ xs.foldl max a ∧ ∀ x ∈ xs, x ≤ xs.foldl max a := by
  induction xs with
  | nil => intro a; simp
  | cons y ys ih =>
    intro a
    simp only [List.foldl_cons]
    obtain ⟨h1, h2⟩ := ih (max a y)
    refine ⟨by omega, fun x hx => ?_⟩
    rcases List.mem_cons.mp hx with rfl | hx
    · omega
    · exact h2 x hx
theorem foldl_max_in (xs : List Nat) : ∀ a, xs.foldl max a = a ∨ xs.foldl max a ∈ xs := by
  induction xs with
  | nil => intro a; simp
  | cons y ys ih =>
    intro a
    simp only [List.foldl_cons]
    rcases ih (max a y) with h | h
    · by_cases c : a ≤ y
      · right; rw [h, Nat.max_eq_right c]; simp
      · left; rw [h, Nat.max_eq_left (by omega)]
    · right; exact List.mem_cons_of_mem _ h
theorem hgt_le (l : List IN) (f : Nat) : ∀ i, hgt l f i ≤ f := by
  induction f with
  | zero => intro i; simp [hgt]
  | succ f ih =>
    intro i
    unfold hgt
    rcases foldl_max_in ((nodeAt l (i : Int)).f1.map fun v => 1 + hgt l f v.toNat) 0 with h | h
    · omega
    · obtain ⟨v, _, hv⟩ := List.mem_map.mp h
      have := ih v.toNat
      omega
theorem split_at {l : List IN} {i : Nat} (h : i < l.length) : ∃ pre rest, l = pre ++ nodeAt l (i : Int) :: rest ∧ pre.length = i := by
  refine ⟨l.take i, l.drop (i + 1), ?_, by simp; omega⟩
  have e : nodeAt l (i : Int) = l[i] := by
    unfold nodeAt rd_T67
    rw [Int.toNat_natCast, List.getD_eq_getElem?_getD, List.getElem?_eq_getElem h]
    rfl
  rw [e, ← List.drop_eq_getElem_cons h, List.take_append_drop]
theorem kid_range {l : List IN} (T : Tree l) {i : Nat} (h : i < l.length) {v : Int} (hv : v ∈ (nodeAt l (i : Int)).f1) : (i : Int) < v ∧ v < (l.length : Int) := by
  obtain ⟨pre, rest, e, hl⟩ := split_at h
  have := T.up pre _ rest e v hv
  rwa [hl] at this
/-- More than enough is enough. -/
theorem hgt_more {l : List IN} (T : Tree l) (f : Nat) : ∀ i, i < l.length → l.length ≤ i + f → ∀ g, f ≤ g → hgt l g i = hgt l f i := by
  induction f with
  | zero => intro i h1 h2 g hg; omega
  | succ f ih =>
    intro i h1 h2 g hg
    obtain ⟨g, rfl⟩ : ∃ m, g = m + 1 := ⟨g - 1, by omega⟩
    unfold hgt
    congr 1
    apply List.map_congr_left
    intro v hv
    have := kid_range T h1 hv
    rw [ih v.toNat (by omega) (by omega) g (by omega)]
theorem hgt_kid {l : List IN} (T : Tree l) {i : Nat} (h : i < l.length) {v : Int} (hv : v ∈ (nodeAt l (i : Int)).f1) : 1 + hgt l l.length v.toNat ≤ hgt l l.length i := by
  have hr := kid_range T h hv
  obtain ⟨m, hm⟩ : ∃ m, l.length = m + 1 := ⟨l.length - 1, by omega⟩
  have e : hgt l l.length v.toNat = hgt l m v.toNat := hgt_more T m v.toNat (by omega) (by omega) _ (by omega)
  rw [e, hm]
  conv => rhs; unfold hgt
  exact (foldl_max_ge _ 0).2 _ (List.mem_map.mpr ⟨v, hv, rfl⟩)
theorem hgt_some {l : List IN} (T : Tree l) {i : Nat} (h : i < l.length) (hp : 0 < hgt l l.length i) : ∃ v ∈ (nodeAt l (i : Int)).f1, hgt l l.length i = 1 + hgt l l.length v.toNat := by
  obtain ⟨m, hm⟩ : ∃ m, l.length = m + 1 := ⟨l.length - 1, by omega⟩
  have e : hgt l l.length i = ((nodeAt l (i : Int)).f1.map fun v => 1 + hgt l m v.toNat).foldl max 0 := by rw [hm]; rfl
  rcases foldl_max_in ((nodeAt l (i : Int)).f1.map fun v => 1 + hgt l m v.toNat) 0 with h2 | h2
  · omega
  · obtain ⟨v, hv, hv2⟩ := List.mem_map.mp h2
    have hr := kid_range T h hv
    refine ⟨v, hv, ?_⟩
    rw [e, ← hv2, hgt_more T m v.toNat (by omega) (by omega) l.length (by omega)]
/-! the table of depths -/
def stepD (i : Int) (vs : List Int) (D : List Int) : List Int := vs.foldl (fun D v => D.set v.toNat (wrap64 (rd D i + 1))) D
def runD : Int → List IN → List Int → List Int
  | _, [], D => D
  | i, x :: xs, D => runD (i + 1) xs (stepD i x.f1 D)
def runO : Int → List IN → List Int → Int → Int
  | _, [], _, o => o
  | i, x :: xs, D, o => runO (i + 1) xs (stepD i x.f1 D) (mx o (rd (stepD i x.f1 D) i))
theorem stepD_cons (i v : Int) (vs D : List Int) : stepD i (v :: vs) D = stepD i vs (D.set v.toNat (wrap64 (rd D i + 1))) := rfl
theorem stepD_len (i : Int) (vs : List Int) : ∀ D, (stepD i vs D).length = D.length := by
  induction vs with
  | nil => intro D; rfl
  | cons v vs ih => intro D; rw [stepD_cons, ih, List.length_set]
theorem stepD_other (i : Nat) (vs : List Int) : ∀ (D : List Int) (j : Nat), (∀ v ∈ vs, 0 ≤ v ∧ v < (D.length : Int)) → (j : Int) ∉ vs → rd (stepD i vs D) (j : Int) = rd D (j : Int) := by
  induction vs with
  | nil => intro D j _ _; rfl
  | cons v vs ih =>
    intro D j hv hj
    obtain ⟨u, rfl⟩ := Int.eq_ofNat_of_zero_le (hv v (by simp)).1
    have hu := (hv (u : Int) (by simp)).2
    rw [stepD_cons, ih _ j (by intro v hv2; rw [List.length_set]; exact hv v (by simp [hv2])) (fun h => hj (by simp [h])), Int.toNat_natCast, rd_set _ _ _ _ (by omega), if_neg (by rintro rfl; exact hj (by simp))]
theorem stepD_hit (i : Nat) (vs : List Int) : ∀ (D : List Int) (j : Nat), (∀ v ∈ vs, (i : Int) < v ∧ v < (D.length : Int)) → (j : Int) ∈ vs → rd (stepD i vs D) (j : Int) = wrap64 (rd D (i : Int) + 1) := by
  induction vs with
  | nil => intro D j _ h; simp at h
  | cons v vs ih =>
    intro D j hv hj
    have hv0 := hv v (by simp)
    obtain ⟨u, rfl⟩ := Int.eq_ofNat_of_zero_le (show 0 ≤ v by omega)
    have hset : rd (D.set u (wrap64 (rd D (i : Int) + 1))) (i : Int) = rd D (i : Int) := by rw [rd_set _ _ _ _ (by omega), if_neg (by omega)]
    rw [stepD_cons, Int.toNat_natCast]
    by_cases hm : (j : Int) ∈ vs
    · rw [ih _ j (by intro w hw; rw [List.length_set]; exact hv w (by simp [hw])) hm, hset]
    · have e : j = u := by
        rcases List.mem_cons.mp hj with h | h
        · omega
        · exact absurd h hm
      subst e
      rw [stepD_other i vs _ j (by intro w hw; have := hv w (by simp [hw]); rw [List.length_set]; omega) hm, rd_set _ _ _ _ (by omega), if_pos rfl]
theorem runD_len (xs : List IN) : ∀ (i : Int) (D : List Int), (runD i xs D).length = D.length := by
  induction xs with
  | nil => intro i D; rfl
  | cons x xs ih => intro i D; unfold runD; rw [ih, stepD_len]
theorem runD_other (xs : List IN) : ∀ (i : Nat) (D : List Int) (j : Nat), (∀ x ∈ xs, ∀ v ∈ x.f1, 0 ≤ v ∧ v < (D.length : Int)) → (∀ x ∈ xs, (j : Int) ∉ x.f1) → rd (runD (i : Int) xs D) (j : Int) = rd D (j : Int) := by
  induction xs with
  | nil => intro i D j _ _; rfl
  | cons x xs ih =>
    intro i D j hv hj
    unfold runD
    rw [show (i : Int) + 1 = ((i + 1 : Nat) : Int) by omega, ih (i + 1) _ j (by intro y hy; rw [stepD_len]; exact hv y (by simp [hy])) (fun y hy => hj y (by simp [hy])), stepD_other i _ _ j (hv x (by simp)) (hj x (by simp))]
theorem runD_append (a b : List IN) : ∀ (i : Nat) (D : List Int), runD (i : Int) (a ++ b) D = runD ((i + a.length : Nat) : Int) b (runD (i : Int) a D) := by
  induction a with
  | nil => intro i D; rfl
  | cons x a ih =>
    intro i D
    rw [List.cons_append]
    conv => lhs; unfold runD
    conv => rhs; arg 3; unfold runD
    rw [show (i : Int) + 1 = ((i + 1 : Nat) : Int) by omega, ih]
    congr 2
    simp only [List.length_cons]; omega
theorem tree_vs {l : List IN} (T : Tree l) : ∀ x ∈ l, ∀ v ∈ x.f1, 0 ≤ v ∧ v < (l.length : Int) := by
  intro x hx v hv
  obtain ⟨pre, rest, e⟩ := List.append_of_mem hx
  have := T.up pre x rest e v hv
  omega
/-- The table at its end, round node i. -/
theorem end_here {l : List IN} (T : Tree l) (D : List Int) (hD : D.length = l.length) (pre : List IN) (x : IN) (rest : List IN) (e : l = pre ++ x :: rest) (D1 : List Int) (h1 : D1 = runD 0 pre D) :
    rd (stepD (pre.length : Int) x.f1 D1) (pre.length : Int) = rd (runD 0 l D) (pre.length : Int) ∧ ∀ v : Nat, (v : Int) ∈ x.f1 → rd (runD 0 l D) (v : Int) = wrap64 (rd (runD 0 l D) (pre.length : Int) + 1) := by
  have hup : ∀ v ∈ x.f1, (pre.length : Int) < v ∧ v < (l.length : Int) := T.up pre x rest e
  have hvs := tree_vs T
  have hl1 : D1.length = l.length := by rw [h1, runD_len, hD]
  have hF : runD 0 l D = runD ((pre.length + 1 : Nat) : Int) rest (stepD (pre.length : Int) x.f1 D1) := by
    have := runD_append pre (x :: rest) 0 D
    rw [e, show (0 : Int) = ((0 : Nat) : Int) from rfl, this, Nat.zero_add]
    conv => lhs; unfold runD
    rw [h1, show (pre.length : Int) + 1 = ((pre.length + 1 : Nat) : Int) by omega]
    rfl
  have hlater : ∀ y ∈ rest, ∀ v ∈ y.f1, (pre.length : Int) + 1 < v := by
    intro y hy v hv
    obtain ⟨p2, r2, e2⟩ := List.append_of_mem hy
    have := T.up (pre ++ x :: p2) y r2 (by rw [e, e2]; simp) v hv
    simp at this
    omega
  have hvr : ∀ y ∈ rest, ∀ v ∈ y.f1, 0 ≤ v ∧ v < ((stepD (pre.length : Int) x.f1 D1).length : Int) := by
    intro y hy v hv
    rw [stepD_len, hl1]
    exact hvs y (by rw [e]; simp [hy]) v hv
  have A : rd (stepD (pre.length : Int) x.f1 D1) (pre.length : Int) = rd (runD 0 l D) (pre.length : Int) := by
    rw [hF, runD_other rest _ _ pre.length hvr (fun y hy h => by have := hlater y hy _ h; omega)]
  refine ⟨A, fun v hv => ?_⟩
  have hv1 := hup _ hv
  have honce := T.once v (by omega) (by omega)
  rw [e, occ_append, occ_cons] at honce
  have hc : 0 < x.f1.count (v : Int) := List.count_pos_iff.mpr hv
  have hrest : occ (v : Int) rest = 0 := by omega
  have hno : ∀ y ∈ rest, (v : Int) ∉ y.f1 := by
    intro y hy h
    have : (v : Int) ∈ rest.flatMap fun x => x.f1 := List.mem_flatMap.mpr ⟨y, hy, h⟩
    have := List.count_pos_iff.mpr this
    unfold occ at hrest
    omega
  have h2 : rd (stepD (pre.length : Int) x.f1 D1) (pre.length : Int) = rd D1 (pre.length : Int) := stepD_other pre.length x.f1 D1 pre.length (fun v hv => by have := hup v hv; omega) (fun h => by have := hup _ h; omega)
  rw [← A, h2, hF, runD_other rest _ _ v hvr hno, stepD_hit pre.length x.f1 D1 v (fun w hw => by have := hup w hw; omega) hv]
theorem end_kid {l : List IN} (T : Tree l) (D : List Int) (hD : D.length = l.length) {i : Nat} (h : i < l.length) {v : Nat} (hv : (v : Int) ∈ (nodeAt l (i : Int)).f1) : rd (runD 0 l D) (v : Int) = wrap64 (rd (runD 0 l D) (i : Int) + 1) := by
  obtain ⟨pre, rest, e, hl⟩ := split_at h
  have := (end_here T D hD pre _ rest e _ rfl).2 v hv
  rwa [hl] at this
theorem parent {l : List IN} (T : Tree l) (v : Nat) (h1 : 1 ≤ v) (h2 : v < l.length) : ∃ i, i < v ∧ (v : Int) ∈ (nodeAt l (i : Int)).f1 := by
  have ho := T.once v h1 h2
  have hm : (v : Int) ∈ l.flatMap fun x => x.f1 := by
    rw [← List.count_pos_iff]
    unfold occ at ho
    omega
  obtain ⟨x, hx, hv⟩ := List.mem_flatMap.mp hm
  obtain ⟨pre, rest, e⟩ := List.append_of_mem hx
  have hup := T.up pre x rest e _ hv
  refine ⟨pre.length, by omega, ?_⟩
  have : nodeAt l (pre.length : Int) = x := by
    rw [e]
    unfold nodeAt
    exact mid_rdIN _ _ _
  rw [this]
  exact hv
theorem end_small {l : List IN} (T : Tree l) (D : List Int) (hD : D = List.replicate l.length 0) : ∀ (n v : Nat), v < n → v < l.length → 0 ≤ rd (runD 0 l D) (v : Int) ∧ rd (runD 0 l D) (v : Int) ≤ v := by
  intro n
  induction n with
  | zero => intro v h; omega
  | succ n ih =>
    intro v hv hl
    by_cases h0 : v = 0
    · subst h0
      have h1 : rd (runD 0 l D) ((0 : Nat) : Int) = rd D ((0 : Nat) : Int) := runD_other l 0 D 0 (by rw [hD, List.length_replicate]; exact tree_vs T) (fun x hx h => by
        obtain ⟨pre, rest, e⟩ := List.append_of_mem hx
        have := T.up pre x rest e _ h
        omega)
      have h2 : rd D ((0 : Nat) : Int) = 0 := by
        rw [hD]
        unfold rd
        rw [Int.toNat_natCast, List.getD_eq_getElem?_getD, List.getElem?_replicate]
        split <;> rfl
      omega
    · obtain ⟨i, hi, hm⟩ := parent T v (by omega) hl
      have h3 := ih i (by omega) (by omega)
      have h4 := end_kid T D (by rw [hD]; simp) (show i < l.length by omega) hm
      have := T.le
      rw [w64_id (by omega) (by omega)] at h4
      omega
theorem end_root {l : List IN} (T : Tree l) (D : List Int) (hD : D = List.replicate l.length 0) (v : Nat) (hl : v < l.length) : rd (runD 0 l D) (v : Int) + hgt l l.length v ≤ hgt l l.length 0 := by
  suffices h : ∀ (n v : Nat), v < n → v < l.length → rd (runD 0 l D) (v : Int) + hgt l l.length v ≤ hgt l l.length 0 from h (v + 1) v (by omega) hl
  intro n
  induction n with
  | zero => intro v h; omega
  | succ n ih =>
    intro v hv hl
    by_cases h0 : v = 0
    · subst h0
      have := end_small T D hD 1 0 (by omega) hl
      omega
    · obtain ⟨i, hi, hm⟩ := parent T v (by omega) hl
      have h3 := ih i (by omega) (by omega)
      have h4 := end_kid T D (by rw [hD]; simp) (show i < l.length by omega) hm
      have h5 := end_small T D hD (i + 1) i (by omega) (by omega)
      have h6 := hgt_kid T (show i < l.length by omega) hm
      rw [Int.toNat_natCast] at h6
      have := T.le
      rw [w64_id (by omega) (by omega)] at h4
      omega
theorem end_deep {l : List IN} (T : Tree l) (D : List Int) (hD : D = List.replicate l.length 0) : ∀ (n v : Nat), l.length ≤ v + n → v < l.length → ∃ j, j < l.length ∧ rd (runD 0 l D) (j : Int) = rd (runD 0 l D) (v : Int) + hgt l l.length v := by
  intro n
  induction n with
  | zero => intro v h1 h2; omega
  | succ n ih =>
    intro v h1 h2
    by_cases h0 : hgt l l.length v = 0
    · exact ⟨v, h2, by omega⟩
    · obtain ⟨c, hc, he⟩ := hgt_some T h2 (by omega)
      have hr := kid_range T h2 hc
      obtain ⟨u, rfl⟩ := Int.eq_ofNat_of_zero_le (show 0 ≤ c by omega)
      rw [Int.toNat_natCast] at he
      obtain ⟨j, hj, hj2⟩ := ih u (by omega) (by omega)
      have h4 := end_kid T D (by rw [hD]; simp) h2 hc
      have h5 := end_small T D hD (v + 1) v (by omega) h2
      have := T.le
      rw [w64_id (by omega) (by omega)] at h4
      exact ⟨j, hj, by omega⟩
theorem mx_eq (a b : Int) : mx a b = max a b := by
  unfold mx
  split <;> omega
theorem runO_is {l : List IN} (T : Tree l) (D : List Int) (hD : D.length = l.length) (rest : List IN) : ∀ (pre : List IN) (o : Int), l = pre ++ rest →
    let r := runO (pre.length : Int) rest (runD 0 pre D) o
    o ≤ r ∧ (∀ j, pre.length ≤ j → j < l.length → rd (runD 0 l D) (j : Int) ≤ r) ∧ (r = o ∨ ∃ j, j < l.length ∧ r = rd (runD 0 l D) (j : Int)) := by
  induction rest with
  | nil =>
    intro pre o e
    refine ⟨by simp [runO], fun j h1 h2 => ?_, .inl rfl⟩
    rw [e] at h2
    simp at h2
    omega
  | cons x rest ih =>
    intro pre o e
    have hE := (end_here T D hD pre x rest e _ rfl).1
    have hn := ih (pre ++ [x]) (mx o (rd (stepD (pre.length : Int) x.f1 (runD 0 pre D)) (pre.length : Int))) (by rw [e]; simp)
    have e1 : runD 0 (pre ++ [x]) D = stepD (pre.length : Int) x.f1 (runD 0 pre D) := by
      have := runD_append pre [x] 0 D
      rw [show (0 : Int) = ((0 : Nat) : Int) from rfl, this, Nat.zero_add]
      rfl
    have e2 : (((pre ++ [x]).length : Nat) : Int) = (pre.length : Int) + 1 := by simp
    rw [e1, e2] at hn
    simp only [runO] at hn ⊢
    rw [hE, mx_eq] at hn
    rw [hE, mx_eq]
    obtain ⟨n1, n2, n3⟩ := hn
    have hlen : pre.length < l.length := by rw [e]; simp
    refine ⟨by omega, fun j h1 h2 => ?_, ?_⟩
    · by_cases c : j = pre.length
      · subst c; omega
      · exact n2 j (by simp; omega) h2
    · rcases n3 with n3 | n3
      · by_cases c : o ≤ rd (runD 0 l D) (pre.length : Int)
        · exact .inr ⟨pre.length, hlen, by omega⟩
        · exact .inl (by omega)
      · exact .inr n3
theorem depth_is {l : List IN} (T : Tree l) : runO 0 l (List.replicate l.length 0) 0 = hgt l l.length 0 := by
  have hp := T.pos
  obtain ⟨h1, h2, h3⟩ := runO_is T (List.replicate l.length 0) (by simp) l [] 0 rfl
  obtain ⟨j, hj, hj2⟩ := end_deep T (List.replicate l.length 0) rfl l.length 0 (by omega) (by omega)
  have h4 := h2 j (by simp) hj
  have h5 := end_small T (List.replicate l.length 0) rfl 1 0 (by omega) (by omega)
  simp only [List.length_nil, Int.natCast_zero, runD] at h1 h2 h3 h4
  have e0 : rd (runD 0 l (List.replicate l.length 0)) ((0 : Nat) : Int) = 0 := by omega
  rcases h3 with h3 | ⟨i, hi, h3⟩
  · omega
  · have := end_root T (List.replicate l.length 0) rfl i hi
    omega
/-! the program's functions -/
theorem impl_kids_at (X : List IN) (i : Nat) (n : Int) (o r : Int) (rest : List Int) : ∀ (pre D : List Int), (pre ++ rest).length ≤ 4611686018427387904 → i < D.length → (∀ v ∈ rest, 0 ≤ v ∧ v < (D.length : Int)) →
    Ev (fun k => impl_DepthOfForce.l0 k (stepD i rest D) (mx o (rd (stepD i rest D) i)) X n (wrap64 ((i : Int) + 1))) r →
    Ev (fun k => impl_DepthOfForce.l1 k D o (i : Int) X n (i : Int) (pre ++ rest) ((pre ++ rest).length : Int) (pre.length : Int)) r := by
  induction rest with
  | nil =>
    intro pre D hb hi hv h
    refine Ev.step (fun k => ?_) h
    show impl_DepthOfForce.l1 (k + 1) _ _ _ _ _ _ _ _ _ = _
    rw [impl_DepthOfForce.l1, if_neg (mid_nlt _), if_pos (nn _), if_pos (by omega)]
    rfl
  | cons v rest ih =>
    intro pre D hb hi hv h
    have hv0 := hv v (by simp)
    have h2 := ih (pre ++ [v]) (D.set v.toNat (wrap64 (rd D i + 1))) (by simpa using hb) (by rw [List.length_set]; exact hi) (by intro w hw; rw [List.length_set]; exact hv w (by simp [hw])) h
    rw [← mid_cons, ← mid_succ pre v (by simp at hb; omega)] at h2
    refine Ev.step (fun k => ?_) h2
    show impl_DepthOfForce.l1 (k + 1) _ _ _ _ _ _ _ _ _ = _
    rw [impl_DepthOfForce.l1, if_pos (mid_lt _ _ _), if_pos (nn _), if_pos (mid_lt _ _ _), if_pos (nn _), if_pos (by omega), mid_rd, if_pos hv0.1, if_pos hv0.2]
theorem impl_depth_at {l : List IN} (T : Tree l) (hx : ∀ x ∈ l, x.f1.length ≤ 1048576) (rest : List IN) : ∀ (pre : List IN) (D : List Int) (o : Int), l = pre ++ rest → D.length = l.length →
    Ev (fun k => impl_DepthOfForce.l0 k D o l (l.length : Int) (pre.length : Int)) (runO (pre.length : Int) rest D o) := by
  induction rest with
  | nil =>
    intro pre D o e hD
    refine Ev.step (f := fun _ => some o) (fun k => ?_) (Ev.now _)
    show impl_DepthOfForce.l0 (k + 1) _ _ _ _ _ = _
    rw [impl_DepthOfForce.l0, if_neg (by rw [e]; simp)]
  | cons x rest ih =>
    intro pre D o e hD
    have hlt : (pre.length : Int) < (l.length : Int) := by rw [e]; exact mid_lt _ _ _
    have hle := T.le
    have h2 := ih (pre ++ [x]) (stepD (pre.length : Int) x.f1 D) (mx o (rd (stepD (pre.length : Int) x.f1 D) (pre.length : Int))) (by rw [e]; simp) (by rw [stepD_len]; exact hD)
    have e2 : (((pre ++ [x]).length : Nat) : Int) = wrap64 ((pre.length : Int) + 1) := (mid_succ pre x (by omega)).symm
    have e3 : wrap64 ((pre.length : Int) + 1) = (pre.length : Int) + 1 := w64_id (by omega) (by omega)
    rw [e2] at h2
    rw [show runO (wrap64 ((pre.length : Int) + 1)) rest (stepD (pre.length : Int) x.f1 D) (mx o (rd (stepD (pre.length : Int) x.f1 D) (pre.length : Int))) = runO (pre.length : Int) (x :: rest) D o by rw [e3]; rfl] at h2
    have hk := impl_kids_at l pre.length (l.length : Int) o _ x.f1 [] D (by have := hx x (by rw [e]; simp); simp; omega) (by omega) (fun v hv => by rw [hD]; exact tree_vs T x (by rw [e]; simp) v hv) h2
    refine Ev.step (fun k => ?_) hk
    show impl_DepthOfForce.l0 (k + 1) _ _ _ _ _ = _
    rw [impl_DepthOfForce.l0, if_pos hlt, if_pos (nn _), if_pos hlt]
    have e4 : rd_T67 l (pre.length : Int) = x := by rw [e]; exact mid_rdIN _ _ _
    rw [e4]
    rfl
theorem spec_depth_at {l : List IN} (T : Tree l) (hx : ∀ x ∈ l, x.f1.length ≤ 1048576) (f : Nat) (hf : f ≤ 40) (ih : ∀ i : Nat, i < l.length → l.length ≤ i + f → Ev (fun k => spec_l13Depth.f k l (i : Int)) (hgt l f i : Int)) (i : Nat) (hi : i < l.length) (hl : l.length ≤ i + (f + 1)) (rest : List Int) : ∀ (pre : List Int) (a : Nat), (pre ++ rest).length ≤ 4611686018427387904 → (∀ v ∈ rest, (i : Int) < v ∧ v < (l.length : Int)) → a ≤ 41 →
    Ev (fun k => spec_l13Depth.l0 k l (a : Int) (pre ++ rest) ((pre ++ rest).length : Int) (pre.length : Int)) (((rest.map fun v => 1 + hgt l f v.toNat).foldl max a : Nat) : Int) := by
  induction rest with
  | nil =>
    intro pre a hb hv ha
    refine Ev.step (f := fun _ => some (a : Int)) (fun k => ?_) (Ev.now _)
    show spec_l13Depth.l0 (k + 1) _ _ _ _ _ = _
    rw [spec_l13Depth.l0, if_neg (mid_nlt _)]
  | cons v rest ihr =>
    intro pre a hb hv ha
    have hv0 := hv v (by simp)
    obtain ⟨u, rfl⟩ := Int.eq_ofNat_of_zero_le (show 0 ≤ v by omega)
    have hg := hgt_le l f u
    have h2 := ihr (pre ++ [(u : Int)]) (max a (1 + hgt l f u)) (by simpa using hb) (fun w hw => hv w (by simp [hw])) (by omega)
    rw [← mid_cons, ← mid_succ pre (u : Int) (by simp at hb; omega)] at h2
    refine Ev.stepb (ih u (by omega) (by omega)) (fun k => by rw [spec_l13Depth.l0, if_pos (mid_lt _ _ _), if_pos (nn _), if_pos (mid_lt _ _ _), mid_rd]) ?_
    have e : mx (a : Int) (wrap64 (1 + (hgt l f u : Int))) = ((max a (1 + hgt l f u) : Nat) : Int) := by rw [mx_eq, w64_id (by omega) (by omega)]; omega
    simp only [e]
    exact h2
theorem spec_depth_ev {l : List IN} (T : Tree l) (hx : ∀ x ∈ l, x.f1.length ≤ 1048576) (f : Nat) : f ≤ 40 → ∀ i : Nat, i < l.length → l.length ≤ i + f → Ev (fun k => spec_l13Depth.f k l (i : Int)) (hgt l f i : Int) := by
  induction f with
  | zero => intro hf i h1 h2; omega
  | succ f ih =>
    intro hf i h1 h2
    have hn : nodeAt l (i : Int) ∈ l := nodeAt_mem l (i : Int) (by omega) (by omega)
    have h3 := spec_depth_at T hx f (by omega) (ih (by omega)) i h1 h2 (nodeAt l (i : Int)).f1 [] 0 (by have := hx _ hn; simp; omega) (fun v hv => kid_range T h1 hv) (by omega)
    refine Ev.step (fun k => ?_) h3
    show spec_l13Depth.f (k + 1) _ _ = _
    rw [spec_l13Depth.f, if_pos (nn _), if_pos (by omega)]
    rfl
theorem depth_both (l : List IN) (hx : ∀ x ∈ l, x.f1.length ≤ 1048576) : ∃ r : Int, Ev (fun k => spec_DepthOfForce.f k l) r ∧ Ev (fun k => impl_DepthOfForce.f k l) r := by
  have hl : ∀ x ∈ l, x.f1.length ≤ 4611686018427387904 := fun x h => by have := hx x h; omega
  have E1 := spec_Force_ev l hl
  have E2 := impl_Force_ev l hl
  unfold spec_DepthOfForce.f impl_DepthOfForce.f
  by_cases h : forceB l = true
  · have T := tree_of l hx h
    have hle := T.le
    have hpos := T.pos
    refine ⟨(hgt l l.length 0 : Int), Ev.bind E1 ?_, Ev.bind E2 ?_⟩
    · simp only [h, if_true]
      exact Ev.bind (spec_depth_ev T hx l.length hle 0 (by omega) (by omega)) (Ev.now _)
    · simp only [h, if_true, if_pos (nn l.length), Int.toNat_natCast, if_pos (show l.length ≤ 35184372088832 by omega)]
      have := impl_depth_at T hx l [] (List.replicate l.length 0) 0 rfl (by simp)
      rw [show runO (([] : List IN).length : Int) l (List.replicate l.length 0) 0 = (hgt l l.length 0 : Int) from depth_is T] at this
      exact this
  · refine ⟨-1, Ev.bind E1 ?_, Ev.bind E2 ?_⟩
    · simp only [h, if_false]
      exact Ev.now _
    · simp only [h, if_false]
      exact Ev.now _
end Go.Proofs.Ytclmicogljidkaa.F
