import Derived.Test.YtgldcbcefncjjaaZFnExactKnownIndexOf4
import Derived.Test.YtgldcbcefncjjaaZFnExactKnownIndexOf8
section
/- Laid by a program of this claim's own. What the Go function does, as a Lean function, and the proof that the Go code does just that; Lean checks it. -/
namespace Go.Proofs.Ytgldcbcefncjjaa.F
open Go.RowKit Go.Proofs.YtgldcbcefncjjaaW.PrintWords Go.Proofs.YtgldcbcefncjjaaW.PrintLast Go.Proofs.YtgldcbcefncjjaaW.PrintMore
attribute [local go_sem] max2_int min2_int max_two min_two max_three min_three max_four min_four   -- for this text's walks alone
set_option linter.unusedVariables false
set_option linter.unusedSimpArgs false
/-! ### impl_KnowOk: function 105 -/
mutual
def impl_KnowOk.j0 : Nat → List (List Int) → Bool → Option (Bool)
  | 0, _, _ => none
  | k + 1, x0, x19 => if x19 = true then (some false) else (impl_KnowOk.l0 k x0 x0 (x0.length : Int) 0)
def impl_KnowOk.l0 : Nat → List (List Int) → List (List Int) → Int → Int → Option (Bool)
  | 0, _, _, _, _ => none
  | k + 1, x0, x20, x21, x22 => if x22 < x21 then (if 0 ≤ x22 then (if x22 < (x20.length : Int) then (if 0 < (x0.length : Int) then ((impl_IsArrangement.f k (rd_L2 x0 0) (rd_L2 x20 x22)).bind fun t1084 => (if t1084 = true then (if x22 > 0 then (if 0 ≤ (wrap64 (x22 - 1)) then (if (wrap64 (x22 - 1)) < (x0.length : Int) then ((slices_Compare_Lint_int.f k (rd_L2 x0 (wrap64 (x22 - 1))) (rd_L2 x20 x22)).bind fun t1086 => (if t1086 ≥ 0 then (some false) else (impl_KnowOk.l0 k x0 x20 x21 (wrap64 (x22 + 1))))) else (none)) else (none)) else (impl_KnowOk.l0 k x0 x20 x21 (wrap64 (x22 + 1)))) else (some false))) else (none)) else (none)) else (none)) else (some true)
end
def impl_KnowOk.f (k : Nat) (l0 : List (List Int)) : Option (Bool) := if (l0.length : Int) < 1 then (impl_KnowOk.j0 k l0 true) else (if (l0.length : Int) > 3000 then (impl_KnowOk.j0 k l0 true) else (if 0 < (l0.length : Int) then (impl_KnowOk.j0 k l0 (((rd_L2 l0 0).length : Int) == 0)) else (none)))
set_option maxHeartbeats 8000000 in
set_option maxRecDepth 100000 in
theorem impl_KnowOk.calls (k : Nat) (A0 : Option Addr) (c0 : Nat) (l0 : List (List Int)) (r : Bool) (w : World) (hr0 : Kd.C (Kd.slice 3 (Kd.int .i64)) w A0 l0.length l0) (hc0 : l0.length ≤ c0) (h : impl_KnowOk.f k l0 = some r) :
    Calls Try.prog 105 #[.slice A0 l0.length c0] w fun e w' => e = .returned (.bool r) ∧ Below w.heap.size w w' := by
  have HR0 := Aside0.mk hr0
  have HC0 := Aside0.mk hc0
  clear hr0 hc0
  have HB := Aside0.mk (Below.refl w.heap.size w)
  have H : (if (l0.length : Int) < 1 then (impl_KnowOk.j0 k l0 true) else (if (l0.length : Int) > 3000 then (impl_KnowOk.j0 k l0 true) else (if 0 < (l0.length : Int) then (impl_KnowOk.j0 k l0 (((rd_L2 l0 0).length : Int) == 0)) else (none)))) = some r := h
  clear h
  have HC2 := Aside0.mk H
  clear H
  go_enter Try.func105, Try.ntmps105
  go_upto_region 1 with (fail)
  go_cut [19] (fun v19 wc => ∃ (kq : Nat) (x19_1 : Bool), v19 = .bool x19_1 ∧ Aside0 (impl_KnowOk.j0 kq l0 x19_1 = some r) ∧ Aside0 (kq ≤ k) ∧ Aside0 (Below w.heap.size w wc))
  case first =>
    have H := HC2.out
    clear HC2
    by_cases c3 : (l0.length : Int) < 1
    · rw [if_pos c3] at H
      have c3b0 : decide ((l0.length : Int) < 1) = true := decide_eq_true c3
      have c3b1 : decide (l0.length < 1) = true := decide_eq_true (by omega)
      clear c3
      (first | rw [c3b0] | (simp only [i64_w, i32_w]; rw [c3b0]) | skip)
      have H' := Aside0.mk H
      clear H
      go_wp2
      go_meet
      case rel => exact ⟨_, (true), (by first | rfl | (simp; done) | (simp [*]; done)), H', ⟨by first | omega | exact Nat.le_refl _⟩, ⟨by repeat (first | (with_reducible first | exact HB.out | apply below_alloc | apply pw_below_drewN | apply below_drew1) | exact HB.out)⟩⟩
    · rw [if_neg c3] at H
      have c3b0 : decide ((l0.length : Int) < 1) = false := decide_eq_false c3
      have c3b1 : decide (l0.length < 1) = false := decide_eq_false (by omega)
      clear c3
      (first | rw [c3b0] | (simp only [i64_w, i32_w]; rw [c3b0]) | skip)
      by_cases c4 : (l0.length : Int) > 3000
      · rw [if_pos c4] at H
        have c4b0 : decide (3000 < (l0.length : Int)) = true := decide_eq_true c4
        have c4b1 : decide (3000 < l0.length) = true := decide_eq_true (by omega)
        clear c4
        have H' := Aside0.mk H
        clear H
        go_wp2
        go_meet
        case rel => exact ⟨_, (true), (by first | rfl | (simp; done) | (simp [*]; done)), H', ⟨by first | omega | exact Nat.le_refl _⟩, ⟨by repeat (first | (with_reducible first | exact HB.out | apply below_alloc | apply pw_below_drewN | apply below_drew1) | exact HB.out)⟩⟩
      · rw [if_neg c4] at H
        have c4b0 : decide (3000 < (l0.length : Int)) = false := decide_eq_false c4
        have c4b1 : decide (3000 < l0.length) = false := decide_eq_false (by omega)
        clear c4
        by_cases c5 : 0 < (l0.length : Int)
        · rw [if_pos c5] at H
          have c5b0 : decide (0 < (l0.length : Int)) = true := decide_eq_true c5
          have c5b1 : decide (0 < l0.length) = true := decide_eq_true (by omega)
          clear c5
          have H' := Aside0.mk H
          clear H
          have p1081 : 0 ≤ (0 : Int) := (by omega)
          have q1081 : 0 < (l0.length : Int) := of_decide_eq_true (by first | (with_reducible assumption) | assumption)
          obtain ⟨ad1081, A1081_0, c1081_0, e1081, hx1081_0, hl1081_0, hi1081_0⟩ := at_L2 HR0.out 0 p1081 q1081
          cases e1081
          have qi1081 : (0 < l0.length) = True := eq_true (by omega)
          (try rw [show ((0 : Int)).toNat = 0 from rfl] at hx1081_0)
          (try rw [Addr.add_zero'] at hx1081_0)
          replace hx1081_0 := (HB.out.cell (World.block_lt_of_cell? w _ hx1081_0)).trans hx1081_0
          have HR1081_0 := Aside0.mk hi1081_0
          have HC1081_0 := Aside0.mk hl1081_0
          clear hi1081_0 hl1081_0
          replace p1081 := eq_true p1081
          replace q1081 := eq_true q1081
          go_wp2
          go_meet
          case rel => exact ⟨_, ((((rd_L2 l0 0).length : Int) == 0)), (by first | rfl | (simp; done) | (simp [*]; done)), H', ⟨by first | omega | exact Nat.le_refl _⟩, ⟨by repeat (first | (with_reducible first | exact HB.out | apply below_alloc | apply pw_below_drewN | apply below_drew1) | exact HB.out)⟩⟩
        · rw [if_neg c5] at H
          exact absurd H (by simp)
  case rest =>
    clear HC2
    try clear c1
    try clear p1
    try clear q1
    try clear hx1
    try clear qi1
    try clear p2
    try clear c3
    try clear c3b0
    try clear c3b1
    try clear c4
    try clear c4b0
    try clear c4b1
    try clear c5
    try clear c5b0
    try clear c5b1
    try clear hx1081_0
    try clear p1081
    try clear q1081
    obtain ⟨kq, x19_1, rfl, HA, HJ1, HB⟩ := hcut
    cases kq with
    | zero => exact absurd HA.out (by simp [impl_KnowOk.j0])
    | succ kj1 =>
      have H := HA.out
      clear HA
      simp only [impl_KnowOk.j0] at H
      by_cases c6 : x19_1 = true
      · subst c6
        have H1 : (some false) = some r := by rw [if_pos rfl] at H; exact H
        clear H
        have H := H1
        clear H1
        obtain rfl := Option.some.inj H
        go_wp2
        go_ret
        exact ⟨by first | rfl | (simp [errW_none, errW_some] <;> rfl) | (simp [*, errW_none, errW_some] <;> rfl), by repeat (first | (with_reducible first | exact HB.out | apply below_alloc | apply pw_below_drewN | apply below_drew1) | exact HB.out)⟩
      · replace c6 := Bool.eq_false_iff.mpr c6
        subst c6
        have H1 : (impl_KnowOk.l0 kj1 l0 l0 (l0.length : Int) 0) = some r := by rw [if_neg (show ¬ (false = true) by decide)] at H; exact H
        clear H
        have H := H1
        clear H1
        have H' := Aside0.mk H
        clear H
        go_wp2
        go_loopg [22] kj1 (fun kq v22 w' => ∃ (x22_2 : Int), v22 = .int .i64 x22_2 ∧ Aside0 (impl_KnowOk.l0 kq l0 l0 (l0.length : Int) x22_2 = some r) ∧ Aside0 (kq ≤ kj1) ∧ Aside0 (Below w.heap.size w w'))
        case atStart => exact ⟨(0), (by first | rfl | (simp; done) | (simp [*]; done)), H', ⟨Nat.le_refl _⟩, ⟨by repeat (first | (with_reducible first | exact HB.out | apply below_alloc | apply pw_below_drewN | apply below_drew1) | exact HB.out)⟩⟩
        case round =>
          clear H'
          try clear c1
          try clear p1
          try clear q1
          try clear hx1
          try clear qi1
          try clear p2
          try clear c3
          try clear c3b0
          try clear c3b1
          try clear c4
          try clear c4b0
          try clear c4b1
          try clear c5
          try clear c5b0
          try clear c5b1
          try clear c6
          try clear hx1081_0
          try clear p1
          try clear p1081
          try clear p2
          try clear q1
          try clear q1081
          obtain ⟨x22_2, rfl, HA, HK2, HB⟩ := hrel
          cases gk with
          | zero => exact absurd HA.out (by simp [impl_KnowOk.l0])
          | succ k2 =>
            have H := HA.out
            clear HA
            simp only [impl_KnowOk.l0] at H
            by_cases c7 : x22_2 < (l0.length : Int)
            · rw [if_pos c7] at H
              have c7b0 : decide (x22_2 < (l0.length : Int)) = true := decide_eq_true c7
              clear c7
              by_cases c8 : 0 ≤ x22_2
              · rw [if_pos c8] at H
                have c8b0 : decide (0 ≤ x22_2) = true := decide_eq_true c8
                clear c8
                by_cases c9 : x22_2 < (l0.length : Int)
                · rw [if_pos c9] at H
                  have c9b0 : decide (x22_2 < (l0.length : Int)) = true := decide_eq_true c9
                  clear c9
                  by_cases c10 : 0 < (l0.length : Int)
                  · rw [if_pos c10] at H
                    have c10b0 : decide (0 < (l0.length : Int)) = true := decide_eq_true c10
                    have c10b1 : decide (0 < l0.length) = true := decide_eq_true (by omega)
                    clear c10
                    replace H := Option.bind_eq_some_iff.mp H
                    obtain ⟨t1084, A110, H⟩ := H
                    replace H : (if t1084 = true then (if x22_2 > 0 then (if 0 ≤ (wrap64 (x22_2 - 1)) then (if (wrap64 (x22_2 - 1)) < (l0.length : Int) then ((slices_Compare_Lint_int.f k2 (rd_L2 l0 (wrap64 (x22_2 - 1))) (rd_L2 l0 x22_2)).bind fun t1086 => (if t1086 ≥ 0 then (some false) else (impl_KnowOk.l0 k2 l0 l0 (l0.length : Int) (wrap64 (x22_2 + 1))))) else (none)) else (none)) else (impl_KnowOk.l0 k2 l0 l0 (l0.length : Int) (wrap64 (x22_2 + 1)))) else (some false)) = some r := H
                    have A11 := Aside0.mk A110
                    clear A110
                    by_cases c12 : t1084 = true
                    · subst c12
                      have H1 : (if x22_2 > 0 then (if 0 ≤ (wrap64 (x22_2 - 1)) then (if (wrap64 (x22_2 - 1)) < (l0.length : Int) then ((slices_Compare_Lint_int.f k2 (rd_L2 l0 (wrap64 (x22_2 - 1))) (rd_L2 l0 x22_2)).bind fun t1086 => (if t1086 ≥ 0 then (some false) else (impl_KnowOk.l0 k2 l0 l0 (l0.length : Int) (wrap64 (x22_2 + 1))))) else (none)) else (none)) else (impl_KnowOk.l0 k2 l0 l0 (l0.length : Int) (wrap64 (x22_2 + 1)))) = some r := by rw [if_pos rfl] at H; exact H
                      clear H
                      have H := H1
                      clear H1
                      by_cases c13 : x22_2 > 0
                      · rw [if_pos c13] at H
                        have c13b0 : decide (0 < x22_2) = true := decide_eq_true c13
                        clear c13
                        obtain ⟨ji14, hji14⟩ : ∃ j_ : Int, (wrap64 (x22_2 - 1)) = j_ := ⟨_, rfl⟩
                        replace H : (if 0 ≤ (ji14) then (if (ji14) < (l0.length : Int) then ((slices_Compare_Lint_int.f k2 (rd_L2 l0 (ji14)) (rd_L2 l0 x22_2)).bind fun t1086 => (if t1086 ≥ 0 then (some false) else (impl_KnowOk.l0 k2 l0 l0 (l0.length : Int) (wrap64 (x22_2 + 1))))) else (none)) else (none)) = some r := by first | (rw [hji14] at H; exact H) | (simp only [hji14] at H ⊢; exact H)
                        (try rw [hji14] at A11)
                        have hji14w : (IntKind.i64.wrap (x22_2 - 1)) = ji14 := (i64_w _).trans hji14
                        by_cases c15 : 0 ≤ (ji14)
                        · rw [if_pos c15] at H
                          have c15b0 : decide (0 ≤ (ji14)) = true := decide_eq_true c15
                          clear c15
                          by_cases c16 : (ji14) < (l0.length : Int)
                          · rw [if_pos c16] at H
                            have c16b0 : decide ((ji14) < (l0.length : Int)) = true := decide_eq_true c16
                            clear c16
                            replace H := Option.bind_eq_some_iff.mp H
                            obtain ⟨t1086, A170, H⟩ := H
                            replace H : (if t1086 ≥ 0 then (some false) else (impl_KnowOk.l0 k2 l0 l0 (l0.length : Int) (wrap64 (x22_2 + 1)))) = some r := H
                            have A17 := Aside0.mk A170
                            clear A170
                            by_cases c18 : t1086 ≥ 0
                            · rw [if_pos c18] at H
                              have c18b0 : decide (0 ≤ t1086) = true := decide_eq_true c18
                              clear c18
                              obtain rfl := Option.some.inj H
                              have p1082 : 0 ≤ (x22_2 : Int) := of_decide_eq_true (by first | (with_reducible assumption) | assumption)
                              have q1082 : x22_2 < (l0.length : Int) := of_decide_eq_true (by first | (with_reducible assumption) | assumption)
                              obtain ⟨ad1082, A1082_0, c1082_0, e1082, hx1082_0, hl1082_0, hi1082_0⟩ := at_L2 HR0.out x22_2 p1082 q1082
                              cases e1082
                              replace hx1082_0 := (HB.out.cell (World.block_lt_of_cell? w _ hx1082_0)).trans hx1082_0
                              have HR1082_0 := Aside0.mk hi1082_0
                              have HC1082_0 := Aside0.mk hl1082_0
                              clear hi1082_0 hl1082_0
                              replace p1082 := eq_true p1082
                              replace q1082 := eq_true q1082
                              have p1083 : 0 ≤ (0 : Int) := (by omega)
                              have q1083 : 0 < (l0.length : Int) := of_decide_eq_true (by first | (with_reducible assumption) | assumption)
                              obtain ⟨ad1083, A1083_0, c1083_0, e1083, hx1083_0, hl1083_0, hi1083_0⟩ := at_L2 HR0.out 0 p1083 q1083
                              obtain rfl : ad1082 = ad1083 := (by injection e1083)
                              have qi1083 : (0 < l0.length) = True := eq_true (by omega)
                              (try rw [show ((0 : Int)).toNat = 0 from rfl] at hx1083_0)
                              (try rw [Addr.add_zero'] at hx1083_0)
                              replace hx1083_0 := (HB.out.cell (World.block_lt_of_cell? w _ hx1083_0)).trans hx1083_0
                              have HR1083_0 := Aside0.mk hi1083_0
                              have HC1083_0 := Aside0.mk hl1083_0
                              clear hi1083_0 hl1083_0
                              replace p1083 := eq_true p1083
                              replace q1083 := eq_true q1083
                              go_wp2_with (first | ((with_reducible refine gate_callee (f := 122) rfl ?_); refine goesL_ (some 31) rfl rfl Try.func122 (by kernel_rfl) rfl #[.slice A1083_0 (rd_L2 l0 0).length c1083_0, .slice A1082_0 (rd_L2 l0 x22_2).length c1082_0] rfl (by (try simp only [List.map_toArray, List.map_cons, List.map_nil]); first | done | rfl | (simp only [List.length_drop, List.length_take]; rfl)) ?_; (with_reducible refine (impl_IsArrangement.calls k2 _ _ (rd_L2 l0 0) _ _ (rd_L2 l0 x22_2) true _ ?side1 ?side2 ?side3 ?side4 A11.out).mono ?_); (case side1 => repeat (first | exact (Kd.C_below HR1083_0.out HB.out) | (with_reducible refine Kd.C_alloc ?_ _) | (with_reducible refine Kd.C_drewN ?_ _) | (with_reducible refine Kd.C_drew ?_))); (case side2 => exact HC1083_0.out); (case side3 => repeat (first | exact (Kd.C_below HR1082_0.out HB.out) | (with_reducible refine Kd.C_alloc ?_ _) | (with_reducible refine Kd.C_drewN ?_ _) | (with_reducible refine Kd.C_drew ?_))); (case side4 => exact HC1082_0.out); rintro e w19 ⟨rfl, hb⟩; refine ⟨_, rfl, ?_⟩; have n0_ := Aside0.mk (below_step (by repeat (first | (with_reducible first | exact HB.out | apply below_alloc | apply pw_below_drewN | apply below_drew1) | exact HB.out)) hb); clear HB; have HB := n0_; clear n0_; (try clear hb); (try clear hb2); (try clear hk); (try clear hi); have p1085 : 0 ≤ ((ji14) : Int) := of_decide_eq_true (by first | (with_reducible assumption) | assumption); have q1085 : (ji14) < (l0.length : Int) := of_decide_eq_true (by first | (with_reducible assumption) | assumption); obtain ⟨ad1085, A1085_0, c1085_0, e1085, hx1085_0, hl1085_0, hi1085_0⟩ := at_L2 HR0.out (ji14) p1085 q1085; obtain rfl : ad1082 = ad1085 := (by injection e1085); replace hx1085_0 := (HB.out.cell (World.block_lt_of_cell? w _ hx1085_0)).trans hx1085_0; have HR1085_0 := Aside0.mk hi1085_0; have HC1085_0 := Aside0.mk hl1085_0; clear hi1085_0 hl1085_0; replace p1085 := eq_true p1085; replace q1085 := eq_true q1085) | (go_at_call 123; (with_reducible refine (slices_Compare_Lint_int.calls k2 _ _ (rd_L2 l0 (ji14)) _ _ (rd_L2 l0 x22_2) t1086 _ ?side1 ?side2 ?side3 ?side4 A17.out).mono ?_); (case side1 => repeat (first | exact (Kd.C_below HR1085_0.out HB.out) | (with_reducible refine Kd.C_alloc ?_ _) | (with_reducible refine Kd.C_drewN ?_ _) | (with_reducible refine Kd.C_drew ?_))); (case side2 => exact HC1085_0.out); (case side3 => repeat (first | exact (Kd.C_below HR1082_0.out HB.out) | (with_reducible refine Kd.C_alloc ?_ _) | (with_reducible refine Kd.C_drewN ?_ _) | (with_reducible refine Kd.C_drew ?_))); (case side4 => exact HC1082_0.out); rintro e w' ⟨rfl, ⟨nd, rfl⟩⟩))
                              go_ret
                              exact ⟨by first | rfl | (simp [errW_none, errW_some] <;> rfl) | (simp only [← hji14]; first | rfl | (simp [errW_none, errW_some] <;> rfl)) | (simp [*, errW_none, errW_some] <;> rfl), by repeat (first | (with_reducible first | exact HB.out | apply below_alloc | apply pw_below_drewN | apply below_drew1) | exact HB.out)⟩
                            · rw [if_neg c18] at H
                              have c18b0 : decide (0 ≤ t1086) = false := decide_eq_false c18
                              clear c18
                              have H' := Aside0.mk H
                              clear H
                              have p1082 : 0 ≤ (x22_2 : Int) := of_decide_eq_true (by first | (with_reducible assumption) | assumption)
                              have q1082 : x22_2 < (l0.length : Int) := of_decide_eq_true (by first | (with_reducible assumption) | assumption)
                              obtain ⟨ad1082, A1082_0, c1082_0, e1082, hx1082_0, hl1082_0, hi1082_0⟩ := at_L2 HR0.out x22_2 p1082 q1082
                              cases e1082
                              replace hx1082_0 := (HB.out.cell (World.block_lt_of_cell? w _ hx1082_0)).trans hx1082_0
                              have HR1082_0 := Aside0.mk hi1082_0
                              have HC1082_0 := Aside0.mk hl1082_0
                              clear hi1082_0 hl1082_0
                              replace p1082 := eq_true p1082
                              replace q1082 := eq_true q1082
                              have p1083 : 0 ≤ (0 : Int) := (by omega)
                              have q1083 : 0 < (l0.length : Int) := of_decide_eq_true (by first | (with_reducible assumption) | assumption)
                              obtain ⟨ad1083, A1083_0, c1083_0, e1083, hx1083_0, hl1083_0, hi1083_0⟩ := at_L2 HR0.out 0 p1083 q1083
                              obtain rfl : ad1082 = ad1083 := (by injection e1083)
                              have qi1083 : (0 < l0.length) = True := eq_true (by omega)
                              (try rw [show ((0 : Int)).toNat = 0 from rfl] at hx1083_0)
                              (try rw [Addr.add_zero'] at hx1083_0)
                              replace hx1083_0 := (HB.out.cell (World.block_lt_of_cell? w _ hx1083_0)).trans hx1083_0
                              have HR1083_0 := Aside0.mk hi1083_0
                              have HC1083_0 := Aside0.mk hl1083_0
                              clear hi1083_0 hl1083_0
                              replace p1083 := eq_true p1083
                              replace q1083 := eq_true q1083
                              go_wp2_with (first | ((with_reducible refine gate_callee (f := 122) rfl ?_); refine goesL_ (some 31) rfl rfl Try.func122 (by kernel_rfl) rfl #[.slice A1083_0 (rd_L2 l0 0).length c1083_0, .slice A1082_0 (rd_L2 l0 x22_2).length c1082_0] rfl (by (try simp only [List.map_toArray, List.map_cons, List.map_nil]); first | done | rfl | (simp only [List.length_drop, List.length_take]; rfl)) ?_; (with_reducible refine (impl_IsArrangement.calls k2 _ _ (rd_L2 l0 0) _ _ (rd_L2 l0 x22_2) true _ ?side1 ?side2 ?side3 ?side4 A11.out).mono ?_); (case side1 => repeat (first | exact (Kd.C_below HR1083_0.out HB.out) | (with_reducible refine Kd.C_alloc ?_ _) | (with_reducible refine Kd.C_drewN ?_ _) | (with_reducible refine Kd.C_drew ?_))); (case side2 => exact HC1083_0.out); (case side3 => repeat (first | exact (Kd.C_below HR1082_0.out HB.out) | (with_reducible refine Kd.C_alloc ?_ _) | (with_reducible refine Kd.C_drewN ?_ _) | (with_reducible refine Kd.C_drew ?_))); (case side4 => exact HC1082_0.out); rintro e w20 ⟨rfl, hb⟩; refine ⟨_, rfl, ?_⟩; have n0_ := Aside0.mk (below_step (by repeat (first | (with_reducible first | exact HB.out | apply below_alloc | apply pw_below_drewN | apply below_drew1) | exact HB.out)) hb); clear HB; have HB := n0_; clear n0_; (try clear hb); (try clear hb2); (try clear hk); (try clear hi); have p1085 : 0 ≤ ((ji14) : Int) := of_decide_eq_true (by first | (with_reducible assumption) | assumption); have q1085 : (ji14) < (l0.length : Int) := of_decide_eq_true (by first | (with_reducible assumption) | assumption); obtain ⟨ad1085, A1085_0, c1085_0, e1085, hx1085_0, hl1085_0, hi1085_0⟩ := at_L2 HR0.out (ji14) p1085 q1085; obtain rfl : ad1082 = ad1085 := (by injection e1085); replace hx1085_0 := (HB.out.cell (World.block_lt_of_cell? w _ hx1085_0)).trans hx1085_0; have HR1085_0 := Aside0.mk hi1085_0; have HC1085_0 := Aside0.mk hl1085_0; clear hi1085_0 hl1085_0; replace p1085 := eq_true p1085; replace q1085 := eq_true q1085) | (go_at_call 123; (with_reducible refine (slices_Compare_Lint_int.calls k2 _ _ (rd_L2 l0 (ji14)) _ _ (rd_L2 l0 x22_2) t1086 _ ?side1 ?side2 ?side3 ?side4 A17.out).mono ?_); (case side1 => repeat (first | exact (Kd.C_below HR1085_0.out HB.out) | (with_reducible refine Kd.C_alloc ?_ _) | (with_reducible refine Kd.C_drewN ?_ _) | (with_reducible refine Kd.C_drew ?_))); (case side2 => exact HC1085_0.out); (case side3 => repeat (first | exact (Kd.C_below HR1082_0.out HB.out) | (with_reducible refine Kd.C_alloc ?_ _) | (with_reducible refine Kd.C_drewN ?_ _) | (with_reducible refine Kd.C_drew ?_))); (case side4 => exact HC1082_0.out); rintro e w' ⟨rfl, ⟨nd, rfl⟩⟩))
                              go_roundg k2
                              case measure => have := HJ1.out; have := HK2.out; omega
                              case rel => exact ⟨(wrap64 (x22_2 + 1)), (by first | rfl | (simp; done) | (simp [*]; done)), H', ⟨by have := HJ1.out; have := HK2.out; omega⟩, ⟨by repeat (first | (with_reducible first | exact HB.out | apply below_alloc | apply pw_below_drewN | apply below_drew1) | exact HB.out)⟩⟩
                          · rw [if_neg c16] at H
                            exact absurd H (by simp)
                        · rw [if_neg c15] at H
                          exact absurd H (by simp)
                      · rw [if_neg c13] at H
                        have c13b0 : decide (0 < x22_2) = false := decide_eq_false c13
                        clear c13
                        have H' := Aside0.mk H
                        clear H
                        have p1082 : 0 ≤ (x22_2 : Int) := of_decide_eq_true (by first | (with_reducible assumption) | assumption)
                        have q1082 : x22_2 < (l0.length : Int) := of_decide_eq_true (by first | (with_reducible assumption) | assumption)
                        obtain ⟨ad1082, A1082_0, c1082_0, e1082, hx1082_0, hl1082_0, hi1082_0⟩ := at_L2 HR0.out x22_2 p1082 q1082
                        cases e1082
                        replace hx1082_0 := (HB.out.cell (World.block_lt_of_cell? w _ hx1082_0)).trans hx1082_0
                        have HR1082_0 := Aside0.mk hi1082_0
                        have HC1082_0 := Aside0.mk hl1082_0
                        clear hi1082_0 hl1082_0
                        replace p1082 := eq_true p1082
                        replace q1082 := eq_true q1082
                        have p1083 : 0 ≤ (0 : Int) := (by omega)
                        have q1083 : 0 < (l0.length : Int) := of_decide_eq_true (by first | (with_reducible assumption) | assumption)
                        obtain ⟨ad1083, A1083_0, c1083_0, e1083, hx1083_0, hl1083_0, hi1083_0⟩ := at_L2 HR0.out 0 p1083 q1083
                        obtain rfl : ad1082 = ad1083 := (by injection e1083)
                        have qi1083 : (0 < l0.length) = True := eq_true (by omega)
                        (try rw [show ((0 : Int)).toNat = 0 from rfl] at hx1083_0)
                        (try rw [Addr.add_zero'] at hx1083_0)
                        replace hx1083_0 := (HB.out.cell (World.block_lt_of_cell? w _ hx1083_0)).trans hx1083_0
                        have HR1083_0 := Aside0.mk hi1083_0
                        have HC1083_0 := Aside0.mk hl1083_0
                        clear hi1083_0 hl1083_0
                        replace p1083 := eq_true p1083
                        replace q1083 := eq_true q1083
                        go_wp2_with (first | ((with_reducible refine gate_callee (f := 122) rfl ?_); refine goesL_ (some 31) rfl rfl Try.func122 (by kernel_rfl) rfl #[.slice A1083_0 (rd_L2 l0 0).length c1083_0, .slice A1082_0 (rd_L2 l0 x22_2).length c1082_0] rfl (by (try simp only [List.map_toArray, List.map_cons, List.map_nil]); first | done | rfl | (simp only [List.length_drop, List.length_take]; rfl)) ?_; (with_reducible refine (impl_IsArrangement.calls k2 _ _ (rd_L2 l0 0) _ _ (rd_L2 l0 x22_2) true _ ?side1 ?side2 ?side3 ?side4 A11.out).mono ?_); (case side1 => repeat (first | exact (Kd.C_below HR1083_0.out HB.out) | (with_reducible refine Kd.C_alloc ?_ _) | (with_reducible refine Kd.C_drewN ?_ _) | (with_reducible refine Kd.C_drew ?_))); (case side2 => exact HC1083_0.out); (case side3 => repeat (first | exact (Kd.C_below HR1082_0.out HB.out) | (with_reducible refine Kd.C_alloc ?_ _) | (with_reducible refine Kd.C_drewN ?_ _) | (with_reducible refine Kd.C_drew ?_))); (case side4 => exact HC1082_0.out); rintro e w21 ⟨rfl, hb⟩; refine ⟨_, rfl, ?_⟩; have n0_ := Aside0.mk (below_step (by repeat (first | (with_reducible first | exact HB.out | apply below_alloc | apply pw_below_drewN | apply below_drew1) | exact HB.out)) hb); clear HB; have HB := n0_; clear n0_; (try clear hb); (try clear hb2); (try clear hk); (try clear hi)))
                        go_roundg k2
                        case measure => have := HJ1.out; have := HK2.out; omega
                        case rel => exact ⟨(wrap64 (x22_2 + 1)), (by first | rfl | (simp; done) | (simp [*]; done)), H', ⟨by have := HJ1.out; have := HK2.out; omega⟩, ⟨by repeat (first | (with_reducible first | exact HB.out | apply below_alloc | apply pw_below_drewN | apply below_drew1) | exact HB.out)⟩⟩
                    · replace c12 := Bool.eq_false_iff.mpr c12
                      subst c12
                      have H1 : (some false) = some r := by rw [if_neg (show ¬ (false = true) by decide)] at H; exact H
                      clear H
                      have H := H1
                      clear H1
                      obtain rfl := Option.some.inj H
                      have p1082 : 0 ≤ (x22_2 : Int) := of_decide_eq_true (by first | (with_reducible assumption) | assumption)
                      have q1082 : x22_2 < (l0.length : Int) := of_decide_eq_true (by first | (with_reducible assumption) | assumption)
                      obtain ⟨ad1082, A1082_0, c1082_0, e1082, hx1082_0, hl1082_0, hi1082_0⟩ := at_L2 HR0.out x22_2 p1082 q1082
                      cases e1082
                      replace hx1082_0 := (HB.out.cell (World.block_lt_of_cell? w _ hx1082_0)).trans hx1082_0
                      have HR1082_0 := Aside0.mk hi1082_0
                      have HC1082_0 := Aside0.mk hl1082_0
                      clear hi1082_0 hl1082_0
                      replace p1082 := eq_true p1082
                      replace q1082 := eq_true q1082
                      have p1083 : 0 ≤ (0 : Int) := (by omega)
                      have q1083 : 0 < (l0.length : Int) := of_decide_eq_true (by first | (with_reducible assumption) | assumption)
                      obtain ⟨ad1083, A1083_0, c1083_0, e1083, hx1083_0, hl1083_0, hi1083_0⟩ := at_L2 HR0.out 0 p1083 q1083
                      obtain rfl : ad1082 = ad1083 := (by injection e1083)
                      have qi1083 : (0 < l0.length) = True := eq_true (by omega)
                      (try rw [show ((0 : Int)).toNat = 0 from rfl] at hx1083_0)
                      (try rw [Addr.add_zero'] at hx1083_0)
                      replace hx1083_0 := (HB.out.cell (World.block_lt_of_cell? w _ hx1083_0)).trans hx1083_0
                      have HR1083_0 := Aside0.mk hi1083_0
                      have HC1083_0 := Aside0.mk hl1083_0
                      clear hi1083_0 hl1083_0
                      replace p1083 := eq_true p1083
                      replace q1083 := eq_true q1083
                      go_wp2_with (first | ((with_reducible refine gate_callee (f := 122) rfl ?_); refine goesL_ (some 31) rfl rfl Try.func122 (by kernel_rfl) rfl #[.slice A1083_0 (rd_L2 l0 0).length c1083_0, .slice A1082_0 (rd_L2 l0 x22_2).length c1082_0] rfl (by (try simp only [List.map_toArray, List.map_cons, List.map_nil]); first | done | rfl | (simp only [List.length_drop, List.length_take]; rfl)) ?_; (with_reducible refine (impl_IsArrangement.calls k2 _ _ (rd_L2 l0 0) _ _ (rd_L2 l0 x22_2) false _ ?side1 ?side2 ?side3 ?side4 A11.out).mono ?_); (case side1 => repeat (first | exact (Kd.C_below HR1083_0.out HB.out) | (with_reducible refine Kd.C_alloc ?_ _) | (with_reducible refine Kd.C_drewN ?_ _) | (with_reducible refine Kd.C_drew ?_))); (case side2 => exact HC1083_0.out); (case side3 => repeat (first | exact (Kd.C_below HR1082_0.out HB.out) | (with_reducible refine Kd.C_alloc ?_ _) | (with_reducible refine Kd.C_drewN ?_ _) | (with_reducible refine Kd.C_drew ?_))); (case side4 => exact HC1082_0.out); rintro e w22 ⟨rfl, hb⟩; refine ⟨_, rfl, ?_⟩; have n0_ := Aside0.mk (below_step (by repeat (first | (with_reducible first | exact HB.out | apply below_alloc | apply pw_below_drewN | apply below_drew1) | exact HB.out)) hb); clear HB; have HB := n0_; clear n0_; (try clear hb); (try clear hb2); (try clear hk); (try clear hi)))
                      go_ret
                      exact ⟨by first | rfl | (simp [errW_none, errW_some] <;> rfl) | (simp [*, errW_none, errW_some] <;> rfl), by repeat (first | (with_reducible first | exact HB.out | apply below_alloc | apply pw_below_drewN | apply below_drew1) | exact HB.out)⟩
                  · rw [if_neg c10] at H
                    exact absurd H (by simp)
                · rw [if_neg c9] at H
                  exact absurd H (by simp)
              · rw [if_neg c8] at H
                exact absurd H (by simp)
            · rw [if_neg c7] at H
              have c7b0 : decide (x22_2 < (l0.length : Int)) = false := decide_eq_false c7
              clear c7
              obtain rfl := Option.some.inj H
              go_wp2
              go_ret
              exact ⟨by first | rfl | (simp [errW_none, errW_some] <;> rfl) | (simp [*, errW_none, errW_some] <;> rfl), by repeat (first | (with_reducible first | exact HB.out | apply below_alloc | apply pw_below_drewN | apply below_drew1) | exact HB.out)⟩
end Go.Proofs.Ytgldcbcefncjjaa.F
end
section
/- Laid by a program of this claim's own. What the Go function does, as a Lean function, and the proof that the Go code does just that; Lean checks it. -/
namespace Go.Proofs.Ytgldcbcefncjjaa.F
open Go.RowKit Go.Proofs.YtgldcbcefncjjaaW.PrintWords Go.Proofs.YtgldcbcefncjjaaW.PrintLast Go.Proofs.YtgldcbcefncjjaaW.PrintMore
attribute [local go_sem] max2_int min2_int max_two min_two max_three min_three max_four min_four   -- for this text's walks alone
set_option linter.unusedVariables false
set_option linter.unusedSimpArgs false
/-! ### impl_common: function 89 -/
/-- What f gives of all, if it is the same; -1 otherwise. -/
def commonV (p : List Int → Int) (l : List (List Int)) : Int := if l.all (fun x => p x == p (l.getD 0 [])) then p (l.getD 0 []) else -1
theorem common_drop_nil (p : List Int → Int) (c : Int) (l : List (List Int)) (j : Nat) (h : ¬ j < l.length) : (if (l.drop j).all (fun x => p x == c) then c else -1) = c := by
  rw [List.drop_eq_nil_of_le (by omega)]; rfl
theorem common_drop_no (p : List Int → Int) (c : Int) (l : List (List Int)) (j : Nat) (h : j < l.length) (hp : p (l.getD j []) ≠ c) : (if (l.drop j).all (fun x => p x == c) then c else -1) = -1 := by
  rw [List.drop_eq_getElem_cons h]
  rw [List.getD_eq_getElem?_getD, List.getElem?_eq_getElem h] at hp
  have hp' : (p l[j] == c) = false := beq_eq_false_iff_ne.mpr hp
  rw [List.all_cons, hp', Bool.false_and]; rfl
theorem common_drop_yes (p : List Int → Int) (c : Int) (l : List (List Int)) (j : Nat) (h : j < l.length) (hp : p (l.getD j []) = c) : (if (l.drop j).all (fun x => p x == c) then c else -1) = (if (l.drop (j + 1)).all (fun x => p x == c) then c else -1) := by
  rw [List.drop_eq_getElem_cons h]
  rw [List.getD_eq_getElem?_getD, List.getElem?_eq_getElem h] at hp
  have hp' : (p l[j] == c) = true := beq_iff_eq.mpr hp
  rw [List.all_cons, hp', Bool.true_and]
set_option maxHeartbeats 8000000 in
set_option maxRecDepth 100000 in
theorem impl_common.predB_no (k : Nat) (fv : Value) (A0 : Option Addr) (c0 : Nat) (l0 : List (List Int)) (w : World) (hr0 : Kd.C (Kd.slice 3 (Kd.int .i64)) w A0 l0.length l0) (hc0 : l0.length ≤ c0) (hk : impl_KnowOk.f k l0 = some false) :
    Calls Try.prog 89 #[.slice A0 l0.length c0, fv] w fun e w' => e = .returned (.int .i64 (-1)) ∧ Below w.heap.size w w' := by
  have HR0 := Aside0.mk hr0
  have HC0 := Aside0.mk hc0
  have HK := Aside0.mk hk
  clear hr0 hc0 hk
  go_enter Try.func89, Try.ntmps89
  go_wp2_with (go_at_call 105; (with_reducible refine (impl_KnowOk.calls k A0 c0 l0 false _ HR0.out HC0.out HK.out).mono ?_); rintro e w1 ⟨rfl, hb⟩; have HB := Aside0.mk hb; clear hb)
  go_ret
  exact ⟨rfl, HB.out⟩
set_option maxHeartbeats 8000000 in
set_option maxRecDepth 100000 in
/-- The function handed over may make memory; it is asked of each list that stands in the row. -/
theorem impl_common.predB (k : Nat) (p : List Int → Int) (g : Nat) (lb : Array Value) (eg : ∀ args w, (callFunc g args).run Try.prog w = .ok (.enter g args) w) (A0 : Option Addr) (c0 : Nat) (l0 : List (List Int)) (w : World) (hr0 : Kd.C (Kd.slice 3 (Kd.int .i64)) w A0 l0.length l0) (hc0 : l0.length ≤ c0) (hk : impl_KnowOk.f k l0 = some true) (hpos : 0 < l0.length)
    (hp : ∀ (W : World) (x : List Int) (A : Option Addr) (c : Nat), Below w.heap.size w W → x ∈ l0 → Kd.C (Kd.int .i64) W A x.length x → x.length ≤ c → Calls Try.prog g (#[.slice A x.length c] ++ lb) W fun e w' => e = .returned (.int .i64 (p x)) ∧ Below W.heap.size W w') :
    Calls Try.prog 89 #[.slice A0 l0.length c0, .func (.func g) #[] lb] w fun e w' => e = .returned (.int .i64 (commonV p l0)) ∧ Below w.heap.size w w' := by
  have HR0 := Aside0.mk hr0
  have HC0 := Aside0.mk hc0
  have HP := Aside0.mk hp
  have HK := Aside0.mk hk
  have hbig := hr0.2.1
  have HPOS := Aside0.mk hpos
  clear hr0 hc0 hp hk
  obtain ⟨R, hR⟩ : ∃ R : Int, R = commonV p l0 := ⟨_, rfl⟩
  obtain ⟨c, hc⟩ : ∃ c : Int, c = p (l0.getD 0 []) := ⟨_, rfl⟩
  rw [← hR]
  have HR := Aside0.mk (show (if (l0.drop 0).all (fun x => p x == c) then c else -1) = R by rw [hR, hc]; rfl)
  have HCV := Aside0.mk hc
  clear hR hc
  have hz : (0 : Int) < (l0.length : Int) := by omega
  obtain ⟨ad, A1, c1, ead, hx0, hle, hC1⟩ := at_slice HR0.out 0 (by omega) hz
  cases ead
  have hmem0 : l0.getD 0 [] ∈ l0 := by rw [List.getD_eq_getElem?_getD, List.getElem?_eq_getElem hpos]; exact List.getElem_mem hpos
  have hx0' : w.cell? (ad.add 0) = some (.slice A1 (l0.getD 0 []).length c1) := hx0
  have hC1' : (Kd.int .i64).C w A1 (l0.getD 0 []).length (l0.getD 0 []) := hC1
  have hle' : (l0.getD 0 []).length ≤ c1 := hle
  obtain ⟨y0, hy0⟩ : ∃ y0, y0 = l0.getD 0 [] := ⟨_, rfl⟩
  rw [← hy0] at hx0' hle' hC1' hmem0
  have HY0 := Aside0.mk hy0
  have HX0 := Aside0.mk hx0'
  have HL0 := Aside0.mk hle'
  have HC1 := Aside0.mk hC1'
  have HM0 := Aside0.mk hmem0
  clear hx0 hx0' hle hC1 hmem0 hle' hC1' hy0
  have hzt : decide ((0 : Int) < (l0.length : Int)) = true := decide_eq_true hz
  have hz2 := eq_true hz
  clear hz
  go_enter Try.func89, Try.ntmps89
  go_wp2_with (first
    | (go_at_call 105; (with_reducible refine (impl_KnowOk.calls k (some ad) c0 l0 true _ HR0.out HC0.out HK.out).mono ?_); rintro e w1 ⟨rfl, hb⟩; have HB := Aside0.mk hb; have hcell := (HB.out.cell (World.block_lt_of_cell? w _ HX0.out)).trans HX0.out; have hcell2 : w1.cell? ad = some (.slice A1 y0.length c1) := hcell; have HG := Aside0.mk (HP.out w1 y0 A1 c1 hb HM0.out (Kd.C_below HC1.out hb) HL0.out); clear hb)
    | (go_at_fn g; refine HG.out.mono ?_; rintro e w2 ⟨rfl, hb⟩; have HB2 := Aside0.mk (HB.out.trans (hb.mono HB.out.size)); clear hb HB HG; rw [show p y0 = c by rw [HY0.out, HCV.out]]))
  clear hcell hcell2
  go_loopg [7, 18] (l0.length + 1) (fun kq _ v18 w' => ∃ (j : Nat), v18 = .int .i64 j ∧ Aside0 (j + kq = l0.length + 1) ∧ Aside0 ((if (l0.drop j).all (fun x => p x == c) then c else -1) = R) ∧ Aside0 (Below w.heap.size w w'))
  case atStart => exact ⟨0, rfl, ⟨by omega⟩, HR, HB2⟩
  case round =>
    clear HB2
    obtain ⟨j, rfl, HK, HA, HB⟩ := hrel
    by_cases hlt : j < l0.length
    · have hltz : (j : Int) < (l0.length : Int) := by omega
      obtain ⟨ad', A2, c2, ead, hx0, hle, hC1⟩ := at_slice (Kd.C_below HR0.out HB.out) (j : Int) (by omega) hltz
      cases ead
      rw [Int.toNat_natCast] at hx0 hle hC1
      have hmem : l0.getD j [] ∈ l0 := by rw [List.getD_eq_getElem?_getD, List.getElem?_eq_getElem hlt]; exact List.getElem_mem hlt
      have hcall := HP.out wr (l0.getD j []) A2 c2 HB.out hmem hC1 hle
      have HL := Aside0.mk hlt
      obtain ⟨y, hy⟩ : ∃ y, y = l0.getD j [] := ⟨_, rfl⟩
      rw [← hy] at hx0 hcall
      have hcell : wr.cell? (ad.add j) = some (.slice A2 y.length c2) := hx0
      have HRD := Aside0.mk hy
      have HCALL := Aside0.mk hcall
      clear hcall hlt hy hx0 hle hC1 hmem
      by_cases hq : p y = c
      · have hq1 : (p y != c) = false := bne_eq_false_iff_eq.mpr hq
        have hq2 : (p y == c) = true := beq_iff_eq.mpr hq
        have HA2 := Aside0.mk ((common_drop_yes p c l0 j HL.out (by rw [← HRD.out]; exact hq)).symm.trans HA.out)
        clear HA hq
        go_wp2_with (go_at_fn g; refine HCALL.out.mono ?_; rintro e w' ⟨rfl, hb⟩; have HB2 := Aside0.mk (HB.out.trans (hb.mono HB.out.size)); clear hb)
        go_roundg (l0.length - j)
        case measure => have := HK.out; have := HL.out; omega
        case rel => exact ⟨j + 1, by go_num, ⟨by have := HK.out; have := HL.out; omega⟩, ⟨HA2.out⟩, HB2⟩
      · have hq1 : (p y != c) = true := bne_iff_ne.mpr hq
        have hq2 : (p y == c) = false := beq_eq_false_iff_ne.mpr hq
        have HF := Aside0.mk ((common_drop_no p c l0 j HL.out (by rw [← HRD.out]; exact hq)).symm.trans HA.out)
        clear HA hq
        go_wp2_with (go_at_fn g; refine HCALL.out.mono ?_; rintro e w' ⟨rfl, hb⟩; have HB2 := Aside0.mk (HB.out.trans (hb.mono HB.out.size)); clear hb)
        go_ret
        exact ⟨by (have e_ := HF.out; subst e_; rfl), HB2.out⟩
    · have hltz : ¬ (j : Int) < (l0.length : Int) := by omega
      have HF := Aside0.mk ((common_drop_nil p c l0 j hlt).symm.trans HA.out)
      clear hlt HA
      go_wp2
      go_ret
      exact ⟨by (have e_ := HF.out; subst e_; rfl), HB.out⟩
end Go.Proofs.Ytgldcbcefncjjaa.F
end
