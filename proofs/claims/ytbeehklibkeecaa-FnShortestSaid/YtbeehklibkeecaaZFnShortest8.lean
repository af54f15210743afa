import Derived.Test.YtbeehklibkeecaaZFnShortest4
import Derived.Test.YtbeehklibkeecaaZFnShortest7
import Derived.Shelf.SlicesE.Delete
import Derived.Lib.Overlaps
import Derived.Laws.Externs
import Derived.Lib.AppendZeros
import Derived.Lib.JoinLaws
import Derived.Test.YtbeehklibkeecaaI
import Derived.Maps.OwnSet
import Derived.Maps.Views
section
/- Laid by a program of this claim's own. What the Go function does, as a Lean function, and the proof that the Go code does just that; Lean checks it. -/
namespace Go.Proofs.Ytbeehklibkeecaa.F
open Go.RowKit Go.Proofs.YtbeehklibkeecaaW.PrintWords Go.Proofs.YtbeehklibkeecaaW.PrintLast Go.Proofs.YtbeehklibkeecaaW.PrintMore
attribute [local go_sem] max2_int min2_int max_two min_two max_three min_three max_four min_four   -- for this text's walks alone
set_option linter.unusedVariables false
set_option linter.unusedSimpArgs false
/-! ### impl_Perform: function 26 -/
def impl_Perform.f (k : Nat) (l0 : List Int) (a1_0 : Int) (a1_1 : Int) : Option (List Int × Bool) := (impl_PacketOk.f k l0).bind fun t601 => (if t601 = true then ((impl_MoveOk.f k (l0.length : Int) a1_0 a1_1).bind fun t602 => (if t602 = true then ((impl_moved.f k l0 a1_0 a1_1).bind fun t603 => (some (t603, true))) else (some (([] : List Int), false)))) else (some (([] : List Int), false)))
set_option maxHeartbeats 8000000 in
set_option maxRecDepth 100000 in
theorem impl_Perform.calls (k : Nat) (A0 : Option Addr) (c0 : Nat) (l0 : List Int) (a1_0 : Int) (a1_1 : Int) (r1 : List Int) (r2 : Bool) (w : World) (hr0 : Kd.C (Kd.int .i64) w A0 l0.length l0) (hc0 : l0.length ≤ c0) (h : impl_Perform.f k l0 a1_0 a1_1 = some (r1, r2)) :
    Calls Try.prog 26 #[.slice A0 l0.length c0, .agg #[.int .i64 a1_0, .int .i64 a1_1]] w fun e w' => ∃ v0_ : Value, e = .returned (.tuple #[v0_, .bool r2]) ∧ Kd.R (Kd.int .i64) 3 w' w.heap.size (fun _ => True) v0_ r1 ∧ Below w.heap.size w w' := by
  have hu42 := Try.underlying42
  have HR0 := Aside0.mk hr0
  have HC0 := Aside0.mk hc0
  clear hr0 hc0
  have HB := Aside0.mk (Below.refl w.heap.size w)
  have H : ((impl_PacketOk.f k l0).bind fun t601 => (if t601 = true then ((impl_MoveOk.f k (l0.length : Int) a1_0 a1_1).bind fun t602 => (if t602 = true then ((impl_moved.f k l0 a1_0 a1_1).bind fun t603 => (some (t603, true))) else (some (([] : List Int), false)))) else (some (([] : List Int), false)))) = some (r1, r2) := h
  clear h
  replace H := Option.bind_eq_some_iff.mp H
  obtain ⟨t601, A30, H⟩ := H
  replace H : (if t601 = true then ((impl_MoveOk.f k (l0.length : Int) a1_0 a1_1).bind fun t602 => (if t602 = true then ((impl_moved.f k l0 a1_0 a1_1).bind fun t603 => (some (t603, true))) else (some (([] : List Int), false)))) else (some (([] : List Int), false))) = some (r1, r2) := H
  have A3 := Aside0.mk A30
  clear A30
  by_cases c4 : t601 = true
  · subst c4
    have H1 : ((impl_MoveOk.f k (l0.length : Int) a1_0 a1_1).bind fun t602 => (if t602 = true then ((impl_moved.f k l0 a1_0 a1_1).bind fun t603 => (some (t603, true))) else (some (([] : List Int), false)))) = some (r1, r2) := by rw [if_pos rfl] at H; exact H
    clear H
    have H := H1
    clear H1
    replace H := Option.bind_eq_some_iff.mp H
    obtain ⟨t602, A50, H⟩ := H
    replace H : (if t602 = true then ((impl_moved.f k l0 a1_0 a1_1).bind fun t603 => (some (t603, true))) else (some (([] : List Int), false))) = some (r1, r2) := H
    have A5 := Aside0.mk A50
    clear A50
    by_cases c6 : t602 = true
    · subst c6
      have H1 : ((impl_moved.f k l0 a1_0 a1_1).bind fun t603 => (some (t603, true))) = some (r1, r2) := by rw [if_pos rfl] at H; exact H
      clear H
      have H := H1
      clear H1
      replace H := Option.bind_eq_some_iff.mp H
      obtain ⟨t603, A70, H⟩ := H
      replace H : (some (t603, true)) = some (r1, r2) := H
      have A7 := Aside0.mk A70
      clear A70
      simp only [Option.some.injEq, Prod.mk.injEq] at H
      obtain ⟨rfl, rfl⟩ := H
      go_enter Try.func26, Try.ntmps26
      go_wp2_with (first | ((with_reducible refine gate_dst (N := 3) rfl ?_); (try (refine gate_guard (by rfl) ?_; dsimp only)); refine box_event ?hg (N := 3) ?hd (cs := #[.int .i64 a1_0, .int .i64 a1_1]) (t := 42) ?hr ?_; (case hd => rfl); (case hg => rfl); (case hr => first | (go_simp; done) | (go_simp; rfl)); intro gb600 hg w8 hbox hb; have n0_ := Aside0.mk (below_step (by repeat (first | (with_reducible first | exact HB.out | apply below_alloc | apply pw_below_drewN | apply below_drew1) | exact HB.out)) hb); have n1_ := Aside0.mk (hbox); have n2_ := Aside0.mk ((by rw [hg]; exact (below_size (by repeat (first | (with_reducible first | exact HB.out | apply below_alloc | apply pw_below_drewN | apply below_drew1) | exact HB.out))) : w.heap.size ≤ gb600)); have n3_ := Aside0.mk ((by rw [hg]; exact (below_size (by repeat (first | (with_reducible first | exact HB.out | apply below_alloc | apply pw_below_drewN | apply below_drew1) | exact HB.out))) : w.heap.size ≤ gb600)); clear HB; have HB := n0_; have BK600 := n1_; have GW600 := n2_; have GE600 := n3_; clear n0_ n1_ n2_ n3_; clear hb hbox hg) | ((with_reducible refine gate_callee (f := 56) rfl ?_); refine goesL_ (some 7) rfl rfl Try.func56 (by kernel_rfl) rfl #[.slice A0 l0.length c0] rfl (by (try simp only [List.map_toArray, List.map_cons, List.map_nil]); first | done | rfl | (simp only [List.length_drop, List.length_take]; rfl)) ?_; (with_reducible refine (impl_PacketOk.calls k _ _ l0 true _ ?side1 ?side2 A3.out).mono ?_); (case side1 => repeat (first | exact (Kd.C_below HR0.out HB.out) | (with_reducible refine Kd.C_alloc ?_ _) | (with_reducible refine Kd.C_drewN ?_ _) | (with_reducible refine Kd.C_drew ?_))); (case side2 => exact HC0.out); rintro e w9 ⟨rfl, hb⟩; refine ⟨_, rfl, ?_⟩; have n0_ := Aside0.mk (blk_below (g := gb600) (o := .cells #[.int .i64 a1_0, .int .i64 a1_1] 42 (0, 0)) (by (with_reducible repeat (first | refine blk_drewN ?_ _ | refine blk_drew ?_ | refine blk_alloc ?_ _)); exact BK600.out) hb); have n1_ := Aside0.mk (below_step (by repeat (first | (with_reducible first | exact HB.out | apply below_alloc | apply pw_below_drewN | apply below_drew1 | refine below_set ?_ GE600.out) | exact HB.out)) hb); clear BK600; clear HB; have BK600 := n0_; have HB := n1_; clear n0_ n1_; (try clear hb); (try clear hb2); (try clear hk); (try clear hi); have hcz10_0 : w9.cell? ⟨gb600, 0, none⟩ = some (.int .i64 a1_0) := (blk_cell BK600.out 0).trans rfl; have hcz10_1 : w9.cell? ⟨gb600, 1, none⟩ = some (.int .i64 a1_1) := (blk_cell BK600.out 1).trans rfl; have hfz10_0 := blk_frozen BK600.out 0; have hfz10_1 := blk_frozen BK600.out 1) | (go_at_call 57; (with_reducible refine (impl_MoveOk.calls k (l0.length : Int) a1_0 a1_1 true _ A5.out).mono ?_); rintro e w11 ⟨rfl, hb⟩; have n0_ := Aside0.mk (blk_below (g := gb600) (o := .cells #[.int .i64 a1_0, .int .i64 a1_1] 42 (0, 0)) (by (with_reducible repeat (first | refine blk_drewN ?_ _ | refine blk_drew ?_ | refine blk_alloc ?_ _)); exact BK600.out) hb); have n1_ := Aside0.mk (below_step (by repeat (first | (with_reducible first | exact HB.out | apply below_alloc | apply pw_below_drewN | apply below_drew1 | refine below_set ?_ GE600.out) | exact HB.out)) hb); clear BK600; clear HB; have BK600 := n0_; have HB := n1_; clear n0_ n1_; (try clear hb); (try clear hb2); (try clear hk); (try clear hi); have hcz12_0 : w11.cell? ⟨gb600, 0, none⟩ = some (.int .i64 a1_0) := (blk_cell BK600.out 0).trans rfl; have hcz12_1 : w11.cell? ⟨gb600, 1, none⟩ = some (.int .i64 a1_1) := (blk_cell BK600.out 1).trans rfl; have hfz12_0 := blk_frozen BK600.out 0; have hfz12_1 := blk_frozen BK600.out 1) | ((with_reducible refine gate_callee (f := 58) rfl ?_); refine goesL_ (some 18) rfl rfl Try.func58 (by kernel_rfl) rfl #[.slice A0 l0.length c0, .agg #[.int .i64 a1_0, .int .i64 a1_1]] rfl (by (try simp only [List.map_toArray, List.map_cons, List.map_nil]); first | done | rfl | (simp only [List.length_drop, List.length_take]; rfl)) ?_; (with_reducible refine (impl_moved.calls k (fun k_ => k_ < w.heap.size) _ _ l0 a1_0 a1_1 t603 _ ?side1 A7.out).mono ?_); (case side1 => exact Kd.V_mk HC0.out (Kd.F_below (Kd.C_F (Kd.heap_int .i64) HR0.out) (by repeat (first | (with_reducible first | exact HB.out | apply below_alloc | apply pw_below_drewN | apply below_drew1 | refine below_set ?_ GE600.out) | exact HB.out)))); rintro e w13 ⟨v604, rfl, ho0, hb⟩; refine ⟨_, rfl, ?_⟩; have n0_ := Aside0.mk (Kd.R_lower (Kd.R_mono (ok' := fun k_ => True) ho0 (fun _ hk_ => trivial)) (below_size (by repeat (first | (with_reducible first | exact HB.out | apply below_alloc | apply pw_below_drewN | apply below_drew1 | refine below_set ?_ GE600.out) | exact HB.out)))); have n1_ := Aside0.mk (blk_below (g := gb600) (o := .cells #[.int .i64 a1_0, .int .i64 a1_1] 42 (0, 0)) (by (with_reducible repeat (first | refine blk_drewN ?_ _ | refine blk_drew ?_ | refine blk_alloc ?_ _)); exact BK600.out) hb); have n2_ := Aside0.mk (below_step (by repeat (first | (with_reducible first | exact HB.out | apply below_alloc | apply pw_below_drewN | apply below_drew1 | refine below_set ?_ GE600.out) | exact HB.out)) hb); clear BK600; clear HB; have HO605 := n0_; have BK600 := n1_; have HB := n2_; clear n0_ n1_ n2_; (try clear hb); (try clear hb2); (try clear hk); (try clear hi); (try clear ho0)))
      go_ret2
      exact ⟨_, by first | rfl | (simp [errW_none, errW_some] <;> rfl) | (simp [*, errW_none, errW_some] <;> rfl), by (with_reducible repeat (first | apply Kd.R_alloc | apply Kd.R_drewN | apply Kd.R_drew)); exact HO605.out, by repeat (first | (with_reducible first | exact HB.out | apply below_alloc | apply pw_below_drewN | apply below_drew1 | refine below_set ?_ GE600.out) | exact HB.out)⟩
    · replace c6 := Bool.eq_false_iff.mpr c6
      subst c6
      have H1 : (some (([] : List Int), false)) = some (r1, r2) := by rw [if_neg (show ¬ (false = true) by decide)] at H; exact H
      clear H
      have H := H1
      clear H1
      simp only [Option.some.injEq, Prod.mk.injEq] at H
      obtain ⟨rfl, rfl⟩ := H
      go_enter Try.func26, Try.ntmps26
      go_wp2_with (first | ((with_reducible refine gate_dst (N := 3) rfl ?_); (try (refine gate_guard (by rfl) ?_; dsimp only)); refine box_event ?hg (N := 3) ?hd (cs := #[.int .i64 a1_0, .int .i64 a1_1]) (t := 42) ?hr ?_; (case hd => rfl); (case hg => rfl); (case hr => first | (go_simp; done) | (go_simp; rfl)); intro gb600 hg w14 hbox hb; have n0_ := Aside0.mk (below_step (by repeat (first | (with_reducible first | exact HB.out | apply below_alloc | apply pw_below_drewN | apply below_drew1) | exact HB.out)) hb); have n1_ := Aside0.mk (hbox); have n2_ := Aside0.mk ((by rw [hg]; exact (below_size (by repeat (first | (with_reducible first | exact HB.out | apply below_alloc | apply pw_below_drewN | apply below_drew1) | exact HB.out))) : w.heap.size ≤ gb600)); have n3_ := Aside0.mk ((by rw [hg]; exact (below_size (by repeat (first | (with_reducible first | exact HB.out | apply below_alloc | apply pw_below_drewN | apply below_drew1) | exact HB.out))) : w.heap.size ≤ gb600)); clear HB; have HB := n0_; have BK600 := n1_; have GW600 := n2_; have GE600 := n3_; clear n0_ n1_ n2_ n3_; clear hb hbox hg) | ((with_reducible refine gate_callee (f := 56) rfl ?_); refine goesL_ (some 7) rfl rfl Try.func56 (by kernel_rfl) rfl #[.slice A0 l0.length c0] rfl (by (try simp only [List.map_toArray, List.map_cons, List.map_nil]); first | done | rfl | (simp only [List.length_drop, List.length_take]; rfl)) ?_; (with_reducible refine (impl_PacketOk.calls k _ _ l0 true _ ?side1 ?side2 A3.out).mono ?_); (case side1 => repeat (first | exact (Kd.C_below HR0.out HB.out) | (with_reducible refine Kd.C_alloc ?_ _) | (with_reducible refine Kd.C_drewN ?_ _) | (with_reducible refine Kd.C_drew ?_))); (case side2 => exact HC0.out); rintro e w15 ⟨rfl, hb⟩; refine ⟨_, rfl, ?_⟩; have n0_ := Aside0.mk (blk_below (g := gb600) (o := .cells #[.int .i64 a1_0, .int .i64 a1_1] 42 (0, 0)) (by (with_reducible repeat (first | refine blk_drewN ?_ _ | refine blk_drew ?_ | refine blk_alloc ?_ _)); exact BK600.out) hb); have n1_ := Aside0.mk (below_step (by repeat (first | (with_reducible first | exact HB.out | apply below_alloc | apply pw_below_drewN | apply below_drew1 | refine below_set ?_ GE600.out) | exact HB.out)) hb); clear BK600; clear HB; have BK600 := n0_; have HB := n1_; clear n0_ n1_; (try clear hb); (try clear hb2); (try clear hk); (try clear hi); have hcz16_0 : w15.cell? ⟨gb600, 0, none⟩ = some (.int .i64 a1_0) := (blk_cell BK600.out 0).trans rfl; have hcz16_1 : w15.cell? ⟨gb600, 1, none⟩ = some (.int .i64 a1_1) := (blk_cell BK600.out 1).trans rfl; have hfz16_0 := blk_frozen BK600.out 0; have hfz16_1 := blk_frozen BK600.out 1) | (go_at_call 57; (with_reducible refine (impl_MoveOk.calls k (l0.length : Int) a1_0 a1_1 false _ A5.out).mono ?_); rintro e w17 ⟨rfl, hb⟩; have n0_ := Aside0.mk (blk_below (g := gb600) (o := .cells #[.int .i64 a1_0, .int .i64 a1_1] 42 (0, 0)) (by (with_reducible repeat (first | refine blk_drewN ?_ _ | refine blk_drew ?_ | refine blk_alloc ?_ _)); exact BK600.out) hb); have n1_ := Aside0.mk (below_step (by repeat (first | (with_reducible first | exact HB.out | apply below_alloc | apply pw_below_drewN | apply below_drew1 | refine below_set ?_ GE600.out) | exact HB.out)) hb); clear BK600; clear HB; have BK600 := n0_; have HB := n1_; clear n0_ n1_; (try clear hb); (try clear hb2); (try clear hk); (try clear hi)))
      go_ret2
      exact ⟨_, by first | rfl | (simp [errW_none, errW_some] <;> rfl) | (simp [*, errW_none, errW_some] <;> rfl), by first | exact Kd.R_nil _ _ _ _ _ | exact Kd.N_nil _ _ _ _ _ | exact Kd.V_nil _ _ _ _ _ | exact Kd.Q_nil _ _ _ _ _ | exact Kd.S_nil _ _ _ _ _, by repeat (first | (with_reducible first | exact HB.out | apply below_alloc | apply pw_below_drewN | apply below_drew1 | refine below_set ?_ GE600.out) | exact HB.out)⟩
  · replace c4 := Bool.eq_false_iff.mpr c4
    subst c4
    have H1 : (some (([] : List Int), false)) = some (r1, r2) := by rw [if_neg (show ¬ (false = true) by decide)] at H; exact H
    clear H
    have H := H1
    clear H1
    simp only [Option.some.injEq, Prod.mk.injEq] at H
    obtain ⟨rfl, rfl⟩ := H
    go_enter Try.func26, Try.ntmps26
    go_wp2_with (first | ((with_reducible refine gate_dst (N := 3) rfl ?_); (try (refine gate_guard (by rfl) ?_; dsimp only)); refine box_event ?hg (N := 3) ?hd (cs := #[.int .i64 a1_0, .int .i64 a1_1]) (t := 42) ?hr ?_; (case hd => rfl); (case hg => rfl); (case hr => first | (go_simp; done) | (go_simp; rfl)); intro gb600 hg w18 hbox hb; have n0_ := Aside0.mk (below_step (by repeat (first | (with_reducible first | exact HB.out | apply below_alloc | apply pw_below_drewN | apply below_drew1) | exact HB.out)) hb); have n1_ := Aside0.mk (hbox); have n2_ := Aside0.mk ((by rw [hg]; exact (below_size (by repeat (first | (with_reducible first | exact HB.out | apply below_alloc | apply pw_below_drewN | apply below_drew1) | exact HB.out))) : w.heap.size ≤ gb600)); have n3_ := Aside0.mk ((by rw [hg]; exact (below_size (by repeat (first | (with_reducible first | exact HB.out | apply below_alloc | apply pw_below_drewN | apply below_drew1) | exact HB.out))) : w.heap.size ≤ gb600)); clear HB; have HB := n0_; have BK600 := n1_; have GW600 := n2_; have GE600 := n3_; clear n0_ n1_ n2_ n3_; clear hb hbox hg) | ((with_reducible refine gate_callee (f := 56) rfl ?_); refine goesL_ (some 7) rfl rfl Try.func56 (by kernel_rfl) rfl #[.slice A0 l0.length c0] rfl (by (try simp only [List.map_toArray, List.map_cons, List.map_nil]); first | done | rfl | (simp only [List.length_drop, List.length_take]; rfl)) ?_; (with_reducible refine (impl_PacketOk.calls k _ _ l0 false _ ?side1 ?side2 A3.out).mono ?_); (case side1 => repeat (first | exact (Kd.C_below HR0.out HB.out) | (with_reducible refine Kd.C_alloc ?_ _) | (with_reducible refine Kd.C_drewN ?_ _) | (with_reducible refine Kd.C_drew ?_))); (case side2 => exact HC0.out); rintro e w19 ⟨rfl, hb⟩; refine ⟨_, rfl, ?_⟩; have n0_ := Aside0.mk (blk_below (g := gb600) (o := .cells #[.int .i64 a1_0, .int .i64 a1_1] 42 (0, 0)) (by (with_reducible repeat (first | refine blk_drewN ?_ _ | refine blk_drew ?_ | refine blk_alloc ?_ _)); exact BK600.out) hb); have n1_ := Aside0.mk (below_step (by repeat (first | (with_reducible first | exact HB.out | apply below_alloc | apply pw_below_drewN | apply below_drew1 | refine below_set ?_ GE600.out) | exact HB.out)) hb); clear BK600; clear HB; have BK600 := n0_; have HB := n1_; clear n0_ n1_; (try clear hb); (try clear hb2); (try clear hk); (try clear hi)))
    go_ret2
    exact ⟨_, by first | rfl | (simp [errW_none, errW_some] <;> rfl) | (simp [*, errW_none, errW_some] <;> rfl), by first | exact Kd.R_nil _ _ _ _ _ | exact Kd.N_nil _ _ _ _ _ | exact Kd.V_nil _ _ _ _ _ | exact Kd.Q_nil _ _ _ _ _ | exact Kd.S_nil _ _ _ _ _, by repeat (first | (with_reducible first | exact HB.out | apply below_alloc | apply pw_below_drewN | apply below_drew1 | refine below_set ?_ GE600.out) | exact HB.out)⟩
end Go.Proofs.Ytbeehklibkeecaa.F
end
section
/- Laid by a program of this claim's own. What the Go function does, as a Lean function, and the proof that the Go code does just that; Lean checks it. -/
namespace Go.Proofs.Ytbeehklibkeecaa.F
open Go.RowKit Go.Proofs.YtbeehklibkeecaaW.PrintWords Go.Proofs.YtbeehklibkeecaaW.PrintLast Go.Proofs.YtbeehklibkeecaaW.PrintMore
attribute [local go_sem] max2_int min2_int max_two min_two max_three min_three max_four min_four   -- for this text's walks alone
set_option linter.unusedVariables false
set_option linter.unusedSimpArgs false
/-! ### impl_upTo: function 52 -/
def impl_upTo.l0 : Nat → Int → List Int → Int → Option (List Int)
  | 0, _, _, _ => none
  | k + 1, x0, x3, x4 => if x4 < x0 then (if x3.length < 17592186044416 then (impl_upTo.l0 k x0 (x3 ++ [x4]) (wrap64 (x4 + 1))) else (none)) else (some x3)
def impl_upTo.f (k : Nat) (a0 : Int) : Option (List Int) := impl_upTo.l0 k a0 ([] : List Int) 0
theorem impl_upTo.mono_l : ∀ k, (∀ y0 y1 y2, LeO (impl_upTo.l0 k y0 y1 y2) (impl_upTo.l0 (k + 1) y0 y1 y2))
  | 0 => fun _ _ _ r h => by simp [impl_upTo.l0] at h
  | k + 1 => by
    have ih0 := impl_upTo.mono_l k
    · intro y0 y1 y2
      unfold impl_upTo.l0
      repeat' first
      | (with_reducible exact ih0 _ _ _)
      | (with_reducible exact LeO.refl _)
      | (with_reducible exact LeO.none _)
      | (with_reducible refine LeO.ite ?_ ?_)
      | (with_reducible refine LeO.bind ?_ (fun _ => ?_))
      | exact ih0 _ _ _
      | exact LeO.none _
      | refine LeO.ite ?_ ?_
      | refine LeO.bind ?_ (fun _ => ?_)
theorem impl_upTo.mono : ∀ a0 k, LeO (impl_upTo.f k a0) (impl_upTo.f (k + 1) a0) := by
  intro a0 k
  have ih0 := impl_upTo.mono_l k
  unfold impl_upTo.f
  repeat' first
      | (with_reducible exact ih0 _ _ _)
      | (with_reducible exact LeO.refl _)
      | (with_reducible exact LeO.none _)
      | (with_reducible refine LeO.ite ?_ ?_)
      | (with_reducible refine LeO.bind ?_ (fun _ => ?_))
      | exact ih0 _ _ _
      | exact LeO.none _
      | refine LeO.ite ?_ ?_
      | refine LeO.bind ?_ (fun _ => ?_)
set_option maxHeartbeats 8000000 in
set_option maxRecDepth 100000 in
theorem impl_upTo.calls (k : Nat) (a0 : Int) (r : List Int) (w : World) (h : impl_upTo.f k a0 = some r) :
    Calls Try.prog 52 #[.int .i64 a0] w fun e w' => ∃ v0_ : Value, e = .returned (v0_) ∧ Kd.R (Kd.int .i64) 3 w' w.heap.size (fun _ => True) v0_ r ∧ Below w.heap.size w w' := by
  have HB := Aside0.mk (Below.refl w.heap.size w)
  have H : (impl_upTo.l0 k a0 ([] : List Int) 0) = some r := h
  clear h
  have H' := Aside0.mk H
  clear H
  go_enter Try.func52, Try.ntmps52
  go_wp2
  go_loopg [3, 4] k (fun kq v3 v4 w' => ∃ (x3_1 : List Int) (x4_1 : Int), v4 = .int .i64 x4_1 ∧ Aside0 (impl_upTo.l0 kq a0 x3_1 x4_1 = some r) ∧ Aside0 (kq ≤ k) ∧ Aside0 (Kd.R (Kd.int .i64) 3 w' w.heap.size (fun _ => True) v3 x3_1) ∧ Aside0 (Below w.heap.size w w'))
  case atStart => exact ⟨(([] : List Int)), (0), (by first | rfl | (simp; done) | (simp [*]; done)), H', ⟨Nat.le_refl _⟩, ⟨by first | exact Kd.R_nil _ _ _ _ _ | exact Kd.N_nil _ _ _ _ _ | exact Kd.V_nil _ _ _ _ _ | exact Kd.Q_nil _ _ _ _ _ | exact Kd.S_nil _ _ _ _ _⟩, ⟨by repeat (first | (with_reducible first | exact HB.out | apply below_alloc | apply pw_below_drewN | apply below_drew1) | exact HB.out)⟩⟩
  case round =>
    clear H'
    obtain ⟨x3_1, x4_1, rfl, HA, HK1, HO_3, HB⟩ := hrel
    cases gk with
    | zero => exact absurd HA.out (by simp [impl_upTo.l0])
    | succ k1 =>
      have H := HA.out
      clear HA
      simp only [impl_upTo.l0] at H
      by_cases c2 : x4_1 < a0
      · rw [if_pos c2] at H
        have c2b0 : decide (x4_1 < a0) = true := decide_eq_true c2
        clear c2
        by_cases c3 : x3_1.length < 17592186044416
        · rw [if_pos c3] at H
          have LMc3 := Aside0.mk c3
          clear c3
          obtain ⟨y225, hy225⟩ : ∃ y_ : List Int, y_ = (x3_1 ++ [x4_1]) := ⟨_, rfl⟩
          replace H : (impl_upTo.l0 k1 a0 y225 (wrap64 (x4_1 + 1))) = some r := by first | (rw [hy225]; with_reducible exact H) | (have H2_ := (Option.bind_some _ _).symm.trans H; rw [hy225]; with_reducible exact H2_) | (have H2_ := (Option.bind_some _ _).symm.trans H; with_reducible exact H2_) | with_reducible exact H | (rw [hy225]; exact H) | exact H
          have Ny225 := Aside0.mk hy225
          clear hy225
          have H' := Aside0.mk H
          clear H
          go_wp2_with (first | ((with_reducible refine gate_builtin (b := .append) (xs := #[.tmp 10, .tmp 12]) rfl ?_); at_builtin; refine Kd.R_append (Kd.int .i64) (w0 := w) w.heap.size rfl (.tmp 10) (.tmp 12) 24 3 (.int .i64 0) 8 rfl Try.underlying24 info3 rfl (by decide) (by omega) u3 x3_1 x4_1 [.int .i64 x4_1] (fun _ => True) (fun _ => False) rfl rfl ?aP (fun _ hk => hk.elim) ?aF ?aO ?aB ?aS ?aL ?_; (case aP => exact rfl); (case aB => exact (by repeat (first | (with_reducible first | exact HB.out | apply below_alloc | apply pw_below_drewN | apply below_drew1) | exact HB.out))); (case aF => exact (fun _ _ => trivial)); (case aO => exact (by (with_reducible repeat (first | apply Kd.R_alloc | apply Kd.R_drewN | apply Kd.R_drew)); exact HO_3.out)); (case aS => exact (below_size (by repeat (first | (with_reducible first | exact HB.out | apply below_alloc | apply pw_below_drewN | apply below_drew1) | exact HB.out)))); (case aL => have := LMc3.out; omega); intro v226 w4 ho hb hg hat; rw [← Ny225.out] at ho; have n0_ := Aside0.mk (hb); have n1_ := Aside0.mk (ho); clear HB; clear HO_3; have HB := n0_; have HO227 := n1_; clear n0_ n1_; clear ho hb hg hat))
          go_roundg k1
          case measure => have := HK1.out; omega
          case rel => exact ⟨(y225), (wrap64 (x4_1 + 1)), (by first | rfl | (simp; done) | (simp [*]; done)), H', ⟨by have := HK1.out; omega⟩, ⟨by (with_reducible repeat (first | apply Kd.R_alloc | apply Kd.R_drewN | apply Kd.R_drew)); exact HO227.out⟩, ⟨by repeat (first | (with_reducible first | exact HB.out | apply below_alloc | apply pw_below_drewN | apply below_drew1) | exact HB.out)⟩⟩
        · rw [if_neg c3] at H
          exact absurd H (by simp)
      · rw [if_neg c2] at H
        have c2b0 : decide (x4_1 < a0) = false := decide_eq_false c2
        clear c2
        obtain rfl := Option.some.inj H
        go_wp2
        go_ret
        exact ⟨_, by first | rfl | (simp [errW_none, errW_some] <;> rfl) | (simp [*, errW_none, errW_some] <;> rfl), by (with_reducible repeat (first | apply Kd.R_alloc | apply Kd.R_drewN | apply Kd.R_drew)); exact HO_3.out, by repeat (first | (with_reducible first | exact HB.out | apply below_alloc | apply pw_below_drewN | apply below_drew1) | exact HB.out)⟩
end Go.Proofs.Ytbeehklibkeecaa.F
end
section
/- Laid by a program of this claim's own. What the Go function does, as a Lean function, and the proof that the Go code does just that; Lean checks it. -/
namespace Go.Proofs.Ytbeehklibkeecaa.F
open Go.RowKit Go.Proofs.YtbeehklibkeecaaW.PrintWords Go.Proofs.YtbeehklibkeecaaW.PrintLast Go.Proofs.YtbeehklibkeecaaW.PrintMore
attribute [local go_sem] max2_int min2_int max_two min_two max_three min_three max_four min_four   -- for this text's walks alone
set_option linter.unusedVariables false
set_option linter.unusedSimpArgs false
/-! ### impl_NewPacket: function 27 -/
def impl_NewPacket.f (k : Nat) (a0 : Int) : Option (List Int) := if a0 < 0 then (some ([] : List Int)) else (if a0 > 12 then (some ([] : List Int)) else ((impl_upTo.f k a0).bind fun t606 => (some t606)))
set_option maxHeartbeats 8000000 in
set_option maxRecDepth 100000 in
theorem impl_NewPacket.calls (k : Nat) (a0 : Int) (r : List Int) (w : World) (h : impl_NewPacket.f k a0 = some r) :
    Calls Try.prog 27 #[.int .i64 a0] w fun e w' => ∃ v0_ : Value, e = .returned (v0_) ∧ Kd.R (Kd.int .i64) 3 w' w.heap.size (fun _ => True) v0_ r ∧ Below w.heap.size w w' := by
  have HB := Aside0.mk (Below.refl w.heap.size w)
  have H : (if a0 < 0 then (some ([] : List Int)) else (if a0 > 12 then (some ([] : List Int)) else ((impl_upTo.f k a0).bind fun t606 => (some t606)))) = some r := h
  clear h
  by_cases c2 : a0 < 0
  · rw [if_pos c2] at H
    have c2b0 : decide (a0 < 0) = true := decide_eq_true c2
    clear c2
    obtain rfl := Option.some.inj H
    go_enter Try.func27, Try.ntmps27
    go_wp2
    go_ret
    exact ⟨_, by first | rfl | (simp [errW_none, errW_some] <;> rfl) | (simp [*, errW_none, errW_some] <;> rfl), by first | exact Kd.R_nil _ _ _ _ _ | exact Kd.N_nil _ _ _ _ _ | exact Kd.V_nil _ _ _ _ _ | exact Kd.Q_nil _ _ _ _ _ | exact Kd.S_nil _ _ _ _ _, by repeat (first | (with_reducible first | exact HB.out | apply below_alloc | apply pw_below_drewN | apply below_drew1) | exact HB.out)⟩
  · rw [if_neg c2] at H
    have c2b0 : decide (a0 < 0) = false := decide_eq_false c2
    clear c2
    by_cases c3 : a0 > 12
    · rw [if_pos c3] at H
      have c3b0 : decide (12 < a0) = true := decide_eq_true c3
      clear c3
      obtain rfl := Option.some.inj H
      go_enter Try.func27, Try.ntmps27
      go_wp2
      go_ret
      exact ⟨_, by first | rfl | (simp [errW_none, errW_some] <;> rfl) | (simp [*, errW_none, errW_some] <;> rfl), by first | exact Kd.R_nil _ _ _ _ _ | exact Kd.N_nil _ _ _ _ _ | exact Kd.V_nil _ _ _ _ _ | exact Kd.Q_nil _ _ _ _ _ | exact Kd.S_nil _ _ _ _ _, by repeat (first | (with_reducible first | exact HB.out | apply below_alloc | apply pw_below_drewN | apply below_drew1) | exact HB.out)⟩
    · rw [if_neg c3] at H
      have c3b0 : decide (12 < a0) = false := decide_eq_false c3
      clear c3
      replace H := Option.bind_eq_some_iff.mp H
      obtain ⟨t606, A40, H⟩ := H
      replace H : (some t606) = some r := H
      have A4 := Aside0.mk A40
      clear A40
      obtain rfl := Option.some.inj H
      go_enter Try.func27, Try.ntmps27
      go_wp2_with (first | ((with_reducible refine gate_callee (f := 52) rfl ?_); refine goesL_ (some 10) rfl rfl Try.func52 (by kernel_rfl) rfl #[.int .i64 a0] rfl (by (try simp only [List.map_toArray, List.map_cons, List.map_nil]); first | done | rfl | (simp only [List.length_drop, List.length_take]; rfl)) ?_; (with_reducible refine (impl_upTo.calls k a0 t606 _ A4.out).mono ?_); rintro e w5 ⟨v607, rfl, ho0, hb⟩; refine ⟨_, rfl, ?_⟩; have n0_ := Aside0.mk (Kd.R_lower ho0 (below_size (by repeat (first | (with_reducible first | exact HB.out | apply below_alloc | apply pw_below_drewN | apply below_drew1) | exact HB.out)))); have n1_ := Aside0.mk (below_step (by repeat (first | (with_reducible first | exact HB.out | apply below_alloc | apply pw_below_drewN | apply below_drew1) | exact HB.out)) hb); clear HB; have HO608 := n0_; have HB := n1_; clear n0_ n1_; (try clear hb); (try clear hb2); (try clear hk); (try clear hi); (try clear ho0)))
      go_ret
      exact ⟨_, by first | rfl | (simp [errW_none, errW_some] <;> rfl) | (simp [*, errW_none, errW_some] <;> rfl), by (with_reducible repeat (first | apply Kd.R_alloc | apply Kd.R_drewN | apply Kd.R_drew)); exact HO608.out, by repeat (first | (with_reducible first | exact HB.out | apply below_alloc | apply pw_below_drewN | apply below_drew1) | exact HB.out)⟩
end Go.Proofs.Ytbeehklibkeecaa.F
end
section
/- Laid by a program of this claim's own. What the Go function does, as a Lean function, and the proof that the Go code does just that; Lean checks it. -/
namespace Go.Proofs.Ytbeehklibkeecaa.F
open Go.RowKit Go.Proofs.YtbeehklibkeecaaW.PrintWords Go.Proofs.YtbeehklibkeecaaW.PrintLast Go.Proofs.YtbeehklibkeecaaW.PrintMore
attribute [local go_sem] max2_int min2_int max_two min_two max_three min_three max_four min_four   -- for this text's walks alone
set_option linter.unusedVariables false
set_option linter.unusedSimpArgs false
/-! ### impl_GatherPiles: function 87 -/
-- IMPORT Derived.Shelf.SlicesE.Delete
-- IMPORT Derived.Lib.Overlaps
-- IMPORT Derived.Laws.Externs
-- IMPORT Derived.Lib.AppendZeros
-- IMPORT Derived.Lib.JoinLaws
-- IMPORT Derived.Test.YtbeehklibkeecaaI
/-! ### 1. Rows of headers -/
section
variable {α β : Type}
end
/-! ### 2. The library's functions on rows of headers -/
/-- One header of its own, by itself. -/
def HOne (W : World) (b : Nat) (u : Value) : Prop := W.heap[b]? = some (.cells #[u] 24 (0, 0))
theorem HOne.new (W : World) (u : Value) : HOne (W.alloc (.cells #[u] 24)) W.heap.size u := by
  show (W.heap.push _)[W.heap.size]? = _
  simp
/-- A header, as an element of one cell. -/
abbrev HV : Type := {v : Value // v.oneCell' = true}
instance : Inhabited HV := ⟨⟨.slice none 0 0, rfl⟩⟩
theorem wp_copy_runJ {P : Program} (w : World) {o : Oper} {a : Act} {K : Act → World → Prop} {Q : Exit → Act → World → Prop} (d s : Operand) (t t' : TypeId)
    (ho : o.op = .call { callee := .builtin .copy, args := #[d, s], argTypes := #[t, t'] }) (v u : Value) (hd : a.eval d = v) (hs : a.eval s = u) {v' : Value} {w' : World}
    (hr : (Builtin.copy_ #[t, t'] o.type #[v, u]).run P w = .ok v' w') (h : K (a.put o.dst v') w') : o.wp P a w K Q := by
  unfold Oper.wp execOp
  simp only [ho, resolve, invoke, builtin, Sem.run_bind, Sem.run_pure, Result.andThen_ok, List.map_toArray, List.map_cons, List.map_nil, hd, hs, hr]
  exact h
theorem wpList_copy_runJ {P : Program} (w : World) {ops : Array Oper} {rest : List Oper} {o : Oper} {a : Act} {Q : Exit → Act → World → Prop} (hgd : o.guard = none) (d s : Operand) (t t' : TypeId)
    (ho : o.op = .call { callee := .builtin .copy, args := #[d, s], argTypes := #[t, t'] }) (v u : Value) (hd : a.eval d = v) (hs : a.eval s = u) {v' : Value} {w' : World}
    (hr : (Builtin.copy_ #[t, t'] o.type #[v, u]).run P w = .ok v' w') (h : wpList P ops Q rest (a.put o.dst v') w') : wpList P ops Q (o :: rest) a w :=
  wpList_plain hgd fun _ hK => wp_copy_runJ w d s t t' ho v u hd hs hr (hK _ _ h)
theorem step_copy_runJ {P : Program} {ops : Array Oper} {o : Oper} {a : Act} {w : World} {K : Act → World → Prop} {Q : Exit → Act → World → Prop} {E : Prop}
    (hg : o.guard = none) (d x : Operand) (dT sT : TypeId) (hop : o.op = Op.call { callee := Callee.builtin Builtin.copy, args := #[d, x], argTypes := #[dT, sT] })
    (v u : Value) (hd : a.eval d = v) (hx : a.eval x = u) {v' : Value} {w' : World} (hr : (Builtin.copy_ #[dT, sT] o.type #[v, u]).run P w = .ok v' w') (hK : K (a.put o.dst v') w') :
    if Region.wanted o (yielded ops a.tmps) = true then Oper.wp P o a w K Q else E := by
  have hw : Region.wanted o (yielded ops a.tmps) = true := by simp [Region.wanted, hg]
  rw [if_pos hw]
  unfold Oper.wp
  simp [execOp, hop, resolve, invoke, builtin, hd, hx, hr, Result.andThen]
  exact hK
theorem isSome_setCellsJ (b : Nat) (vs : List Value) (o : Nat) (w : World) (h : ∀ j, j < vs.length → (w.cell? ⟨b, o + j, none⟩).isSome = true) (k : Nat) (hk : (w.cell? ⟨b, k, none⟩).isSome = true) : ((w.setCells b o vs).cell? ⟨b, k, none⟩).isSome = true := by
  by_cases hin : o ≤ k ∧ k < o + vs.length
  · have := World.cell?_setCells_in b vs o w h (k - o) (by omega)
    rw [show o + (k - o) = k by omega] at this
    rw [this]; rfl
  · rw [World.cell?_setCells_out b vs o w ⟨b, k, none⟩ (fun _ _ => by show k < o ∨ o + vs.length ≤ k; omega)]
    exact hk
set_option maxHeartbeats 8000000 in
set_option maxRecDepth 100000 in
theorem insert_shift_heads (b n c i vb : Nat) (cs : List Value) (x : Value) (w : World) (hi : i < n) (hroom : n + 1 ≤ c) (hc63 : c ≤ 9223372036854775807) (hvb : vb ≠ b)
    (hcl : cs.length = n) (hcs : ∀ j v, cs[j]? = some v → w.cell? ⟨b, j, none⟩ = some v) (hsp : ∀ j, j < n + 1 → (w.cell? ⟨b, j, none⟩).isSome = true) (hfz : ∀ j, w.frozen? ⟨b, j, none⟩ = false)
    (hvs : w.cell? ⟨vb, 0, none⟩ = some x) (h1c : ∀ v ∈ cs, v.oneCell' = true) (h1v : x.oneCell' = true)
    (tA tB : TypeId) (kA kB : Nat) (hsa : w.shape? vb = some (tA, kA)) (hsb : w.shape? b = some (tB, kB)) (hkB : kB ≠ 0) (hfa : w.frozen? ⟨vb, 0, none⟩ = false) (hfe : w.frozen? ⟨vb, kA, none⟩ = false) :
    Calls Try.prog 73 #[.slice (some ⟨b, 0, none⟩) n c, .int .i64 i, .slice (some ⟨vb, 0, none⟩) 1 1] w fun e w' =>
      e = .returned (.slice (some ⟨b, 0, none⟩) (n + 1) c) ∧ w' = (w.drew.setCells b (i + 1) (cs.drop i)).setCells b i [x] := by
  have hz2 : ¬ ((i : Int) = (n : Int)) := by omega
  have hsz : (Try.prog.info? 24).map (·.size) = some 1 := by kernel_rfl
  have hov : ∀ lb cb, (callFunc 102 #[.slice (some ⟨vb, 0, none⟩) 1 1, .slice (some ⟨b, i + 1, none⟩) lb cb]).run Try.prog w = .ok (.value (.bool false)) w := fun lb cb => by
    rw [run_callFunc_extern Try.func102 (by kernel_rfl) (by kernel_rfl) (by kernel_rfl) (e := Extern.SlicesOverlaps.overlaps #[44, 44] #[4]) (by kernel_rfl),
      Lib.run_overlaps_apart w 44 4 24 Try.underlying44 1 Try.sizeOf24 ⟨vb, 0, none⟩ ⟨b, i + 1, none⟩ 1 1 lb cb hvb tA tB kA kB hsa hsb hkB hfa hfe]
    rfl
  have hdl : (cs.drop i).length = n - i := by rw [List.length_drop, hcl]
  have hw1 : IntKind.i64.wrap ((i : Int) + 1) = (i : Int) + 1 := by rw [IntKind.wrap_i64]; omega
  have hw2 : IntKind.i64.wrap ((n : Int) + 1) = (n : Int) + 1 := by rw [IntKind.wrap_i64]; omega
  have hb1 : (0 : Int) ≤ (i : Int) + 1 := by omega
  have hin : i ≤ n := by omega
  have htn : ((i : Int) + 1).toNat = i + 1 := by omega
  have htn2 : ((n : Int) + 1).toNat = n + 1 := by omega
  have hb2 : ¬ (c = i + 1) := by omega
  have hb3 : (i : Int) ≤ (n : Int) + 1 := by omega
  have hb4 : ¬ (c = i) := by omega
  have hcp1 : ∀ ty dc sc, (Builtin.copy_ #[44, 44] ty #[.slice (some ⟨b, i + 1, none⟩) (n - i) dc, .slice (some ⟨b, i, none⟩) (n + 1 - i) sc]).run Try.prog w.drew = .ok (goInt (cs.drop i).length) (w.drew.setCells b (i + 1) (cs.drop i)) := fun ty dc sc =>
    run_copy_cells w.drew _ _ ty 24 b (i + 1) (n - i) dc ⟨b, i, none⟩ (n + 1 - i) sc (cs.drop i) Try.underlying44 hsz (by rw [hdl]; simp only [Nat.min_def]; split <;> omega)
      (fun j v hj => by rw [Addr.add_lit]; exact hcs (i + j) v (by rwa [List.getElem?_drop] at hj))
      (fun j hj => hsp _ (by omega)) (fun j hj => hfz _) (fun v hv => h1c v (List.mem_of_mem_drop hv))
  obtain ⟨W1, hW1⟩ : ∃ W1, W1 = w.drew.setCells b (i + 1) (cs.drop i) := ⟨_, rfl⟩
  have hsp1 : ∀ k, k < n + 1 → (W1.cell? ⟨b, k, none⟩).isSome = true := fun k hk => by
    rw [hW1]
    exact isSome_setCellsJ b (cs.drop i) (i + 1) w.drew (fun j hj => hsp _ (by rw [hdl] at hj; omega)) k (hsp k hk)
  have hcp2 : ∀ (W : World), (∀ x, W.cell? x = W1.cell? x) → (∀ x, W.frozen? x = W1.frozen? x) → ∀ ty dc, (Builtin.copy_ #[44, 44] ty #[.slice (some ⟨b, i, none⟩) (n + 1 - i) dc, .slice (some ⟨vb, 0, none⟩) 1 1]).run Try.prog W = .ok (goInt [x].length) (W.setCells b i [x]) := fun W hWc hWf ty dc =>
    run_copy_cells W _ _ ty 24 b i (n + 1 - i) dc ⟨vb, 0, none⟩ 1 1 [x] Try.underlying44 hsz (by simp only [List.length_singleton, Nat.min_def]; split <;> omega)
      (fun j v hj => by
        rw [Addr.add_lit, hWc, hW1, World.cell?_setCells_out b _ _ _ _ (fun h _ => absurd h hvb)]
        cases j with
        | zero => injection hj with hj; subst hj; exact hvs
        | succ j => simp at hj)
      (fun j hj => by rw [hWc]; refine hsp1 _ ?_; have h0 : j < 1 := hj; omega) (fun j hj => by rw [hWf, hW1, World.frozen?_setCells]; exact hfz _) (fun v hv => by rw [List.mem_singleton.1 hv]; exact h1v)
  rw [← hW1] at hcp1
  go_enter Try.func73, Try.ntmps73
  go_wp2_with (simp only [hov])
  go_region_law (refine step_copy_runJ rfl _ _ 44 44 rfl _ _ (by simp [Act.eval, Act.put]) (by simp [Act.eval, Act.put]) (hcp1 _ _ _) ?_)
  go_wp2_with (at_builtin; refine wpList_copy_runJ _ rfl _ _ 44 44 rfl _ _ rfl rfl (hcp2 _ (fun _ => rfl) (fun _ => rfl) _ _) ?_)
  go_ret
  first | exact ⟨rfl, rfl⟩ | exact ⟨rfl, by rw [hW1]⟩
theorem shape_of {w : World} {g : Nat} {cur : Array Value} (h : w.heap[g]? = some (.cells cur 24 (0, 0))) : w.shape? g = some (24, cur.size) := by
  simp [World.shape?, h]
theorem frozen_of {w : World} {g : Nat} {cur : Array Value} {e : TypeId} (h : w.heap[g]? = some (.cells cur e (0, 0))) (j : Nat) : w.frozen? ⟨g, j, none⟩ = false := by
  simp [World.frozen?, h]
theorem ins_list {α : Type} (L cs : List α) (n i : Nat) (x : α) (hL : n ≤ L.length) (hcs : L.take (n - 1) = cs) (hi : i < n - 1) (M : List α) (hM : M = L.take (i + 1) ++ cs.drop i ++ L.drop (i + 1 + (cs.drop i).length)) : (M.take i ++ [x] ++ M.drop (i + [x].length)).take n = cs.take i ++ [x] ++ cs.drop i := by
  have a : (L.take (i + 1)).length = i + 1 := by simp; omega
  have b : M.take i = cs.take i := by
    rw [hM, List.append_assoc, List.take_append_of_le_length (by omega), List.take_take, ← hcs, List.take_take]
    congr 1; omega
  have c : M.drop (i + 1) = cs.drop i ++ L.drop (i + 1 + (cs.drop i).length) := by rw [hM, List.append_assoc, List.drop_left' a]
  rw [b, show i + [x].length = i + 1 from rfl, c, ← List.append_assoc, List.take_left' (by simp [← hcs]; omega)]
end Go.Proofs.Ytbeehklibkeecaa.F
end
section
/- Laid by a program of this claim's own. What the Go function does, as a Lean function, and the proof that the Go code does just that; Lean checks it. -/
namespace Go.Proofs.Ytbeehklibkeecaa.F
open Go.RowKit Go.Proofs.YtbeehklibkeecaaW.PrintWords Go.Proofs.YtbeehklibkeecaaW.PrintLast Go.Proofs.YtbeehklibkeecaaW.PrintMore
attribute [local go_sem] max2_int min2_int max_two min_two max_three min_three max_four min_four   -- for this text's walks alone
set_option linter.unusedVariables false
set_option linter.unusedSimpArgs false
/-! ### impl_shortest: function 45 -/
-- IMPORT Derived.Maps.OwnSet
-- IMPORT Derived.Maps.Views
/-- How a map's element reads that is kept as it stands. -/
def rawElem (v : Value) : Option (DataW Value × List MemPlace) := some (.held v, [])
/-- The map that holds these, the first one put in last. -/
def mapR : List (Int × Value) → DataW Value
  | [] => .map []
  | p :: r => (mapR r).put (.int .i64 p.1) (.held p.2)
theorem mapR_is : ∀ r, Go.Maps.IsMap (mapR r)
  | [] => ⟨[], rfl⟩
  | p :: r => by
    obtain ⟨es, he⟩ := mapR_is r
    unfold mapR
    rw [he]
    exact ⟨_, rfl⟩
theorem mapR_has (x : Int) : ∀ r, Go.Maps.has (mapR r) (.int .i64 x) = r.any (fun p => p.1 == x)
  | [] => rfl
  | p :: r => by
    unfold mapR
    by_cases h : p.1 = x
    · subst h
      rw [Go.Maps.has_put_same (mapR_is r) (show WideAt.IsKeyLit (.int .i64 p.1) from trivial)]
      simp
    · rw [Go.Maps.has_put_other (fun e => h (by cases e; rfl)), mapR_has x r]
      simp [h]
theorem mapR_at (x : Int) (v : Value) (z : DataW Value) : ∀ r, (r.map Prod.fst).Nodup → (x, v) ∈ r → (mapR r).atKey (.int .i64 x) z = .held v
  | [], _, h => absurd h (by simp)
  | p :: r, hn, h => by
    unfold mapR
    rw [List.map_cons, List.nodup_cons] at hn
    rcases List.mem_cons.1 h with h | h
    · subst h
      exact Go.Maps.atKey_put_same (mapR_is r) (show WideAt.IsKeyLit (.int .i64 x) from trivial) _ _
    · rw [Go.Maps.atKey_put_other (fun e => hn.1 (by cases e; exact List.mem_map.2 ⟨_, h, rfl⟩))]
      exact mapR_at x v z r hn.2 h
/-- A row of the call's own that begins anywhere in its block: what is left of a queue. -/
def QRow (w : World) (base e : Nat) (v : Value) (xs : List Value) : Prop :=
  ∃ g off cap cur, v = .slice (some ⟨g, off, none⟩) xs.length cap ∧ base ≤ g ∧ w.heap[g]? = some (.cells cur e (0, 0)) ∧ xs.length ≤ cap ∧ off + cap ≤ cur.size ∧ cap ≤ maxLen ∧ (cur.toList.drop off).take xs.length = xs
theorem QRow.kept {w w' : World} {base e : Nat} {v : Value} {xs : List Value} {row : Option Nat} (h : QRow w base e v xs) (hg : w.grownBy w' row) (hne : v.ownBlock ≠ row) : QRow w' base e v xs := by
  obtain ⟨g, off, cap, cur, rfl, hb, hh, h1⟩ := h
  exact ⟨g, off, cap, cur, rfl, hb, (hg.block g (Array.getElem?_eq_some_iff.1 hh).1 hne).trans hh, h1⟩
theorem QRow.below {w w' : World} {base e : Nat} {v : Value} {xs : List Value} (h : QRow w base e v xs) (hb : Below w.heap.size w w') : QRow w' base e v xs := by
  obtain ⟨g, off, cap, cur, rfl, h0, hh, h1⟩ := h
  exact ⟨g, off, cap, cur, rfl, h0, (hb.block g (Array.getElem?_eq_some_iff.1 hh).1).trans hh, h1⟩
theorem QRow.lt {w : World} {base e : Nat} {v : Value} {xs : List Value} (h : QRow w base e v xs) : ∃ g, v.ownBlock = some g ∧ base ≤ g ∧ g < w.heap.size := by
  obtain ⟨g, off, cap, cur, rfl, h0, hh, h1⟩ := h
  exact ⟨g, rfl, h0, (Array.getElem?_eq_some_iff.1 hh).1⟩
theorem QRow.cell {w : World} {base e : Nat} {v : Value} {xs : List Value} (h : QRow w base e v xs) : ∃ ad cap, v = .slice (some ad) xs.length cap ∧ ∀ j u, xs[j]? = some u → w.cell? (ad.add j) = some u := by
  obtain ⟨g, off, cap, cur, rfl, h0, hh, h1, h2, h3, h4⟩ := h
  refine ⟨_, _, rfl, fun j u hu => ?_⟩
  rw [Addr.add_lit, cell_of_row w g (off + j) cur e (0, 0) hh]
  rw [← h4, List.getElem?_take] at hu
  split at hu
  · rw [List.getElem?_drop] at hu
    simpa using hu
  · cases hu
theorem QRow.tail {P : Program} {w : World} {base e T : Nat} {i : TypeInfo} {v x : Value} {xs : List Value} (hT : P.underlying T = some (.slice e)) (hi : P.info? e = some i) (hs : i.size = 1) (h : QRow w base e v (x :: xs)) :
    ∃ v', (Instr.slice T v (some (.int .i64 1)) none none).run P w = .ok v' w ∧ QRow w base e v' xs ∧ v'.ownBlock = v.ownBlock := by
  obtain ⟨g, off, cap, cur, rfl, h0, hh, h1, h2, h3, h4⟩ := h
  have h1' : xs.length + 1 ≤ cap := h1
  have e1 : (cur.toList.drop off).take (xs.length + 1) = x :: xs := h4
  have e2 : (cur.toList.drop (off + 1)).take xs.length = xs := by
    have := congrArg (List.drop 1) e1
    rw [List.drop_take] at this
    simpa [List.drop_drop, Nat.add_comm] using this
  by_cases hc : cap = 1
  · subst hc
    obtain rfl : xs = [] := List.eq_nil_of_length_eq_zero (by omega)
    refine ⟨.slice (some ⟨g, off, none⟩) 0 0, ?_, ⟨g, off, 0, cur, rfl, h0, hh, by simp, by omega, by omega, by simp⟩, rfl⟩
    simp [Instr.slice, run_underlying hT, Instr.sliceBounds, Instr.sliceBound, asIntOf, sizeOf, typeInfo, hi, hs, Result.andThen]
  · refine ⟨.slice (some ⟨g, off + 1, none⟩) xs.length (cap - 1), ?_, ⟨g, off + 1, cap - 1, cur, rfl, h0, hh, by omega, by omega, by omega, e2⟩, rfl⟩
    have h9 : cap ≠ 1 := hc
    simp [Instr.slice, run_underlying hT, Instr.sliceBounds, sizeOf, typeInfo, hi, hs, h9, Addr.add_lit, Instr.sliceBound, asIntOf, Result.andThen, show (1 : Int) ≤ (xs.length : Int) + 1 by omega]
theorem QRow.append {P : Program} {w : World} {base e T ty : Nat} {i : TypeInfo} {z v u : Value} {xs : List Value} (hT : P.underlying T = some (.slice e)) (hi : P.info? e = some i) (hz : i.zero = some z) (hs : i.size = 1) (hby : i.bytes = 8) (hzs : z.cells.size = 1)
    (h : QRow w base e v xs) (hbase : base ≤ w.heap.size) (ad : Addr) (hu : w.cell? ad = some u) (h1c : u.oneCell' = true) (hlen : xs.length < 4096) :
    ∃ v' w', (Builtin.append_ #[T, T] ty #[v, .slice (some ad) 1 1]).run P w = .ok v' w' ∧ QRow w' base e v' (xs ++ [u]) ∧ w.grownBy w' v.ownBlock ∧ (v'.ownBlock = v.ownBlock ∨ ∃ g, v'.ownBlock = some g ∧ w.heap.size ≤ g) := by
  have hq := h
  obtain ⟨ad0, c0, ev, hcell⟩ := hq.cell
  obtain ⟨g, off, cap, cur, rfl, h0, hh, h1, h2, h3, h4⟩ := h
  simp only [Value.slice.injEq, Option.some.injEq] at ev
  obtain ⟨rfl, _, rfl⟩ := ev
  have hnews : ∀ j y, ([u] : List Value)[j]? = some y → w.cell? (ad.add j) = some y := by
    intro j y hy
    cases j with
    | zero => rw [Addr.add_zero']; simpa using hy ▸ hu
    | succ j => simp at hy
  by_cases hr : xs.length + 1 ≤ cap
  · have hrun := run_append_room_cells (P := P) w T ty e i hT hi g off xs.length cap ad 1 1 [u] (by simp [hs]) hnews (by simpa using h1c) hr
      (fun j hj => by
        obtain rfl : j = 0 := by simpa using hj
        rw [cell_of_row w g _ cur e (0, 0) hh, hs]
        rw [Array.getElem?_eq_getElem (by omega)]
        rfl)
      (fun j hj => by simp [World.frozen?, hh])
    refine ⟨_, _, hrun, ?_, ?_, .inl rfl⟩
    · refine ⟨g, off, cap, cur.setIfInBounds (off + xs.length) u, by simp, h0, ?_, by simpa using hr, by simpa using h2, h3, ?_⟩
      · simp [World.setCells, World.setCell, hh, hs, Array.getElem?_modify]
      · simp only [Array.toList_setIfInBounds, List.length_append, List.length_singleton]
        rw [List.drop_set]
        rw [if_neg (by omega), show off + xs.length - off = xs.length by omega]
        apply List.ext_getElem?
        intro j
        rw [List.getElem?_take, List.getElem?_set]
        have hcur : ∀ j, j < xs.length → (cur.toList.drop off)[j]? = xs[j]? := by
          intro j hj
          have := congrArg (fun l => l[j]?) h4
          simp only [List.getElem?_take, if_pos hj] at this
          exact this
        by_cases hj : j < xs.length
        · rw [if_pos (by omega), if_neg (by omega), hcur j hj, List.getElem?_append_left hj]
        · by_cases hj2 : j = xs.length
          · subst hj2
            rw [if_pos (by omega), if_pos rfl, if_pos (by simp; omega)]
            simp
          · rw [if_neg (by omega), List.getElem?_eq_none (by simp; omega)]
    · refine ⟨rfl, rfl, rfl, by simp [World.setCells, World.setCell], fun k hk hne => ?_⟩
      have hne' : g ≠ k := fun e_ => hne (by subst e_; rfl)
      simp [World.setCells, World.setCell, Array.getElem?_modify, hne']
  · obtain ⟨v', w', hrun, r1, r2⟩ := run_append_arg_grows (P := P) w T ty e i z 1 8 hT hi hz hs hby hzs (by omega) ⟨g, off, none⟩ xs.length cap xs (by omega) hcell ad 1 1 [u] (by simp) hnews (by omega) (by unfold maxLen; omega) (by omega)
    refine ⟨v', w', hrun, ?_, ⟨r2.os, r2.tape, r2.output, r2.size, fun k hk _ => r2.block k hk (by simp)⟩, ?_⟩
    · rcases r1.2 with ⟨_, hx⟩ | ⟨g', cap', cur', rfl, hg', hh', hn', hc', hsz', ht'⟩
      · omega
      · exact ⟨g', 0, cap', cur', by simp, Nat.le_trans hbase hg', hh', by simpa using hn', by omega, hc', by simpa using ht'⟩
    · rcases r1.2 with ⟨_, hx⟩ | ⟨g', cap', cur', rfl, hg', _⟩
      · omega
      · exact .inr ⟨g', rfl, hg'⟩
/-- What stands at a key of such a map, at the operation. -/
theorem wpList_lookup_raw {P : Program} (w : World) {ops : Array Oper} {rest : List Oper} {o : Oper} {a : Act} {Q : Exit → Act → World → Prop}
    (hg : o.guard = none) (m x : Operand) (t : TypeId) (hop : o.op = Op.lookup t m x false)
    (k e : TypeId) (K : Go.Maps.Keyed P k) (ht : P.underlying t = some (.map k e)) (hz : (zeroValue e).run P w = .ok (.slice none 0 0) w) (b n : Nat) (D : DataW Value)
    (hm : a.eval m = .map (some b)) (hown : w.ownsMap P k rawElem b n D) (key : Value) (kl : Lit) (hx : a.eval x = key) (hkey : keyOf P k key = some kl) (v : Value) (hat : ∀ z, D.atKey kl z = .held v)
    (hK : wpList P ops Q rest (a.put o.dst v) w) :
    wpList P ops Q (o :: rest) a w := by
  refine wpList_plain hg fun K' hK' => ?_
  obtain ⟨v', ps, hrun, hv⟩ := hown.lookup K ht hz (zd := .held (.slice none 0 0)) (zp := []) rfl hkey
  rw [hat] at hv
  have e1 : v' = v := by
    have := congrArg (Option.map Prod.fst) hv
    simpa [rawElem] using this
  subst e1
  unfold Oper.wp
  simp [execOp, hop, hm, hx, hrun, Result.andThen]
  exact hK' _ _ hK
theorem wpList_insert_raw {P : Program} (w : World) {ops : Array Oper} {rest : List Oper} {o : Oper} {a : Act} {Q : Exit → Act → World → Prop}
    (hg : o.guard = none) (m x v : Operand) (t : TypeId) (hop : o.op = Op.insert t m x v)
    (k e : TypeId) (K : Go.Maps.Keyed P k) (ht : P.underlying t = some (.map k e)) (b n : Nat) (D : DataW Value)
    (hm : a.eval m = .map (some b)) (hown : w.ownsMap P k rawElem b n D) (hn : n < maxLen) (key val : Value) (kl : Lit) (hx : a.eval x = key) (hv : a.eval v = val) (hkey : keyOf P k key = some kl)
    (hK : ∀ w', w'.ownsMap P k rawElem b (n + 1) (D.put kl (.held val)) → w.grownBy w' (some b) → wpList P ops Q rest (a.put o.dst undef) w') :
    wpList P ops Q (o :: rest) a w := by
  refine wpList_plain hg fun K' hK' => ?_
  obtain ⟨w', hrun, r1, r2⟩ := hown.update K ht hn hkey (val := val) (d := .held val) (ps := []) rfl
  unfold Oper.wp
  simp [execOp, hop, hm, hx, hv, hrun, Result.andThen]
  exact hK' _ _ (hK w' r1 r2)
/-- One number more at a queue's end, at the operation. -/
theorem wpList_append_q {P : Program} (w : World) {ops : Array Oper} {rest : List Oper} {o : Oper} {a : Act} {Q : Exit → Act → World → Prop} (hgd : o.guard = none) (s x : Operand) (T : TypeId)
    (ho : o.op = .call { callee := .builtin .append, args := #[s, x], argTypes := #[T, T] })
    {base e : Nat} {z : Value} (hT : P.underlying T = some (.slice e)) (hinfo : (P.info? e).map (fun i => (i.zero, i.size, i.bytes)) = some (some z, 1, 8)) (hzs : z.cells.size = 1)
    {v u : Value} {xs : List Value} (hs : a.eval s = v) (h : QRow w base e v xs) (hbase : base ≤ w.heap.size) (hx : a.eval x = .slice (some ⟨w.heap.size, 0, none⟩) 1 1) (h1c : u.oneCell' = true) (hlen : xs.length < 4096)
    (hK : ∀ v' w', QRow w' base e v' (xs ++ [u]) → w.grownBy w' v.ownBlock → (v'.ownBlock = v.ownBlock ∨ ∃ g, v'.ownBlock = some g ∧ w.heap.size ≤ g) → wpList P ops Q rest (a.put o.dst v') w') :
    wpList P ops Q (o :: rest) a (w.alloc (.cells #[u] e)) := by
  refine wpList_plain hgd fun K hK' => ?_
  cases hi : P.info? e with
  | none => rw [hi] at hinfo; cases hinfo
  | some i =>
    rw [hi] at hinfo
    simp only [Option.map_some, Option.some.injEq, Prod.mk.injEq] at hinfo
    obtain ⟨hz, hsz, hby⟩ := hinfo
    have hg0 := World.grownBy_alloc w (.cells #[u] e) none
    have h' : QRow (w.alloc (.cells #[u] e)) base e v xs := QRow.kept h hg0 (by obtain ⟨g, hg, _⟩ := QRow.lt h; rw [hg]; simp)
    have hu : (w.alloc (.cells #[u] e)).cell? ⟨w.heap.size, 0, none⟩ = some u := (cell_of_row _ _ 0 #[u] e (0, 0) (heap_alloc_new w _)).trans rfl
    obtain ⟨v', w', hrun, r1, r2, r3⟩ := QRow.append (P := P) (ty := o.type) hT hi hz hsz hby hzs h' (Nat.le_trans hbase hg0.size) _ hu h1c hlen
    unfold Oper.wp
    simp [execOp, ho, resolve, invoke, builtin, hs, hx, hrun, Result.andThen]
    refine hK' _ _ (hK v' w' r1 ⟨r2.os.trans hg0.os, r2.tape.trans hg0.tape, r2.output.trans hg0.output, Nat.le_trans hg0.size r2.size, fun k hk hne => (r2.block k (Nat.lt_of_lt_of_le hk hg0.size) hne).trans (hg0.block k hk (by simp))⟩ ?_)
    rcases r3 with r3 | ⟨g, r3, r4⟩
    · exact .inl r3
    · exact .inr ⟨g, r3, Nat.le_trans hg0.size r4⟩
/-- The places that were met and their lists, as the map's values hold them. -/
def MV (w : World) (base e : Nat) (ok : Nat → Prop) : List (Int × Value) → List (Int × List Int) → Prop
  | [], [] => True
  | p :: m, q :: l => p.1 = q.1 ∧ Kd.R (Kd.int .i64) e w base ok p.2 q.2 ∧ MV w base e ok m l
  | _, _ => False
theorem MV.fst {w : World} {base e : Nat} {ok : Nat → Prop} : ∀ {m : List (Int × Value)} {l : List (Int × List Int)}, MV w base e ok m l → m.map Prod.fst = l.map Prod.fst
  | [], [], _ => rfl
  | p :: m, q :: l, h => by rw [List.map_cons, List.map_cons, h.1, MV.fst h.2.2]
  | [], _ :: _, h => h.elim
  | _ :: _, [], h => h.elim
theorem MV.step {w w1 : World} {base e : Nat} {ok ok' : Nat → Prop} (hm : ∀ k, ok k → k < w.heap.size → w1.heap[k]? = w.heap[k]?) (hok : ∀ k, ok k → base ≤ k → k < w.heap.size → ok' k) :
    ∀ {m : List (Int × Value)} {l : List (Int × List Int)}, MV w base e ok m l → MV w1 base e ok' m l
  | [], [], _ => trivial
  | p :: m, q :: l, h => ⟨h.1, Kd.R_mono (Kd.R_step (Kd.R_bound h.2.1) (fun k hk hlt => hm k hk.1 hlt)) (fun k hk => hok k hk.1 hk.2.1 hk.2.2.1), MV.step hm hok h.2.2⟩
  | [], _ :: _, h => h.elim
  | _ :: _, [], h => h.elim
theorem MV.snoc {w : World} {base e : Nat} {ok : Nat → Prop} (p : Int × Value) (q : Int × List Int) (h1 : p.1 = q.1) (h2 : Kd.R (Kd.int .i64) e w base ok p.2 q.2) : ∀ {m : List (Int × Value)} {l : List (Int × List Int)}, MV w base e ok m l → MV w base e ok (m ++ [p]) (l ++ [q])
  | [], [], _ => ⟨h1, h2, trivial⟩
  | p' :: m, q' :: l, h => ⟨h.1, h.2.1, MV.snoc p q h1 h2 h.2.2⟩
  | [], _ :: _, h => h.elim
  | _ :: _, [], h => h.elim
theorem MV.mem {w : World} {base e : Nat} {ok : Nat → Prop} (q : Int × List Int) : ∀ {m : List (Int × Value)} {l : List (Int × List Int)}, MV w base e ok m l → q ∈ l → ∃ v, (q.1, v) ∈ m ∧ Kd.R (Kd.int .i64) e w base ok v q.2
  | [], [], _, hq => absurd hq (by simp)
  | p :: m, q' :: l, h, hq => by
    rcases List.mem_cons.1 hq with rfl | hq
    · exact ⟨p.2, by rw [← h.1]; simp, h.2.1⟩
    · obtain ⟨v, h1, h2⟩ := MV.mem q h.2.2 hq
      exact ⟨v, List.mem_cons_of_mem _ h1, h2⟩
  | [], _ :: _, h, _ => h.elim
  | _ :: _, [], h, _ => h.elim
/-- All that is told of the map, the queue, and what was met. -/
structure ShRel (P : Program) (k T e : Nat) (base B : Nat) (w : World) (qv : Value) (vis : List (Int × List Int)) (att : Nat) : Prop where
  map : ∃ mv : List (Int × Value), w.ownsMap P k rawElem B vis.length (mapR mv.reverse) ∧ MV w base e (fun i => some i ≠ qv.ownBlock ∧ i ≠ B) mv vis
  queue : QRow w base e qv ((vis.drop att).map fun p => Value.int .i64 p.1)
  qB : qv.ownBlock ≠ some B
  nodup : (vis.map Prod.fst).Nodup
  bB : base ≤ B
  len : vis.length ≤ 1000
theorem grow_trans {w w1 w2 : World} {row : Option Nat} (h1 : w.grownBy w1 none) (h2 : w1.grownBy w2 row) (hrow : ∀ k, row = some k → w.heap.size ≤ k) : w.grownBy w2 none :=
  ⟨h2.os.trans h1.os, h2.tape.trans h1.tape, h2.output.trans h1.output, Nat.le_trans h1.size h2.size, fun k hk _ => (h2.block k (Nat.lt_of_lt_of_le hk h1.size) (fun e => by have := hrow k e.symm; omega)).trans (h1.block k hk (by simp))⟩
section
variable {P : Program} {k T e base B : Nat} {w w' : World} {qv : Value} {vis : List (Int × List Int)} {att : Nat}
theorem ShRel.grow (h : ShRel P k T e base B w qv vis att) (hg : w.grownBy w' none) : ShRel P k T e base B w' qv vis att := by
  obtain ⟨mv, hown, hmv⟩ := h.map
  exact ⟨⟨mv, hown.kept hg (by simp), MV.step (fun i _ hlt => hg.block i hlt (by simp)) (fun i hi _ _ => hi) hmv⟩, QRow.kept h.queue hg (by obtain ⟨g, hg, _⟩ := QRow.lt h.queue; rw [hg]; simp), h.qB, h.nodup, h.bB, h.len⟩
theorem ShRel.below (h : ShRel P k T e base B w qv vis att) (hb : Below w.heap.size w w') : ShRel P k T e base B w' qv vis att := ShRel.grow h (grown_of_below hb none)
/-- A place that is new, its list, the queue's new end. -/
theorem ShRel.add {w3 w4 w5 w6 : World} {mv : List (Int × Value)} {y : Int} {l : List Int} {v3 v4 v6 : Value} (h : ShRel P k T e base B w qv vis att)
    (hmv : MV w base e (fun i => some i ≠ qv.ownBlock ∧ i ≠ B) mv vis) (hB : B < w.heap.size) (hbw : base ≤ w.heap.size)
    (hg3 : w.grownBy w3 none) (hg4 : w3.grownBy w4 v3.ownBlock) (h3 : ∀ i, v3.ownBlock = some i → w.heap.size ≤ i)
    (hR : Kd.R (Kd.int .i64) e w4 w.heap.size (fun _ => True) v4 l)
    (hg5 : w4.grownBy w5 (some B)) (hown5 : w5.ownsMap P k rawElem B (vis.length + 1) ((mapR mv.reverse).put (.int .i64 y) (.held v4)))
    (hq6 : QRow w6 base e v6 (((vis.drop att).map fun p => Value.int .i64 p.1) ++ [.int .i64 y])) (hg6 : w5.grownBy w6 qv.ownBlock) (hat6 : v6.ownBlock = qv.ownBlock ∨ ∃ g, v6.ownBlock = some g ∧ w5.heap.size ≤ g)
    (hny : vis.any (fun q => q.1 == y) = false) (hatt : att < vis.length) (hlen : vis.length < 1000) : ShRel P k T e base B w6 v6 (vis ++ [(y, l)]) att := by
  obtain ⟨gq, hgq, hbq, hltq⟩ := QRow.lt h.queue
  have hg4' : w.grownBy w4 none := grow_trans hg3 hg4 h3
  have hne6 : ∀ i, (some i ≠ qv.ownBlock ∧ i ≠ B) → i < w5.heap.size → (some i ≠ v6.ownBlock ∧ i ≠ B) := by
    intro i hi hlt
    refine ⟨fun e => ?_, hi.2⟩
    rcases hat6 with hat | ⟨g, hat, hge⟩
    · exact hi.1 (e.trans hat)
    · rw [hat] at e
      injection e with e
      omega
  have hs5 : w.heap.size ≤ w5.heap.size := Nat.le_trans hg4'.size hg5.size
  refine ⟨⟨mv ++ [(y, v4)], ?_, ?_⟩, ?_, ?_, ?_, h.bB, by simp; omega⟩
  · have h9 := hown5.kept hg6 (by intro e; exact h.qB e.symm)
    simpa [mapR] using h9
  · refine MV.snoc (y, v4) (y, l) rfl ?_ ?_
    · refine Kd.R_mono (Kd.R_step (Kd.R_bound (Kd.R_step (Kd.R_mono (Kd.R_bound hR) (ok' := fun i => w.heap.size ≤ i) (fun i hi => hi.2.1)) (fun i hi hlt => hg5.block i hlt (fun e => by injection e with e; omega)))) (w1 := w6) ?_) ?_ |> fun z => Kd.R_lower z hbw
      · intro i hi hlt
        exact hg6.block i hlt (fun e => by rw [hgq] at e; injection e with e; have := hi.1; omega)
      · intro i hi
        exact hne6 i ⟨fun e => by rw [hgq] at e; injection e with e; have := hi.1; omega, by have := hi.1; omega⟩ hi.2.2.1
    · have m4 : MV w4 base e (fun i => (some i ≠ qv.ownBlock ∧ i ≠ B) ∧ i < w.heap.size) mv vis := MV.step (fun i _ hlt => hg4'.block i hlt (by simp)) (fun i hi _ hlt => ⟨hi, hlt⟩) hmv
      have m5 : MV w5 base e (fun i => (some i ≠ qv.ownBlock ∧ i ≠ B) ∧ i < w5.heap.size) mv vis := MV.step (fun i hi hlt => hg5.block i hlt (fun e => by injection e with e; exact hi.1.2 e)) (fun i hi _ hlt => ⟨hi.1, Nat.lt_of_lt_of_le hlt hg5.size⟩) m4
      exact MV.step (fun i hi hlt => hg6.block i hlt hi.1.1) (fun i hi _ _ => hne6 i hi.1 hi.2) m5
  · rw [List.drop_append_of_le_length (by omega), List.map_append]
    exact hq6
  · intro e
    rcases hat6 with hat | ⟨g, hat, hge⟩
    · exact h.qB (hat ▸ e)
    · rw [hat] at e
      injection e with e
      omega
  · rw [List.map_append, List.nodup_append]
    refine ⟨h.nodup, by simp, fun a ha b hb hab => ?_⟩
    subst hab
    simp only [List.map_cons, List.map_nil, List.mem_singleton] at hb
    subst hb
    obtain ⟨q, hq, he⟩ := List.mem_map.1 ha
    have := List.any_eq_false.1 hny q hq
    simp [he] at this
theorem ShRel.next {v' : Value} {p : Int × List Int} {tl : List (Int × List Int)} (h : ShRel P k T e base B w qv vis att) (hd : vis.drop att = p :: tl) (hq : QRow w base e v' (tl.map fun p => Value.int .i64 p.1)) (hv : v'.ownBlock = qv.ownBlock) : ShRel P k T e base B w v' vis (att + 1) := by
  obtain ⟨mv, hown, hmv⟩ := h.map
  have e1 : vis.drop (att + 1) = tl := by rw [← List.drop_drop, hd]; rfl
  refine ⟨⟨mv, hown, by rw [hv]; exact hmv⟩, by rw [e1]; exact hq, by rw [hv]; exact h.qB, h.nodup, h.bB, h.len⟩
end
mutual
def impl_shortest.l0 (stp : Int → Int → Option Int) (go_ c : Int) : Nat → List (Int × List Int) → Nat → Option (List Int × Bool)
  | 0, _, _ => none
  | k + 1, vis, att => match vis.drop att with
    | [] => some ([], false)
    | p :: _ => if p.1 = go_ then (slices_Clone_Lint_int.f p.2).bind (fun r => some (r, true)) else impl_shortest.l1 stp go_ c k vis att p 0
def impl_shortest.l1 (stp : Int → Int → Option Int) (go_ c : Int) : Nat → List (Int × List Int) → Nat → Int × List Int → Int → Option (List Int × Bool)
  | 0, _, _, _, _ => none
  | k + 1, vis, att, p, ch => if ch < c then ((stp p.1 ch).bind fun y => if -1000 ≤ y ∧ y ≤ 1000 then (if vis.any (fun q => q.1 == y) = true then impl_shortest.l1 stp go_ c k vis att p (wrap64 (ch + 1)) else if vis.length < 1000 then ((slices_Clone_Lint_int.f p.2).bind fun cl => if cl.length < 4096 then impl_shortest.l1 stp go_ c k (vis ++ [(y, cl ++ [ch])]) att p (wrap64 (ch + 1)) else none) else none) else none) else impl_shortest.l0 stp go_ c k vis (att + 1)
end
def impl_shortest.f (stp : Int → Int → Option Int) (k : Nat) (a0 a1 a2 : Int) : Option (List Int × Bool) := if -1000 ≤ a0 ∧ a0 ≤ 1000 then impl_shortest.l0 stp a1 a2 k [(a0, [])] 0 else none
theorem wf_small {x : Int} (h : -1000 ≤ x ∧ x ≤ 1000) : (Lit.int .i64 x).wf = true := by
  have a : IntKind.i64.min = -9223372036854775808 := by kernel_rfl
  have b : IntKind.i64.max = 9223372036854775807 := by kernel_rfl
  simp only [Lit.wf, Bool.and_eq_true, decide_eq_true_eq]
  omega
theorem ShRel.start {P : Program} {k T e base B : Nat} {w1 : World} {a0 : Int} (hown : w1.ownsMap P k rawElem B 1 ((DataW.map []).put (.int .i64 a0) (.held (.slice none 0 0)))) (hbB : base ≤ B) (hbase : base ≤ w1.heap.size) :
    ShRel P k T e base B (w1.alloc (.cells #[.int .i64 a0] e)) (.slice (some ⟨w1.heap.size, 0, none⟩) 1 1) [(a0, [])] 0 :=
  ⟨⟨[(a0, .slice none 0 0)], hown.alloc _, rfl, Kd.R_nil _ _ _ _ _, trivial⟩, ⟨w1.heap.size, 0, 1, #[.int .i64 a0], rfl, hbase, heap_alloc_new w1 _, Nat.le_refl _, Nat.le_refl _, by unfold maxLen; omega, rfl⟩,
    by intro e_; injection e_ with e_; change w1.heap.size = B at e_; have := hown.lt; omega, by simp, hbB, by simp⟩
set_option maxHeartbeats 16000000 in
set_option maxRecDepth 100000 in
theorem impl_shortest.calls (stp : Int → Int → Option Int) (g : Nat) (lb : Array Value) (eg : ∀ args w, (callFunc g args).run Try.prog w = .ok (.enter g args) w) (k : Nat) (a0 a1 a2 : Int) (r1 : List Int) (r2 : Bool) (w : World)
    (hp : ∀ (W : World) (x y z : Int), Below w.heap.size w W → stp x y = some z → Calls Try.prog g (#[.int .i64 x, .int .i64 y] ++ lb) W fun e w' => e = .returned (.int .i64 z) ∧ Below W.heap.size W w')
    (h : impl_shortest.f stp k a0 a1 a2 = some (r1, r2)) :
    Calls Try.prog 45 #[.int .i64 a0, .int .i64 a1, .int .i64 a2, .func (.func g) #[] lb] w fun e w' => ∃ v0_ : Value, e = .returned (.tuple #[v0_, .bool r2]) ∧ Kd.R (Kd.int .i64) 3 w' w.heap.size (fun _ => True) v0_ r1 ∧ Below w.heap.size w w' := by
  unfold impl_shortest.f at h
  by_cases hw0 : -1000 ≤ a0 ∧ a0 ≤ 1000
  rotate_left
  · rw [if_neg hw0] at h
    cases h
  rw [if_pos hw0] at h
  have H0 := Aside0.mk h
  have HP := Aside0.mk hp
  have WF0 := Aside0.mk hw0
  have hzE : ∀ W : World, (zeroValue 24).run Try.prog W = .ok (.slice none 0 0) W := fun W => by kernel_rfl
  have ZE := Aside0.mk hzE
  have hmm := @run_makeMap Try.prog
  obtain ⟨iI, hiI, hzI, hsI, hbI⟩ := info_parts info3
  have II := Aside0.mk hiI
  have SI := Aside0.mk hsI
  clear h hp hw0 hzE hiI hzI hsI hbI
  go_enter Try.func45, Try.ntmps45
  go_wp2_with (refine wpList_insert_raw _ ?hg (.tmp 16) (.tmp 17) (.const (.slice none 0 0)) 76 ?hop 3 24 (Go.Maps.int_keyed Try.underlying3) Try.underlying76 w.heap.size 0 (.map []) ?hm ?hown (by unfold maxLen; omega) (.int .i64 a0) (.slice none 0 0) (.int .i64 a0) ?hx ?hv (Go.Maps.keyOf_int_mk Try.underlying3 (wf_small WF0.out)) ?_; (case hop => rfl); (case hg => rfl); (case hm => rfl); (case hx => rfl); (case hv => rfl); (case hown => exact World.ownsMap_made _ _ _ _); intro w1 hown1 hg1; have HB1 := Aside0.mk (pw_below_grown (below_alloc (Below.refl w.heap.size w) (.map #[] 0)) (some w.heap.size) (by simp) hg1 (fun k hk => by cases hk; exact Nat.le_refl _)); have OWN1 := Aside0.mk hown1; clear hown1 hg1)
  go_loopg [11] k (fun kq v11 w' => ∃ (vis : List (Int × List Int)) (att : Nat), Aside0 (impl_shortest.l0 stp a1 a2 kq vis att = some (r1, r2)) ∧ Aside0 (kq ≤ k) ∧ Aside0 (∀ q ∈ vis, -1000 ≤ q.1 ∧ q.1 ≤ 1000) ∧ Aside0 (ShRel Try.prog 3 24 3 w.heap.size w.heap.size w' v11 vis att) ∧ Aside0 (Below w.heap.size w w'))
  case atStart => exact ⟨[(a0, [])], 0, H0, ⟨Nat.le_refl _⟩, ⟨fun q hq => by obtain rfl := List.mem_singleton.1 hq; exact WF0.out⟩, ⟨ShRel.start OWN1.out (Nat.le_refl _) HB1.out.size⟩, ⟨below_alloc HB1.out _⟩⟩
  case round =>
    clear H0 HB1 OWN1
    obtain ⟨vis, att, HA, HK, HW, HS, HB⟩ := hrel
    cases gk with
    | zero => exact absurd HA.out (by simp [impl_shortest.l0])
    | succ k2 =>
      have H := HA.out
      clear HA
      have hq := HS.out.queue
      cases hd : vis.drop att with
      | nil =>
        simp only [impl_shortest.l0, hd, Option.some.injEq, Prod.mk.injEq] at H
        obtain ⟨rfl, rfl⟩ := H
        rw [hd] at hq
        obtain ⟨ad, cap, ev, _⟩ := QRow.cell hq
        simp only [List.map_nil, List.length_nil] at ev
        subst ev
        clear hq hd
        go_wp2
        go_ret2
        exact ⟨_, rfl, Kd.R_nil _ _ _ _ _, HB.out⟩
      | cons p tl =>
        obtain ⟨x, wy⟩ := p
        have hpm : (x, wy) ∈ vis := List.mem_of_mem_drop (by rw [hd]; simp)
        rw [hd] at hq
        obtain ⟨ad, cap, ev, hcell⟩ := QRow.cell hq
        have hc0 : wr.cell? ad = some (.int .i64 x) := by have h9 := hcell 0 (.int .i64 x) rfl; rw [Addr.add_zero'] at h9; exact h9
        obtain ⟨n, hn⟩ : ∃ n, n = (((x, wy) :: tl).map fun q => Value.int .i64 q.1).length := ⟨_, rfl⟩
        rw [← hn] at ev
        have hn0 : 0 < n := by rw [hn]; simp
        have n1 : decide (0 < (n : Int)) = true := decide_eq_true (by omega)
        have n2 : decide (0 < n) = true := decide_eq_true hn0
        have HPW := Aside0.mk (HW.out _ hpm)
        have HN := Aside0.mk hn
        subst ev
        have HD := Aside0.mk hd
        have HPM := Aside0.mk hpm
        replace hn0 := eq_true hn0
        simp only [impl_shortest.l0, hd] at H
        clear hq hcell hn hd hpm
        by_cases c1 : x = a1
        · subst c1
          rw [if_pos rfl] at H
          obtain ⟨r, hcl, H⟩ := Option.bind_eq_some_iff.mp H
          simp only [Option.some.injEq, Prod.mk.injEq] at H
          obtain ⟨rfl, rfl⟩ := H
          have HCL := Aside0.mk hcl
          have c1b : (x == x) = true := beq_self_eq_true x
          obtain ⟨mv, hown, hmv⟩ := HS.out.map
          obtain ⟨vx, hmem, hRx⟩ := MV.mem (x, wy) hmv HPM.out
          obtain ⟨A, cx, rfl⟩ := Kd.R_slice hRx
          have HAT := Aside0.mk (fun z => mapR_at x (.slice A wy.length cx) z mv.reverse (by rw [List.map_reverse]; exact (List.reverse_perm _).nodup_iff.2 (by rw [MV.fst hmv]; exact HS.out.nodup)) (List.mem_reverse.2 hmem))
          have HOWN := Aside0.mk hown
          have HRX := Aside0.mk hRx
          clear hcl hown hmv hmem hRx
          go_wp2_with (first
            | (at_lookup; refine wpList_lookup_raw _ rfl _ _ 76 rfl 3 24 (Go.Maps.int_keyed Try.underlying3) Try.underlying76 (ZE.out _) w.heap.size vis.length _ rfl HOWN.out _ _ rfl (Go.Maps.keyOf_int_mk Try.underlying3 (wf_small HPW.out)) _ HAT.out ?_)
            | (go_at_call 77; (with_reducible refine (slices_Clone_Lint_int.calls A cx wy r _ (Kd.R_reads' HRX.out).2.2 (Kd.R_reads' HRX.out).2.1 HCL.out).mono ?_); rintro e w2 ⟨v2, rfl, ho, hb⟩; have HO2 := Aside0.mk (Kd.R_lower ho (below_size HB.out)); have HB2 := Aside0.mk (below_step HB.out hb); clear ho hb))
          go_ret2
          exact ⟨_, rfl, HO2.out, HB2.out⟩
        · rw [if_neg c1] at H
          have c1b : (x == a1) = false := beq_eq_false_iff_ne.mpr c1
          have H' := Aside0.mk H
          clear c1 H
          go_wp2
          go_loopg [11, 12] k2 (fun kq v11 v12 w' => ∃ (vs : List (Int × List Int)) (ch : Int), v12 = .int .i64 ch ∧ Aside0 (impl_shortest.l1 stp a1 a2 kq vs att (x, wy) ch = some (r1, r2)) ∧ Aside0 (kq ≤ k2) ∧ Aside0 (∃ tl, vs.drop att = (x, wy) :: tl) ∧ Aside0 (∀ q ∈ vs, -1000 ≤ q.1 ∧ q.1 ≤ 1000) ∧ Aside0 (ShRel Try.prog 3 24 3 w.heap.size w.heap.size w' v11 vs att) ∧ Aside0 (Below w.heap.size w w'))
          case atStart => exact ⟨vis, 0, rfl, H', ⟨Nat.le_refl _⟩, ⟨tl, HD.out⟩, HW, HS, HB⟩
          case round =>
            clear H' HS HB HW HD HN HPM hc0 n1 n2 hn0
            obtain ⟨vs, ch, rfl, HA, HK3, HD, HW, HS, HB⟩ := hrel
            cases gk with
            | zero => exact absurd HA.out (by simp [impl_shortest.l1])
            | succ k3 =>
              have H := HA.out
              clear HA
              simp only [impl_shortest.l1] at H
              obtain ⟨tl2, hd⟩ := HD.out
              have hq := HS.out.queue
              have hpm : (x, wy) ∈ vs := List.mem_of_mem_drop (by rw [hd]; simp)
              have hatt : att < vs.length := by
                rcases Nat.lt_or_ge att vs.length with h9 | h9
                · exact h9
                · rw [List.drop_eq_nil_of_le h9] at hd; cases hd
              rw [hd] at hq
              by_cases c2 : ch < a2
              · rw [if_pos c2] at H
                have c2b : decide (ch < a2) = true := decide_eq_true c2
                obtain ⟨y, hy, H⟩ := Option.bind_eq_some_iff.mp H
                by_cases c3 : -1000 ≤ y ∧ y ≤ 1000
                rotate_left
                · rw [if_neg c3] at H
                  cases H
                rw [if_pos c3] at H
                obtain ⟨ad2, cap2, ev, hcell⟩ := QRow.cell hq
                have hc0 : wr.cell? ad2 = some (.int .i64 x) := by have h9 := hcell 0 (.int .i64 x) rfl; rw [Addr.add_zero'] at h9; exact h9
                obtain ⟨n, hn⟩ : ∃ n, n = (((x, wy) :: tl2).map fun q => Value.int .i64 q.1).length := ⟨_, rfl⟩
                rw [← hn] at ev
                have hn0 : 0 < n := by rw [hn]; simp
                have n1 : decide (0 < (n : Int)) = true := decide_eq_true (by omega)
                have n2 : decide (0 < n) = true := decide_eq_true hn0
                subst ev
                obtain ⟨mv, hown, hmv⟩ := HS.out.map
                obtain ⟨vx, hmem, hRx⟩ := MV.mem (x, wy) hmv hpm
                obtain ⟨A, cx, rfl⟩ := Kd.R_slice hRx
                have HAT := Aside0.mk (fun z => mapR_at x (.slice A wy.length cx) z mv.reverse (by rw [List.map_reverse]; exact (List.reverse_perm _).nodup_iff.2 (by rw [MV.fst hmv]; exact HS.out.nodup)) (List.mem_reverse.2 hmem))
                have HHAS := Aside0.mk (show Go.Maps.has (mapR mv.reverse) (.int .i64 y) = vs.any (fun q => q.1 == y) by rw [mapR_has, List.any_reverse]; have h9 := congrArg (fun l => l.any (fun z => z == y)) (MV.fst hmv); simp only [List.any_map] at h9; exact h9)
                have HOWN := Aside0.mk hown
                have HMV := Aside0.mk hmv
                have HRX := Aside0.mk hRx
                have HSTP := Aside0.mk hy
                have HYW := Aside0.mk c3
                have HD2 := Aside0.mk hd
                have HATT := Aside0.mk hatt
                have HQ := Aside0.mk hq
                have HN := Aside0.mk hn
                have HPS := Aside0.mk (grown_of_below (Below.refl wr.heap.size wr) none)
                replace hn0 := eq_true hn0
                clear hy c3 hq hcell hn hd hpm hatt hown hmv hmem hRx c2
                cases hm : vs.any (fun q => q.1 == y) with
                | true =>
                  rw [hm, if_pos rfl] at H
                  have H' := Aside0.mk H
                  have HM := Aside0.mk hm
                  clear H hm
                  go_wp2_with (first
                    | (go_at_fn g; refine (HP.out wr x ch y HB.out HSTP.out).mono ?_; rintro e w2 ⟨rfl, hb⟩; have S2 := Aside0.mk (ShRel.below HS.out hb); have G2 := Aside0.mk (grown_of_below hb none); have OWN2 := Aside0.mk (HOWN.out.kept G2.out (by simp)); have HB2 := Aside0.mk (below_step HB.out hb); clear hb hc0)
                    | (at_lookup; refine wpList_lookup_own_ok _ rfl _ _ 76 rfl 3 24 (Go.Maps.int_keyed Try.underlying3) Try.underlying76 rawElem (ZE.out _) (.held (.slice none 0 0)) [] rfl w.heap.size vs.length _ rfl OWN2.out _ _ rfl (Go.Maps.keyOf_int_mk Try.underlying3 (wf_small HYW.out)) ?_; intro v0 ps0 hv0; rw [HHAS.out, HM.out]; clear hv0))
                  go_roundg k3
                  case measure => have := HK.out; have := HK3.out; omega
                  case rel => exact ⟨vs, wrap64 (ch + 1), rfl, H', ⟨by have := HK.out; have := HK3.out; omega⟩, ⟨_, HD2.out⟩, HW, S2, HB2⟩
                | false =>
                  rw [hm, if_neg (by decide)] at H
                  by_cases c4 : vs.length < 1000
                  rotate_left
                  · rw [if_neg c4] at H
                    cases H
                  rw [if_pos c4] at H
                  obtain ⟨cl, hcl, H⟩ := Option.bind_eq_some_iff.mp H
                  by_cases c5 : cl.length < 4096
                  rotate_left
                  · rw [if_neg c5] at H
                    cases H
                  rw [if_pos c5] at H
                  have H' := Aside0.mk H
                  have HM := Aside0.mk hm
                  have HCL := Aside0.mk hcl
                  have C4 := Aside0.mk c4
                  have C5 := Aside0.mk c5
                  have HXW := Aside0.mk (HW.out _ (List.mem_of_mem_drop (show (x, wy) ∈ vs.drop att by rw [HD2.out]; simp)))
                  clear H hm hcl c4 c5
                  go_wp2_with (first
                    | (go_at_fn g; refine (HP.out wr x ch y HB.out HSTP.out).mono ?_; rintro e w2 ⟨rfl, hb⟩; have S2 := Aside0.mk (ShRel.below HS.out hb); have G2 := Aside0.mk (grown_of_below hb none); have OWN2 := Aside0.mk (HOWN.out.kept G2.out (by simp)); have HB2 := Aside0.mk (below_step HB.out hb); have MV2 := Aside0.mk (MV.step (fun i _ hlt => G2.out.block i hlt (by simp)) (fun i hi _ _ => hi) HMV.out); have RX2 := Aside0.mk (Kd.R_below HRX.out hb); have hc2 : w2.cell? ad2 = some (.int .i64 x) := pw_cell_below hb hc0; clear hb hc0)
                    | (at_lookup; refine wpList_lookup_own_ok _ rfl _ _ 76 rfl 3 24 (Go.Maps.int_keyed Try.underlying3) Try.underlying76 rawElem (ZE.out _) (.held (.slice none 0 0)) [] rfl w.heap.size vs.length _ rfl OWN2.out _ _ rfl (Go.Maps.keyOf_int_mk Try.underlying3 (wf_small HYW.out)) ?_; intro v0 ps0 hv0; rw [HHAS.out, HM.out]; clear hv0)
                    | (at_lookup; refine wpList_lookup_raw _ rfl _ _ 76 rfl 3 24 (Go.Maps.int_keyed Try.underlying3) Try.underlying76 (ZE.out _) w.heap.size vs.length _ rfl OWN2.out _ _ rfl (Go.Maps.keyOf_int_mk Try.underlying3 (wf_small HXW.out)) _ HAT.out ?_)
                    | (go_at_call 77; (with_reducible refine (slices_Clone_Lint_int.calls A cx wy cl _ (Kd.R_reads' RX2.out).2.2 (Kd.R_reads' RX2.out).2.1 HCL.out).mono ?_); rintro e w3 ⟨v3, rfl, ho, hb⟩; have HO3 := Aside0.mk ho; have G3 := Aside0.mk (grown_of_below hb none); have OWN3 := Aside0.mk (OWN2.out.kept G3.out (by simp)); have HB3 := Aside0.mk (below_step HB2.out hb); have B23 := Aside0.mk hb; clear ho hb hc2)
                    | (at_builtin; refine Kd.R_append (Kd.int .i64) (w0 := w2) w2.heap.size rfl (.tmp 61) (.tmp 63) 24 3 (.int .i64 0) 8 rfl Try.underlying24 info3 rfl (by decide) (by omega) v3 cl ch [.int .i64 ch] (fun _ => True) (fun _ => False) rfl rfl ?aP (fun _ hk => hk.elim) ?aF ?aO ?aB ?aS ?aL ?_; (case aP => exact rfl); (case aB => exact B23.out); (case aF => exact fun _ _ => trivial); (case aO => exact HO3.out); (case aS => exact B23.out.size); (case aL => have h9 := C5.out; omega); intro v4 w4 hr4 hb4 hg4 hat4; have HR4 := Aside0.mk hr4; have HG4 := Aside0.mk hg4; have OWN4 := Aside0.mk (OWN3.out.kept hg4 (fun e_ => by have h8 := Kd.R_base HO3.out _ e_.symm; have h9 := OWN2.out.lt; omega)); have HB4 := Aside0.mk (pw_below_grown HB3.out _ (below_size HB3.out) hg4 (fun i hi => Nat.le_trans (below_size HB2.out) (Kd.R_base HO3.out i hi))); clear hr4 hb4 hg4 hat4)
                    | (at_mapUpdate; refine wpList_mapUpdate_own _ rfl _ _ _ 76 rfl 3 24 (Go.Maps.int_keyed Try.underlying3) Try.underlying76 rawElem w.heap.size vs.length _ rfl OWN4.out (by have h9 := C4.out; unfold maxLen; omega) _ _ _ rfl rfl (Go.Maps.keyOf_int_mk Try.underlying3 (wf_small HYW.out)) (.held v4) [] rfl ?_; intro w5 hown5 hg5; have OWN5 := Aside0.mk hown5; have HG5 := Aside0.mk hg5; have HB5 := Aside0.mk (pw_below_grown HB4.out _ (below_size HB4.out) hg5 (fun i hi => by cases hi; exact Nat.le_refl _)); have Q5 := Aside0.mk (QRow.kept (QRow.kept (QRow.below (QRow.below HQ.out (by first | exact (show Below wr.heap.size wr w2 from ⟨G2.out.os, G2.out.tape, G2.out.output, G2.out.size, fun i hi => G2.out.block i hi (by simp)⟩))) B23.out) HG4.out (fun e_ => by obtain ⟨gq, hgq, _, hltq⟩ := QRow.lt S2.out.queue; rw [hgq] at e_; have h8 := Kd.R_base HO3.out _ e_.symm; omega)) hg5 S2.out.qB); clear hown5 hg5)
                    | (at_builtin; refine wpList_append_q _ rfl (.tmp 65) (.tmp 67) 24 rfl Try.underlying24 info3 rfl rfl (v := .slice (some ad2) n cap2) (u := .int .i64 y) Q5.out (below_size HB5.out) rfl rfl (by have h9 := C4.out; have h8 := congrArg List.length HD2.out; rw [List.length_drop] at h8; simp at h8 ⊢; omega) ?_; intro v6 w6 hq6 hg6 hat6; have Q6 := Aside0.mk hq6; have HG6 := Aside0.mk hg6; have HA6 := Aside0.mk hat6; have HB6 := Aside0.mk (pw_below_grown HB5.out _ (below_size HB5.out) hg6 (fun i hi => by obtain ⟨gq, hgq, hbq, _⟩ := QRow.lt S2.out.queue; rw [hgq] at hi; injection hi with hi; omega)); clear hq6 hg6 hat6))
                  go_roundg k3
                  case measure => have := HK.out; have := HK3.out; omega
                  case rel =>
                    refine ⟨vs ++ [(y, cl ++ [ch])], wrap64 (ch + 1), rfl, H', ⟨by have := HK.out; have := HK3.out; omega⟩, ⟨tl2 ++ [(y, cl ++ [ch])], by rw [List.drop_append_of_le_length (by have := HATT.out; omega), HD2.out]; rfl⟩, ⟨fun q hq => ?_⟩, ⟨ShRel.add S2.out MV2.out OWN2.out.lt (below_size HB2.out) G3.out HG4.out (Kd.R_base HO3.out) HR4.out HG5.out OWN5.out (by rw [HD2.out]; exact Q6.out) HG6.out HA6.out HM.out HATT.out C4.out⟩, HB6⟩
                    rcases List.mem_append.1 hq with hq | hq
                    · exact HW.out q hq
                    · obtain rfl := List.mem_singleton.1 hq
                      exact HYW.out
              · rw [if_neg c2] at H
                have c2b : decide (ch < a2) = false := decide_eq_false c2
                obtain ⟨v', hrun, hq', hv'⟩ := QRow.tail (P := Try.prog) Try.underlying24 II.out SI.out hq
                have HQ' := Aside0.mk hq'
                have HV' := Aside0.mk hv'
                have HD2 := Aside0.mk hd
                have H' := Aside0.mk H
                clear hq hq' hv' hd H c2 hpm hatt
                go_wp2
                go_roundg k3
                case measure => have := HK.out; have := HK3.out; omega
                case rel => exact ⟨vs, att + 1, H', ⟨by have := HK.out; have := HK3.out; omega⟩, HW, ⟨ShRel.next HS.out HD2.out HQ'.out HV'.out⟩, HB⟩
end Go.Proofs.Ytbeehklibkeecaa.F
end
section
/- Laid by a program of this claim's own. What the Go function does, as a Lean function, and the proof that the Go code does just that; Lean checks it. -/
namespace Go.Proofs.Ytbeehklibkeecaa.F
open Go.RowKit Go.Proofs.YtbeehklibkeecaaW.PrintWords Go.Proofs.YtbeehklibkeecaaW.PrintLast Go.Proofs.YtbeehklibkeecaaW.PrintMore
attribute [local go_sem] max2_int min2_int max_two min_two max_three min_three max_four min_four   -- for this text's walks alone
set_option linter.unusedVariables false
set_option linter.unusedSimpArgs false
/-! ### impl_isPaired: function 70 -/
def impl_isPaired.f (a0 : Int) : Option (Bool) := if a0 ≥ 2 then (if a0 ≤ 12 then (some ((Int.tmod a0 2) == 0)) else (some false)) else (some false)
set_option maxHeartbeats 8000000 in
set_option maxRecDepth 100000 in
theorem impl_isPaired.calls (a0 : Int) (r : Bool) (w : World) (h : impl_isPaired.f a0 = some r) :
    Calls Try.prog 70 #[.int .i64 a0] w fun e w' => e = .returned (.bool r) ∧ Drawn0 w w' := by
  have H : (if a0 ≥ 2 then (if a0 ≤ 12 then (some ((Int.tmod a0 2) == 0)) else (some false)) else (some false)) = some r := h
  clear h
  by_cases c2 : a0 ≥ 2
  · rw [if_pos c2] at H
    have c2b0 : decide (2 ≤ a0) = true := decide_eq_true c2
    clear c2
    by_cases c3 : a0 ≤ 12
    · rw [if_pos c3] at H
      have c3b0 : decide (a0 ≤ 12) = true := decide_eq_true c3
      clear c3
      obtain rfl := Option.some.inj H
      go_enter Try.func70, Try.ntmps70
      go_wp2
      go_ret
      exact ⟨by first | rfl | (simp; done) | (simp [*]; done), by repeat (first | exact Drawn0.refl _ | apply Drawn0.step)⟩
    · rw [if_neg c3] at H
      have c3b0 : decide (a0 ≤ 12) = false := decide_eq_false c3
      clear c3
      obtain rfl := Option.some.inj H
      go_enter Try.func70, Try.ntmps70
      go_wp2
      go_ret
      exact ⟨by first | rfl | (simp; done) | (simp [*]; done), by repeat (first | exact Drawn0.refl _ | apply Drawn0.step)⟩
  · rw [if_neg c2] at H
    have c2b0 : decide (2 ≤ a0) = false := decide_eq_false c2
    clear c2
    obtain rfl := Option.some.inj H
    go_enter Try.func70, Try.ntmps70
    go_wp2
    go_ret
    exact ⟨by first | rfl | (simp; done) | (simp [*]; done), by repeat (first | exact Drawn0.refl _ | apply Drawn0.step)⟩
end Go.Proofs.Ytbeehklibkeecaa.F
end
section
/- Laid by a program of this claim's own. What the Go function does, as a Lean function, and the proof that the Go code does just that; Lean checks it. -/
namespace Go.Proofs.Ytbeehklibkeecaa.F
open Go.RowKit Go.Proofs.YtbeehklibkeecaaW.PrintWords Go.Proofs.YtbeehklibkeecaaW.PrintLast Go.Proofs.YtbeehklibkeecaaW.PrintMore
attribute [local go_sem] max2_int min2_int max_two min_two max_three min_three max_four min_four   -- for this text's walks alone
set_option linter.unusedVariables false
set_option linter.unusedSimpArgs false
/-! ### cmp_isNaN_int: function 115 -/
def cmp_isNaN_int.f (a0 : Int) : Option (Bool) := some (a0 != a0)
set_option maxHeartbeats 8000000 in
set_option maxRecDepth 100000 in
theorem cmp_isNaN_int.calls (a0 : Int) (r : Bool) (w : World) (h : cmp_isNaN_int.f a0 = some r) :
    Calls Try.prog 115 #[.int .i64 a0] w fun e w' => e = .returned (.bool r) ∧ Drawn0 w w' := by
  have H : (some (a0 != a0)) = some r := h
  clear h
  obtain rfl := Option.some.inj H
  go_enter Try.func115, Try.ntmps115
  go_wp2
  go_ret
  exact ⟨by first | rfl | (simp; done) | (simp [*]; done), by repeat (first | exact Drawn0.refl _ | apply Drawn0.step)⟩
end Go.Proofs.Ytbeehklibkeecaa.F
end
section
/- Laid by a program of this claim's own. What the Go function does, as a Lean function, and the proof that the Go code does just that; Lean checks it. -/
namespace Go.Proofs.Ytbeehklibkeecaa.F
open Go.RowKit Go.Proofs.YtbeehklibkeecaaW.PrintWords Go.Proofs.YtbeehklibkeecaaW.PrintLast Go.Proofs.YtbeehklibkeecaaW.PrintMore
attribute [local go_sem] max2_int min2_int max_two min_two max_three min_three max_four min_four   -- for this text's walks alone
set_option linter.unusedVariables false
set_option linter.unusedSimpArgs false
/-! ### cmp_Compare_int: function 101 -/
def cmp_Compare_int.f (a0 : Int) (a1 : Int) : Option (Int) := (cmp_isNaN_int.f a0).bind fun t759 => ((cmp_isNaN_int.f a1).bind fun t760 => (if t759 = true then (if t760 = true then (some 0) else (some (-1))) else (if t760 = true then (some 1) else (if a0 < a1 then (some (-1)) else (if a0 > a1 then (some 1) else (some 0))))))
set_option maxHeartbeats 8000000 in
set_option maxRecDepth 100000 in
theorem cmp_Compare_int.calls (a0 : Int) (a1 : Int) (r : Int) (w : World) (h : cmp_Compare_int.f a0 a1 = some r) :
    Calls Try.prog 101 #[.int .i64 a0, .int .i64 a1] w fun e w' => e = .returned (.int .i64 r) ∧ Drawn0 w w' := by
  have H : ((cmp_isNaN_int.f a0).bind fun t759 => ((cmp_isNaN_int.f a1).bind fun t760 => (if t759 = true then (if t760 = true then (some 0) else (some (-1))) else (if t760 = true then (some 1) else (if a0 < a1 then (some (-1)) else (if a0 > a1 then (some 1) else (some 0))))))) = some r := h
  clear h
  replace H := Option.bind_eq_some_iff.mp H
  obtain ⟨t759, A30, H⟩ := H
  replace H : ((cmp_isNaN_int.f a1).bind fun t760 => (if t759 = true then (if t760 = true then (some 0) else (some (-1))) else (if t760 = true then (some 1) else (if a0 < a1 then (some (-1)) else (if a0 > a1 then (some 1) else (some 0)))))) = some r := H
  have A3 := Aside0.mk A30
  clear A30
  replace H := Option.bind_eq_some_iff.mp H
  obtain ⟨t760, A40, H⟩ := H
  replace H : (if t759 = true then (if t760 = true then (some 0) else (some (-1))) else (if t760 = true then (some 1) else (if a0 < a1 then (some (-1)) else (if a0 > a1 then (some 1) else (some 0))))) = some r := H
  have A4 := Aside0.mk A40
  clear A40
  by_cases c5 : t759 = true
  · subst c5
    have H1 : (if t760 = true then (some 0) else (some (-1))) = some r := by rw [if_pos rfl] at H; exact H
    clear H
    have H := H1
    clear H1
    by_cases c6 : t760 = true
    · subst c6
      have H1 : (some 0) = some r := by rw [if_pos rfl] at H; exact H
      clear H
      have H := H1
      clear H1
      obtain rfl := Option.some.inj H
      go_enter Try.func101, Try.ntmps101
      go_wp2_with (first | ((with_reducible refine gate_callee (f := 115) rfl ?_); refine goesL_ (some 8) rfl rfl Try.func115 (by kernel_rfl) rfl #[.int .i64 a0] rfl (by (try simp only [List.map_toArray, List.map_cons, List.map_nil]); first | done | rfl | (simp only [List.length_drop, List.length_take]; rfl)) ?_; (with_reducible refine (cmp_isNaN_int.calls a0 true _ A3.out).mono ?_); rintro e w' ⟨rfl, ⟨nd, rfl⟩⟩; refine ⟨_, rfl, ?_⟩) | ((with_reducible refine gate_callee (f := 115) rfl ?_); refine goesL_ (some 10) rfl rfl Try.func115 (by kernel_rfl) rfl #[.int .i64 a1] rfl (by (try simp only [List.map_toArray, List.map_cons, List.map_nil]); first | done | rfl | (simp only [List.length_drop, List.length_take]; rfl)) ?_; (with_reducible refine (cmp_isNaN_int.calls a1 true _ A4.out).mono ?_); rintro e w' ⟨rfl, ⟨nd, rfl⟩⟩; refine ⟨_, rfl, ?_⟩))
      go_ret
      exact ⟨by first | rfl | (simp; done) | (simp [*]; done), by repeat (first | exact Drawn0.refl _ | apply Drawn0.step)⟩
    · replace c6 := Bool.eq_false_iff.mpr c6
      subst c6
      have H1 : (some (-1)) = some r := by rw [if_neg (show ¬ (false = true) by decide)] at H; exact H
      clear H
      have H := H1
      clear H1
      obtain rfl := Option.some.inj H
      go_enter Try.func101, Try.ntmps101
      go_wp2_with (first | ((with_reducible refine gate_callee (f := 115) rfl ?_); refine goesL_ (some 8) rfl rfl Try.func115 (by kernel_rfl) rfl #[.int .i64 a0] rfl (by (try simp only [List.map_toArray, List.map_cons, List.map_nil]); first | done | rfl | (simp only [List.length_drop, List.length_take]; rfl)) ?_; (with_reducible refine (cmp_isNaN_int.calls a0 true _ A3.out).mono ?_); rintro e w' ⟨rfl, ⟨nd, rfl⟩⟩; refine ⟨_, rfl, ?_⟩) | ((with_reducible refine gate_callee (f := 115) rfl ?_); refine goesL_ (some 10) rfl rfl Try.func115 (by kernel_rfl) rfl #[.int .i64 a1] rfl (by (try simp only [List.map_toArray, List.map_cons, List.map_nil]); first | done | rfl | (simp only [List.length_drop, List.length_take]; rfl)) ?_; (with_reducible refine (cmp_isNaN_int.calls a1 false _ A4.out).mono ?_); rintro e w' ⟨rfl, ⟨nd, rfl⟩⟩; refine ⟨_, rfl, ?_⟩))
      go_ret
      exact ⟨by first | rfl | (simp; done) | (simp [*]; done), by repeat (first | exact Drawn0.refl _ | apply Drawn0.step)⟩
  · replace c5 := Bool.eq_false_iff.mpr c5
    subst c5
    have H1 : (if t760 = true then (some 1) else (if a0 < a1 then (some (-1)) else (if a0 > a1 then (some 1) else (some 0)))) = some r := by rw [if_neg (show ¬ (false = true) by decide)] at H; exact H
    clear H
    have H := H1
    clear H1
    by_cases c7 : t760 = true
    · subst c7
      have H1 : (some 1) = some r := by rw [if_pos rfl] at H; exact H
      clear H
      have H := H1
      clear H1
      obtain rfl := Option.some.inj H
      go_enter Try.func101, Try.ntmps101
      go_wp2_with (first | ((with_reducible refine gate_callee (f := 115) rfl ?_); refine goesL_ (some 8) rfl rfl Try.func115 (by kernel_rfl) rfl #[.int .i64 a0] rfl (by (try simp only [List.map_toArray, List.map_cons, List.map_nil]); first | done | rfl | (simp only [List.length_drop, List.length_take]; rfl)) ?_; (with_reducible refine (cmp_isNaN_int.calls a0 false _ A3.out).mono ?_); rintro e w' ⟨rfl, ⟨nd, rfl⟩⟩; refine ⟨_, rfl, ?_⟩) | ((with_reducible refine gate_callee (f := 115) rfl ?_); refine goesL_ (some 10) rfl rfl Try.func115 (by kernel_rfl) rfl #[.int .i64 a1] rfl (by (try simp only [List.map_toArray, List.map_cons, List.map_nil]); first | done | rfl | (simp only [List.length_drop, List.length_take]; rfl)) ?_; (with_reducible refine (cmp_isNaN_int.calls a1 true _ A4.out).mono ?_); rintro e w' ⟨rfl, ⟨nd, rfl⟩⟩; refine ⟨_, rfl, ?_⟩))
      go_ret
      exact ⟨by first | rfl | (simp; done) | (simp [*]; done), by repeat (first | exact Drawn0.refl _ | apply Drawn0.step)⟩
    · replace c7 := Bool.eq_false_iff.mpr c7
      subst c7
      have H1 : (if a0 < a1 then (some (-1)) else (if a0 > a1 then (some 1) else (some 0))) = some r := by rw [if_neg (show ¬ (false = true) by decide)] at H; exact H
      clear H
      have H := H1
      clear H1
      by_cases c8 : a0 < a1
      · rw [if_pos c8] at H
        have c8b0 : decide (a0 < a1) = true := decide_eq_true c8
        clear c8
        obtain rfl := Option.some.inj H
        go_enter Try.func101, Try.ntmps101
        go_wp2_with (first | ((with_reducible refine gate_callee (f := 115) rfl ?_); refine goesL_ (some 8) rfl rfl Try.func115 (by kernel_rfl) rfl #[.int .i64 a0] rfl (by (try simp only [List.map_toArray, List.map_cons, List.map_nil]); first | done | rfl | (simp only [List.length_drop, List.length_take]; rfl)) ?_; (with_reducible refine (cmp_isNaN_int.calls a0 false _ A3.out).mono ?_); rintro e w' ⟨rfl, ⟨nd, rfl⟩⟩; refine ⟨_, rfl, ?_⟩) | ((with_reducible refine gate_callee (f := 115) rfl ?_); refine goesL_ (some 10) rfl rfl Try.func115 (by kernel_rfl) rfl #[.int .i64 a1] rfl (by (try simp only [List.map_toArray, List.map_cons, List.map_nil]); first | done | rfl | (simp only [List.length_drop, List.length_take]; rfl)) ?_; (with_reducible refine (cmp_isNaN_int.calls a1 false _ A4.out).mono ?_); rintro e w' ⟨rfl, ⟨nd, rfl⟩⟩; refine ⟨_, rfl, ?_⟩))
        go_ret
        exact ⟨by first | rfl | (simp; done) | (simp [*]; done), by repeat (first | exact Drawn0.refl _ | apply Drawn0.step)⟩
      · rw [if_neg c8] at H
        have c8b0 : decide (a0 < a1) = false := decide_eq_false c8
        clear c8
        by_cases c9 : a0 > a1
        · rw [if_pos c9] at H
          have c9b0 : decide (a1 < a0) = true := decide_eq_true c9
          clear c9
          obtain rfl := Option.some.inj H
          go_enter Try.func101, Try.ntmps101
          go_wp2_with (first | ((with_reducible refine gate_callee (f := 115) rfl ?_); refine goesL_ (some 8) rfl rfl Try.func115 (by kernel_rfl) rfl #[.int .i64 a0] rfl (by (try simp only [List.map_toArray, List.map_cons, List.map_nil]); first | done | rfl | (simp only [List.length_drop, List.length_take]; rfl)) ?_; (with_reducible refine (cmp_isNaN_int.calls a0 false _ A3.out).mono ?_); rintro e w' ⟨rfl, ⟨nd, rfl⟩⟩; refine ⟨_, rfl, ?_⟩) | ((with_reducible refine gate_callee (f := 115) rfl ?_); refine goesL_ (some 10) rfl rfl Try.func115 (by kernel_rfl) rfl #[.int .i64 a1] rfl (by (try simp only [List.map_toArray, List.map_cons, List.map_nil]); first | done | rfl | (simp only [List.length_drop, List.length_take]; rfl)) ?_; (with_reducible refine (cmp_isNaN_int.calls a1 false _ A4.out).mono ?_); rintro e w' ⟨rfl, ⟨nd, rfl⟩⟩; refine ⟨_, rfl, ?_⟩))
          go_ret
          exact ⟨by first | rfl | (simp; done) | (simp [*]; done), by repeat (first | exact Drawn0.refl _ | apply Drawn0.step)⟩
        · rw [if_neg c9] at H
          have c9b0 : decide (a1 < a0) = false := decide_eq_false c9
          clear c9
          obtain rfl := Option.some.inj H
          go_enter Try.func101, Try.ntmps101
          go_wp2_with (first | ((with_reducible refine gate_callee (f := 115) rfl ?_); refine goesL_ (some 8) rfl rfl Try.func115 (by kernel_rfl) rfl #[.int .i64 a0] rfl (by (try simp only [List.map_toArray, List.map_cons, List.map_nil]); first | done | rfl | (simp only [List.length_drop, List.length_take]; rfl)) ?_; (with_reducible refine (cmp_isNaN_int.calls a0 false _ A3.out).mono ?_); rintro e w' ⟨rfl, ⟨nd, rfl⟩⟩; refine ⟨_, rfl, ?_⟩) | ((with_reducible refine gate_callee (f := 115) rfl ?_); refine goesL_ (some 10) rfl rfl Try.func115 (by kernel_rfl) rfl #[.int .i64 a1] rfl (by (try simp only [List.map_toArray, List.map_cons, List.map_nil]); first | done | rfl | (simp only [List.length_drop, List.length_take]; rfl)) ?_; (with_reducible refine (cmp_isNaN_int.calls a1 false _ A4.out).mono ?_); rintro e w' ⟨rfl, ⟨nd, rfl⟩⟩; refine ⟨_, rfl, ?_⟩))
          go_ret
          exact ⟨by first | rfl | (simp; done) | (simp [*]; done), by repeat (first | exact Drawn0.refl _ | apply Drawn0.step)⟩
end Go.Proofs.Ytbeehklibkeecaa.F
end
