import Derived.Test.YtpmkgeemopcahaaZGFnExactStackOk3
import Derived.Test.YtpmkgeemopcahaaZGFnExactStackOk4
import Derived.Test.YtpmkgeemopcahaaZGFnExactStackOk5
import Derived.Test.YtpmkgeemopcahaaZGFnExactStackOk6
import Derived.Test.YtpmkgeemopcahaaZGFnExactStackOk7
section
/- Laid by a program of this claim's own. What the Go function does, as a Lean function, and the proof that the Go code does just that; Lean checks it. -/
namespace Go.Proofs.Ytpmkgeemopcahaa.F
open Go.RowKit Go.Proofs.YtpmkgeemopcahaaW.PrintWords Go.Proofs.YtpmkgeemopcahaaW.PrintLast Go.Proofs.YtpmkgeemopcahaaW.PrintMore
attribute [local go_sem] max2_int min2_int max_two min_two max_three min_three max_four min_four   -- for this text's walks alone
set_option linter.unusedVariables false
set_option linter.unusedSimpArgs false
/-! ### laws_FnExactCutStack: function 7 -/
mutual
def laws_FnExactCutStack.j0 : Nat → Int → Bool → Bool → Bool → List Int → Int → List Int → Int → List Int → Int → List Int → Int → Option (Bool)
  | 0, _, _, _, _, _, _, _, _, _, _, _, _ => none
  | k + 1, x1, x7, x10, x44, x450000, x450001, x461000, x461001, x466000, x466001, x472000, x472001 => if x44 = true then (some false) else ((laws_toStack.f k x450000 x450001).bind fun bt473 => ((laws_eqStack.f k x466000 x466001 bt473.1 bt473.2).bind fun t477 => (if t477 = true then ((laws_markStack.f k x466000 x466001 1).bind fun bt478 => (if bt478.1 < 0 then (laws_FnExactCutStack.j1 k x1 x7 true x450000 x450001 x461000 x461001 x472000 x472001) else ((laws_eqStack.f k x472000 x472001 x461000 x461001).bind fun t480 => (if t480 = true then (laws_FnExactCutStack.j1 k x1 x7 (x10 != x7) x450000 x450001 x461000 x461001 x472000 x472001) else (laws_FnExactCutStack.j1 k x1 x7 true x450000 x450001 x461000 x461001 x472000 x472001))))) else (some false))))
def laws_FnExactCutStack.j1 : Nat → Int → Bool → Bool → List Int → Int → List Int → Int → List Int → Int → Option (Bool)
  | 0, _, _, _, _, _, _, _, _, _ => none
  | k + 1, x1, x7, x65, x450000, x450001, x461000, x461001, x472000, x472001 => if x65 = true then (some false) else ((laws_markStack.f k x472000 x472001 1).bind fun bt481 => ((laws_heldStack.f k bt481.2 x472001 1).bind fun t483 => (if t483 < 0 then (some false) else (if t483 = bt481.1 then ((laws_toStack.f k x450000 x450001).bind fun bt484 => ((impl_CutStack.f k bt484.1 bt484.2 x1).bind fun bt488 => ((laws_eqStack.f k bt488.1 bt488.2.1 x461000 x461001).bind fun t494 => (if t494 = true then (laws_FnExactCutStack.j2 k bt481.1 (bt488.2.2 != x7) bt481.2 x472001) else (laws_FnExactCutStack.j2 k bt481.1 true bt481.2 x472001))))) else (some false)))))
def laws_FnExactCutStack.j2 : Nat → Int → Bool → List Int → Int → Option (Bool)
  | 0, _, _, _, _ => none
  | k + 1, x12, x92, x472000, x472001 => if x92 = true then (some false) else ((laws_heldStack.f k x472000 x472001 1).bind fun t495 => (if t495 < 0 then (some false) else (if t495 = x12 then (some true) else (some false))))
end
def laws_FnExactCutStack.f (k : Nat) (l0_0 : List Int) (a0_1 : Int) (a1 : Int) : Option (Bool) := (laws_szStack.f l0_0 a0_1 1048576).bind fun t450 => (if t450 < 0 then (some true) else ((laws_toStack.f k l0_0 a0_1).bind fun bt451 => ((spec_CutStack.f k bt451.1 bt451.2 a1).bind fun bt455 => ((laws_toStack.f k l0_0 a0_1).bind fun bt461 => ((impl_CutStack.f k bt461.1 bt461.2 a1).bind fun bt466 => ((laws_eqStack.f k bt466.1 bt466.2.1 bt455.1 bt455.2.1).bind fun t472 => (if t472 = true then (laws_FnExactCutStack.j0 k a1 bt455.2.2 bt466.2.2 (bt466.2.2 != bt455.2.2) l0_0 a0_1 bt455.1 bt455.2.1 bt461.1 bt461.2 bt466.1 bt466.2.1) else (laws_FnExactCutStack.j0 k a1 bt455.2.2 bt466.2.2 true l0_0 a0_1 bt455.1 bt455.2.1 bt461.1 bt461.2 bt466.1 bt466.2.1))))))))
set_option maxHeartbeats 8000000 in
set_option maxRecDepth 100000 in
theorem laws_FnExactCutStack.calls (k : Nat) (A0_0 : Option Addr) (c0_0 : Nat) (l0_0 : List Int) (a0_1 : Int) (a1 : Int) (r : Bool) (w : World) (hr0_0 : Kd.C (Kd.int .i64) w A0_0 l0_0.length l0_0) (hc0_0 : l0_0.length ≤ c0_0) (h : laws_FnExactCutStack.f k l0_0 a0_1 a1 = some r) :
    Calls Try.prog 7 #[.agg #[.slice A0_0 l0_0.length c0_0, .int .i64 a0_1], .int .i64 a1] w fun e w' => e = .returned (.bool r) ∧ Below w.heap.size w w' := by
  have hu24 := Try.underlying24
  have hu27 := Try.underlying27
  have HR0_0 := Aside0.mk hr0_0
  have HC0_0 := Aside0.mk hc0_0
  clear hr0_0 hc0_0
  have HB := Aside0.mk (Below.refl w.heap.size w)
  have H : ((laws_szStack.f l0_0 a0_1 1048576).bind fun t450 => (if t450 < 0 then (some true) else ((laws_toStack.f k l0_0 a0_1).bind fun bt451 => ((spec_CutStack.f k bt451.1 bt451.2 a1).bind fun bt455 => ((laws_toStack.f k l0_0 a0_1).bind fun bt461 => ((impl_CutStack.f k bt461.1 bt461.2 a1).bind fun bt466 => ((laws_eqStack.f k bt466.1 bt466.2.1 bt455.1 bt455.2.1).bind fun t472 => (if t472 = true then (laws_FnExactCutStack.j0 k a1 bt455.2.2 bt466.2.2 (bt466.2.2 != bt455.2.2) l0_0 a0_1 bt455.1 bt455.2.1 bt461.1 bt461.2 bt466.1 bt466.2.1) else (laws_FnExactCutStack.j0 k a1 bt455.2.2 bt466.2.2 true l0_0 a0_1 bt455.1 bt455.2.1 bt461.1 bt461.2 bt466.1 bt466.2.1))))))))) = some r := h
  clear h
  replace H := Option.bind_eq_some_iff.mp H
  obtain ⟨t450, A30, H⟩ := H
  replace H : (if t450 < 0 then (some true) else ((laws_toStack.f k l0_0 a0_1).bind fun bt451 => ((spec_CutStack.f k bt451.1 bt451.2 a1).bind fun bt455 => ((laws_toStack.f k l0_0 a0_1).bind fun bt461 => ((impl_CutStack.f k bt461.1 bt461.2 a1).bind fun bt466 => ((laws_eqStack.f k bt466.1 bt466.2.1 bt455.1 bt455.2.1).bind fun t472 => (if t472 = true then (laws_FnExactCutStack.j0 k a1 bt455.2.2 bt466.2.2 (bt466.2.2 != bt455.2.2) l0_0 a0_1 bt455.1 bt455.2.1 bt461.1 bt461.2 bt466.1 bt466.2.1) else (laws_FnExactCutStack.j0 k a1 bt455.2.2 bt466.2.2 true l0_0 a0_1 bt455.1 bt455.2.1 bt461.1 bt461.2 bt466.1 bt466.2.1)))))))) = some r := H
  have A3 := Aside0.mk A30
  clear A30
  by_cases c4 : t450 < 0
  · rw [if_pos c4] at H
    have c4b0 : decide (t450 < 0) = true := decide_eq_true c4
    clear c4
    obtain rfl := Option.some.inj H
    go_enter Try.func7, Try.ntmps7
    go_wp2_with (first | ((with_reducible refine gate_dst (N := 2) rfl ?_); refine box_event ?hg (N := 2) ?hd (cs := #[.slice A0_0 l0_0.length c0_0, .int .i64 a0_1]) (t := 24) ?hr ?_; (case hd => rfl); (case hg => rfl); (case hr => first | (go_simp; done) | (go_simp; rfl)); intro gb449 hg w5 hbox hb; have n0_ := Aside0.mk (below_step (by repeat (first | (with_reducible first | exact HB.out | apply below_alloc | apply pw_below_drewN | apply below_drew1) | exact HB.out)) hb); have n1_ := Aside0.mk (hbox); have n2_ := Aside0.mk ((by rw [hg]; exact (below_size (by repeat (first | (with_reducible first | exact HB.out | apply below_alloc | apply pw_below_drewN | apply below_drew1) | exact HB.out))) : w.heap.size ≤ gb449)); have n3_ := Aside0.mk ((by rw [hg]; exact (below_size (by repeat (first | (with_reducible first | exact HB.out | apply below_alloc | apply pw_below_drewN | apply below_drew1) | exact HB.out))) : w.heap.size ≤ gb449)); clear HB; have HB := n0_; have BK449 := n1_; have GW449 := n2_; have GE449 := n3_; clear n0_ n1_ n2_ n3_; clear hb hbox hg; have hcz6_0 : w5.cell? ⟨gb449, 0, none⟩ = some (.slice A0_0 l0_0.length c0_0) := (blk_cell BK449.out 0).trans rfl; have hcz6_1 : w5.cell? ⟨gb449, 1, none⟩ = some (.int .i64 a0_1) := (blk_cell BK449.out 1).trans rfl; have hfz6_0 := blk_frozen BK449.out 0; have hfz6_1 := blk_frozen BK449.out 1) | ((with_reducible refine gate_callee (f := 15) rfl ?_); refine goesL_ (some 18) rfl rfl Try.func15 (by kernel_rfl) rfl #[.agg #[.slice A0_0 l0_0.length c0_0, .int .i64 a0_1], .int .i64 1048576] rfl (by (try simp only [List.map_toArray, List.map_cons, List.map_nil]); first | done | rfl | (simp only [List.length_drop, List.length_take]; rfl)) ?_; (with_reducible refine (laws_szStack.calls _ _ l0_0 a0_1 1048576 t450 _ ?side1 ?side2 A3.out).mono ?_); (case side1 => repeat (first | exact (Kd.C_below HR0_0.out HB.out) | (with_reducible refine Kd.C_alloc ?_ _) | (with_reducible refine Kd.C_drewN ?_ _) | (with_reducible refine Kd.C_drew ?_))); (case side2 => exact HC0_0.out); rintro e w7 ⟨rfl, hb⟩; refine ⟨_, rfl, ?_⟩; have n0_ := Aside0.mk (blk_below (g := gb449) (o := .cells #[.slice A0_0 l0_0.length c0_0, .int .i64 a0_1] 24 (0, 0)) (by (with_reducible repeat (first | refine blk_drewN ?_ _ | refine blk_drew ?_ | refine blk_alloc ?_ _)); exact BK449.out) hb); have n1_ := Aside0.mk (below_step (by repeat (first | (with_reducible first | exact HB.out | apply below_alloc | apply pw_below_drewN | apply below_drew1 | refine below_set ?_ GE449.out) | exact HB.out)) hb); clear BK449; clear HB; have BK449 := n0_; have HB := n1_; clear n0_ n1_; (try clear hb); (try clear hb2); (try clear hk); (try clear hi)))
    go_ret
    exact ⟨by first | rfl | (simp [errW_none, errW_some] <;> rfl) | (simp [*, errW_none, errW_some] <;> rfl), by repeat (first | (with_reducible first | exact HB.out | apply below_alloc | apply pw_below_drewN | apply below_drew1 | refine below_set ?_ GE449.out) | exact HB.out)⟩
  · rw [if_neg c4] at H
    have c4b0 : decide (t450 < 0) = false := decide_eq_false c4
    clear c4
    replace H := Option.bind_eq_some_iff.mp H
    obtain ⟨⟨t451, t454⟩, A80, H⟩ := H
    replace H : ((spec_CutStack.f k t451 t454 a1).bind fun bt455 => ((laws_toStack.f k l0_0 a0_1).bind fun bt461 => ((impl_CutStack.f k bt461.1 bt461.2 a1).bind fun bt466 => ((laws_eqStack.f k bt466.1 bt466.2.1 bt455.1 bt455.2.1).bind fun t472 => (if t472 = true then (laws_FnExactCutStack.j0 k a1 bt455.2.2 bt466.2.2 (bt466.2.2 != bt455.2.2) l0_0 a0_1 bt455.1 bt455.2.1 bt461.1 bt461.2 bt466.1 bt466.2.1) else (laws_FnExactCutStack.j0 k a1 bt455.2.2 bt466.2.2 true l0_0 a0_1 bt455.1 bt455.2.1 bt461.1 bt461.2 bt466.1 bt466.2.1)))))) = some r := H
    have A8 := Aside0.mk A80
    clear A80
    replace H := Option.bind_eq_some_iff.mp H
    obtain ⟨⟨t455, t458, t459⟩, A90, H⟩ := H
    replace H : ((laws_toStack.f k l0_0 a0_1).bind fun bt461 => ((impl_CutStack.f k bt461.1 bt461.2 a1).bind fun bt466 => ((laws_eqStack.f k bt466.1 bt466.2.1 t455 t458).bind fun t472 => (if t472 = true then (laws_FnExactCutStack.j0 k a1 t459 bt466.2.2 (bt466.2.2 != t459) l0_0 a0_1 t455 t458 bt461.1 bt461.2 bt466.1 bt466.2.1) else (laws_FnExactCutStack.j0 k a1 t459 bt466.2.2 true l0_0 a0_1 t455 t458 bt461.1 bt461.2 bt466.1 bt466.2.1))))) = some r := H
    have A9 := Aside0.mk A90
    clear A90
    replace H := Option.bind_eq_some_iff.mp H
    obtain ⟨⟨t461, t464⟩, A100, H⟩ := H
    replace H : ((impl_CutStack.f k t461 t464 a1).bind fun bt466 => ((laws_eqStack.f k bt466.1 bt466.2.1 t455 t458).bind fun t472 => (if t472 = true then (laws_FnExactCutStack.j0 k a1 t459 bt466.2.2 (bt466.2.2 != t459) l0_0 a0_1 t455 t458 t461 t464 bt466.1 bt466.2.1) else (laws_FnExactCutStack.j0 k a1 t459 bt466.2.2 true l0_0 a0_1 t455 t458 t461 t464 bt466.1 bt466.2.1)))) = some r := H
    have A10 := Aside0.mk A100
    clear A100
    replace H := Option.bind_eq_some_iff.mp H
    obtain ⟨⟨t466, t469, t470⟩, A110, H⟩ := H
    replace H : ((laws_eqStack.f k t466 t469 t455 t458).bind fun t472 => (if t472 = true then (laws_FnExactCutStack.j0 k a1 t459 t470 (t470 != t459) l0_0 a0_1 t455 t458 t461 t464 t466 t469) else (laws_FnExactCutStack.j0 k a1 t459 t470 true l0_0 a0_1 t455 t458 t461 t464 t466 t469))) = some r := H
    have A11 := Aside0.mk A110
    clear A110
    have HC12 := Aside0.mk H
    clear H
    go_enter Try.func7, Try.ntmps7
    go_upto_region 8 with (first | ((with_reducible refine gate_dst (N := 2) rfl ?_); refine box_event ?hg (N := 2) ?hd (cs := #[.slice A0_0 l0_0.length c0_0, .int .i64 a0_1]) (t := 24) ?hr ?_; (case hd => rfl); (case hg => rfl); (case hr => first | (go_simp; done) | (go_simp; rfl)); intro gb449 hg w13 hbox hb; have n0_ := Aside0.mk (below_step (by repeat (first | (with_reducible first | exact HB.out | apply below_alloc | apply pw_below_drewN | apply below_drew1) | exact HB.out)) hb); have n1_ := Aside0.mk (hbox); have n2_ := Aside0.mk ((by rw [hg]; exact (below_size (by repeat (first | (with_reducible first | exact HB.out | apply below_alloc | apply pw_below_drewN | apply below_drew1) | exact HB.out))) : w.heap.size ≤ gb449)); have n3_ := Aside0.mk ((by rw [hg]; exact (below_size (by repeat (first | (with_reducible first | exact HB.out | apply below_alloc | apply pw_below_drewN | apply below_drew1) | exact HB.out))) : w.heap.size ≤ gb449)); clear HB; have HB := n0_; have BK449 := n1_; have GW449 := n2_; have GE449 := n3_; clear n0_ n1_ n2_ n3_; clear hb hbox hg; have hcz14_0 : w13.cell? ⟨gb449, 0, none⟩ = some (.slice A0_0 l0_0.length c0_0) := (blk_cell BK449.out 0).trans rfl; have hcz14_1 : w13.cell? ⟨gb449, 1, none⟩ = some (.int .i64 a0_1) := (blk_cell BK449.out 1).trans rfl; have hfz14_0 := blk_frozen BK449.out 0; have hfz14_1 := blk_frozen BK449.out 1) | ((with_reducible refine gate_callee (f := 15) rfl ?_); refine goesL_ (some 18) rfl rfl Try.func15 (by kernel_rfl) rfl #[.agg #[.slice A0_0 l0_0.length c0_0, .int .i64 a0_1], .int .i64 1048576] rfl (by (try simp only [List.map_toArray, List.map_cons, List.map_nil]); first | done | rfl | (simp only [List.length_drop, List.length_take]; rfl)) ?_; (with_reducible refine (laws_szStack.calls _ _ l0_0 a0_1 1048576 t450 _ ?side1 ?side2 A3.out).mono ?_); (case side1 => repeat (first | exact (Kd.C_below HR0_0.out HB.out) | (with_reducible refine Kd.C_alloc ?_ _) | (with_reducible refine Kd.C_drewN ?_ _) | (with_reducible refine Kd.C_drew ?_))); (case side2 => exact HC0_0.out); rintro e w15 ⟨rfl, hb⟩; refine ⟨_, rfl, ?_⟩; have n0_ := Aside0.mk (blk_below (g := gb449) (o := .cells #[.slice A0_0 l0_0.length c0_0, .int .i64 a0_1] 24 (0, 0)) (by (with_reducible repeat (first | refine blk_drewN ?_ _ | refine blk_drew ?_ | refine blk_alloc ?_ _)); exact BK449.out) hb); have n1_ := Aside0.mk (below_step (by repeat (first | (with_reducible first | exact HB.out | apply below_alloc | apply pw_below_drewN | apply below_drew1 | refine below_set ?_ GE449.out) | exact HB.out)) hb); clear BK449; clear HB; have BK449 := n0_; have HB := n1_; clear n0_ n1_; (try clear hb); (try clear hb2); (try clear hk); (try clear hi); have hcz16_0 : w15.cell? ⟨gb449, 0, none⟩ = some (.slice A0_0 l0_0.length c0_0) := (blk_cell BK449.out 0).trans rfl; have hcz16_1 : w15.cell? ⟨gb449, 1, none⟩ = some (.int .i64 a0_1) := (blk_cell BK449.out 1).trans rfl; have hfz16_0 := blk_frozen BK449.out 0; have hfz16_1 := blk_frozen BK449.out 1) | ((with_reducible refine gate_callee (f := 17) rfl ?_); refine goesL_ (some 23) rfl rfl Try.func17 (by kernel_rfl) rfl #[.agg #[.slice A0_0 l0_0.length c0_0, .int .i64 a0_1]] rfl (by (try simp only [List.map_toArray, List.map_cons, List.map_nil]); first | done | rfl | (simp only [List.length_drop, List.length_take]; rfl)) ?_; (with_reducible refine (laws_toStack.calls k _ _ l0_0 a0_1 t451 t454 _ ?side1 ?side2 A8.out).mono ?_); (case side1 => repeat (first | exact (Kd.C_below HR0_0.out HB.out) | (with_reducible refine Kd.C_alloc ?_ _) | (with_reducible refine Kd.C_drewN ?_ _) | (with_reducible refine Kd.C_drew ?_))); (case side2 => exact HC0_0.out); rintro e w17 ⟨v452, rfl, ho0, hb⟩; refine ⟨_, rfl, ?_⟩; have n0_ := Aside0.mk (Kd.R_lower ho0 (below_size (by repeat (first | (with_reducible first | exact HB.out | apply below_alloc | apply pw_below_drewN | apply below_drew1 | refine below_set ?_ GE449.out) | exact HB.out)))); have n1_ := Aside0.mk (blk_below (g := gb449) (o := .cells #[.slice A0_0 l0_0.length c0_0, .int .i64 a0_1] 24 (0, 0)) (by (with_reducible repeat (first | refine blk_drewN ?_ _ | refine blk_drew ?_ | refine blk_alloc ?_ _)); exact BK449.out) hb); have n2_ := Aside0.mk (below_step (by repeat (first | (with_reducible first | exact HB.out | apply below_alloc | apply pw_below_drewN | apply below_drew1 | refine below_set ?_ GE449.out) | exact HB.out)) hb); clear BK449; clear HB; have HO453 := n0_; have BK449 := n1_; have HB := n2_; clear n0_ n1_ n2_; (try clear hb); (try clear hb2); (try clear hk); (try clear hi); (try clear ho0); obtain ⟨Ao18, co18, eo18⟩ := Kd.R_slice HO453.out; subst eo18) | ((with_reducible refine gate_callee (f := 32) rfl ?_); refine goesL_ (some 25) rfl rfl Try.func32 (by kernel_rfl) rfl #[.agg #[.slice Ao18 t451.length co18, .int .i64 t454], .int .i64 a1] rfl (by (try simp only [List.map_toArray, List.map_cons, List.map_nil]); first | done | rfl | (simp only [List.length_drop, List.length_take]; rfl)) ?_; (with_reducible refine (spec_CutStack.calls k _ _ t451 t454 a1 t455 t458 t459 _ ?side1 ?side2 A9.out).mono ?_); (case side1 => repeat (first | exact (Kd.R_reads' HO453.out).2.2 | (with_reducible refine Kd.C_alloc ?_ _) | (with_reducible refine Kd.C_drewN ?_ _) | (with_reducible refine Kd.C_drew ?_))); (case side2 => exact (Kd.R_reads' HO453.out).2.1); rintro e w19 ⟨v456, rfl, ho0, hb⟩; refine ⟨_, rfl, ?_⟩; have n0_ := Aside0.mk (Kd.R_elder' (by (with_reducible repeat (first | apply Kd.R_alloc | apply Kd.R_drewN | apply Kd.R_drew)); exact HO453.out) (Kd.R_base ho0) hb); have n1_ := Aside0.mk (Kd.R_lower (Kd.R_new' ho0 (Kd.R_lt (by (with_reducible repeat (first | apply Kd.R_alloc | apply Kd.R_drewN | apply Kd.R_drew)); exact HO453.out))) (below_size (by repeat (first | (with_reducible first | exact HB.out | apply below_alloc | apply pw_below_drewN | apply below_drew1 | refine below_set ?_ GE449.out) | exact HB.out)))); have n2_ := Aside0.mk (blk_below (g := gb449) (o := .cells #[.slice A0_0 l0_0.length c0_0, .int .i64 a0_1] 24 (0, 0)) (by (with_reducible repeat (first | refine blk_drewN ?_ _ | refine blk_drew ?_ | refine blk_alloc ?_ _)); exact BK449.out) hb); have n3_ := Aside0.mk (below_step (by repeat (first | (with_reducible first | exact HB.out | apply below_alloc | apply pw_below_drewN | apply below_drew1 | refine below_set ?_ GE449.out) | exact HB.out)) hb); clear HO453; clear BK449; clear HB; have HO453 := n0_; have HO457 := n1_; have BK449 := n2_; have HB := n3_; clear n0_ n1_ n2_ n3_; (try clear hb); (try clear hb2); (try clear hk); (try clear hi); (try clear ho0)) | ((with_reducible refine gate_dst (N := 6) rfl ?_); refine box_event ?hg (N := 6) ?hd (cs := #[.slice none 0 0, .int .i64 0]) (t := 27) ?hr ?_; (case hd => rfl); (case hg => rfl); (case hr => first | (go_simp; done) | (go_simp; rfl)); intro gb460 hg w20 hbox hb; have n0_ := Aside0.mk (Kd.R_below (by (with_reducible repeat (first | apply Kd.R_alloc | apply Kd.R_drewN | apply Kd.R_drew)); exact HO453.out) hb); have n1_ := Aside0.mk (Kd.R_below (by (with_reducible repeat (first | apply Kd.R_alloc | apply Kd.R_drewN | apply Kd.R_drew)); exact HO457.out) hb); have n2_ := Aside0.mk (blk_below (g := gb449) (o := .cells #[.slice A0_0 l0_0.length c0_0, .int .i64 a0_1] 24 (0, 0)) (by (with_reducible repeat (first | refine blk_drewN ?_ _ | refine blk_drew ?_ | refine blk_alloc ?_ _)); exact BK449.out) hb); have n3_ := Aside0.mk (below_step (by repeat (first | (with_reducible first | exact HB.out | apply below_alloc | apply pw_below_drewN | apply below_drew1 | refine below_set ?_ GE449.out) | exact HB.out)) hb); have n4_ := Aside0.mk (hbox); have n5_ := Aside0.mk ((by rw [hg]; exact (below_size (by repeat (first | (with_reducible first | exact HB.out | apply below_alloc | apply pw_below_drewN | apply below_drew1 | refine below_set ?_ GE449.out) | exact HB.out))) : w.heap.size ≤ gb460)); have n6_ := Aside0.mk ((by rw [hg]; exact (below_size (by repeat (first | (with_reducible first | exact HB.out | apply below_alloc | apply pw_below_drewN | apply below_drew1 | refine below_set ?_ GE449.out) | exact HB.out))) : w.heap.size ≤ gb460)); have n7_ := Aside0.mk ((by rw [hg]; exact Nat.ne_of_lt (blk_lt (g := gb449) (o := .cells #[.slice A0_0 l0_0.length c0_0, .int .i64 a0_1] 24 (0, 0)) (by (with_reducible repeat (first | refine blk_drewN ?_ _ | refine blk_drew ?_ | refine blk_alloc ?_ _)); exact BK449.out)) : gb449 ≠ gb460)); have n8_ := Aside0.mk ((by rw [hg]; exact Nat.ne_of_gt (blk_lt (g := gb449) (o := .cells #[.slice A0_0 l0_0.length c0_0, .int .i64 a0_1] 24 (0, 0)) (by (with_reducible repeat (first | refine blk_drewN ?_ _ | refine blk_drew ?_ | refine blk_alloc ?_ _)); exact BK449.out)) : gb460 ≠ gb449)); clear HO453; clear HO457; clear BK449; clear HB; have HO453 := n0_; have HO457 := n1_; have BK449 := n2_; have HB := n3_; have BK460 := n4_; have GW460 := n5_; have GE460 := n6_; have NB449_460 := n7_; have NB460_449 := n8_; clear n0_ n1_ n2_ n3_ n4_ n5_ n6_ n7_ n8_; clear hb hbox hg; obtain ⟨Ao21, co21, eo21⟩ := Kd.R_slice HO457.out; subst eo21; have hnb22 := NB460_449.out; have hnc22 := NB449_460.out; have hcz23_0 : w20.cell? ⟨gb460, 0, none⟩ = some (.slice none 0 0) := (blk_cell BK460.out 0).trans rfl; have hcz23_1 : w20.cell? ⟨gb460, 1, none⟩ = some (.int .i64 0) := (blk_cell BK460.out 1).trans rfl; have hfz23_0 := blk_frozen BK460.out 0; have hfz23_1 := blk_frozen BK460.out 1; have hcz24_0 : w20.cell? ⟨gb449, 0, none⟩ = some (.slice A0_0 l0_0.length c0_0) := (blk_cell BK449.out 0).trans rfl; have hcz24_1 : w20.cell? ⟨gb449, 1, none⟩ = some (.int .i64 a0_1) := (blk_cell BK449.out 1).trans rfl; have hfz24_0 := blk_frozen BK449.out 0; have hfz24_1 := blk_frozen BK449.out 1) | ((with_reducible refine gate_callee (f := 17) rfl ?_); refine goesL_ (some 29) rfl rfl Try.func17 (by kernel_rfl) rfl #[.agg #[.slice A0_0 l0_0.length c0_0, .int .i64 a0_1]] rfl (by (try simp only [List.map_toArray, List.map_cons, List.map_nil]); first | done | rfl | (simp only [List.length_drop, List.length_take]; rfl)) ?_; (with_reducible refine (laws_toStack.calls k _ _ l0_0 a0_1 t461 t464 _ ?side1 ?side2 A10.out).mono ?_); (case side1 => exact Kd.C_below HR0_0.out (by repeat (first | (with_reducible first | exact HB.out | apply below_alloc | apply pw_below_drewN | apply below_drew1 | refine below_set ?_ GE449.out | refine below_set ?_ GE460.out) | exact HB.out))); (case side2 => exact HC0_0.out); rintro e w25 ⟨v462, rfl, ho0, hb⟩; refine ⟨_, rfl, ?_⟩; have n0_ := Aside0.mk (Kd.R_elder' (by (with_reducible repeat (first | apply Kd.R_alloc | apply Kd.R_drewN | apply Kd.R_drew)); exact (Kd.R_mono (Kd.R_far (p := ⟨gb460, 1, none⟩) (Kd.R_far (p := ⟨gb460, 0, none⟩) (Kd.R_types HO453.out BK460.out (by decide)) (fun _ hk => hk.2) (.slice Ao21 t455.length co21)) (fun _ hk => hk.2) (.int .i64 t458)) (fun _ h_ => h_.1))) (Kd.R_base ho0) hb); have n1_ := Aside0.mk (Kd.R_elder' (by (with_reducible repeat (first | apply Kd.R_alloc | apply Kd.R_drewN | apply Kd.R_drew)); exact (Kd.R_mono (Kd.R_far (p := ⟨gb460, 1, none⟩) (Kd.R_far (p := ⟨gb460, 0, none⟩) (Kd.R_types HO457.out BK460.out (by decide)) (fun _ hk => hk.2) (.slice Ao21 t455.length co21)) (fun _ hk => hk.2) (.int .i64 t458)) (fun _ h_ => h_.1))) (Kd.R_base ho0) hb); have n2_ := Aside0.mk (Kd.R_lower (Kd.R_new' (Kd.R_new' ho0 (Kd.R_lt (by (with_reducible repeat (first | apply Kd.R_alloc | apply Kd.R_drewN | apply Kd.R_drew)); exact (Kd.R_mono (Kd.R_far (p := ⟨gb460, 1, none⟩) (Kd.R_far (p := ⟨gb460, 0, none⟩) (Kd.R_types HO453.out BK460.out (by decide)) (fun _ hk => hk.2) (.slice Ao21 t455.length co21)) (fun _ hk => hk.2) (.int .i64 t458)) (fun _ h_ => h_.1))))) (Kd.R_lt (by (with_reducible repeat (first | apply Kd.R_alloc | apply Kd.R_drewN | apply Kd.R_drew)); exact (Kd.R_mono (Kd.R_far (p := ⟨gb460, 1, none⟩) (Kd.R_far (p := ⟨gb460, 0, none⟩) (Kd.R_types HO457.out BK460.out (by decide)) (fun _ hk => hk.2) (.slice Ao21 t455.length co21)) (fun _ hk => hk.2) (.int .i64 t458)) (fun _ h_ => h_.1))))) (below_size (by repeat (first | (with_reducible first | exact HB.out | apply below_alloc | apply pw_below_drewN | apply below_drew1 | refine below_set ?_ GE449.out | refine below_set ?_ GE460.out) | exact HB.out)))); have n3_ := Aside0.mk (blk_below (g := gb449) (o := .cells #[.slice A0_0 l0_0.length c0_0, .int .i64 a0_1] 24 (0, 0)) (by (with_reducible repeat (first | refine blk_drewN ?_ _ | refine blk_drew ?_ | refine blk_alloc ?_ _)); refine blk_far ?_ NB449_460.out _; (with_reducible repeat (first | refine blk_drewN ?_ _ | refine blk_drew ?_ | refine blk_alloc ?_ _)); refine blk_far ?_ NB449_460.out _; (with_reducible repeat (first | refine blk_drewN ?_ _ | refine blk_drew ?_ | refine blk_alloc ?_ _)); exact BK449.out) hb); have n4_ := Aside0.mk (blk_below (g := gb460) (o := .cells #[.slice Ao21 t455.length co21, .int .i64 t458] 27 (0, 0)) (by (with_reducible repeat (first | refine blk_drewN ?_ _ | refine blk_drew ?_ | refine blk_alloc ?_ _)); refine blk_put (cs := #[.slice Ao21 t455.length co21, .int .i64 0]) ?_ 1 _ rfl; (with_reducible repeat (first | refine blk_drewN ?_ _ | refine blk_drew ?_ | refine blk_alloc ?_ _)); refine blk_put (cs := #[.slice none 0 0, .int .i64 0]) ?_ 0 _ rfl; (with_reducible repeat (first | refine blk_drewN ?_ _ | refine blk_drew ?_ | refine blk_alloc ?_ _)); exact BK460.out) hb); have n5_ := Aside0.mk (below_step (by repeat (first | (with_reducible first | exact HB.out | apply below_alloc | apply pw_below_drewN | apply below_drew1 | refine below_set ?_ GE449.out | refine below_set ?_ GE460.out) | exact HB.out)) hb); clear HO453; clear HO457; clear BK449; clear BK460; clear HB; have HO453 := n0_; have HO457 := n1_; have HO463 := n2_; have BK449 := n3_; have BK460 := n4_; have HB := n5_; clear n0_ n1_ n2_ n3_ n4_ n5_; (try clear hb); (try clear hb2); (try clear hk); (try clear hi); (try clear ho0)) | ((with_reducible refine gate_dst (N := 8) rfl ?_); refine box_event ?hg (N := 8) ?hd (cs := #[.slice none 0 0, .int .i64 0]) (t := 27) ?hr ?_; (case hd => rfl); (case hg => rfl); (case hr => first | (go_simp; done) | (go_simp; rfl)); intro gb465 hg w26 hbox hb; have n0_ := Aside0.mk (Kd.R_below (by (with_reducible repeat (first | apply Kd.R_alloc | apply Kd.R_drewN | apply Kd.R_drew)); exact HO453.out) hb); have n1_ := Aside0.mk (Kd.R_below (by (with_reducible repeat (first | apply Kd.R_alloc | apply Kd.R_drewN | apply Kd.R_drew)); exact HO457.out) hb); have n2_ := Aside0.mk (Kd.R_below (by (with_reducible repeat (first | apply Kd.R_alloc | apply Kd.R_drewN | apply Kd.R_drew)); exact HO463.out) hb); have n3_ := Aside0.mk (blk_below (g := gb449) (o := .cells #[.slice A0_0 l0_0.length c0_0, .int .i64 a0_1] 24 (0, 0)) (by (with_reducible repeat (first | refine blk_drewN ?_ _ | refine blk_drew ?_ | refine blk_alloc ?_ _)); exact BK449.out) hb); have n4_ := Aside0.mk (blk_below (g := gb460) (o := .cells #[.slice Ao21 t455.length co21, .int .i64 t458] 27 (0, 0)) (by (with_reducible repeat (first | refine blk_drewN ?_ _ | refine blk_drew ?_ | refine blk_alloc ?_ _)); exact BK460.out) hb); have n5_ := Aside0.mk (below_step (by repeat (first | (with_reducible first | exact HB.out | apply below_alloc | apply pw_below_drewN | apply below_drew1 | refine below_set ?_ GE449.out | refine below_set ?_ GE460.out) | exact HB.out)) hb); have n6_ := Aside0.mk (hbox); have n7_ := Aside0.mk ((by rw [hg]; exact (below_size (by repeat (first | (with_reducible first | exact HB.out | apply below_alloc | apply pw_below_drewN | apply below_drew1 | refine below_set ?_ GE449.out | refine below_set ?_ GE460.out) | exact HB.out))) : w.heap.size ≤ gb465)); have n8_ := Aside0.mk ((by rw [hg]; exact (below_size (by repeat (first | (with_reducible first | exact HB.out | apply below_alloc | apply pw_below_drewN | apply below_drew1 | refine below_set ?_ GE449.out | refine below_set ?_ GE460.out) | exact HB.out))) : w.heap.size ≤ gb465)); have n9_ := Aside0.mk ((by rw [hg]; exact Nat.ne_of_lt (blk_lt (g := gb449) (o := .cells #[.slice A0_0 l0_0.length c0_0, .int .i64 a0_1] 24 (0, 0)) (by (with_reducible repeat (first | refine blk_drewN ?_ _ | refine blk_drew ?_ | refine blk_alloc ?_ _)); exact BK449.out)) : gb449 ≠ gb465)); have n10_ := Aside0.mk ((by rw [hg]; exact Nat.ne_of_gt (blk_lt (g := gb449) (o := .cells #[.slice A0_0 l0_0.length c0_0, .int .i64 a0_1] 24 (0, 0)) (by (with_reducible repeat (first | refine blk_drewN ?_ _ | refine blk_drew ?_ | refine blk_alloc ?_ _)); exact BK449.out)) : gb465 ≠ gb449)); have n11_ := Aside0.mk ((by rw [hg]; exact Nat.ne_of_lt (blk_lt (g := gb460) (o := .cells #[.slice Ao21 t455.length co21, .int .i64 t458] 27 (0, 0)) (by (with_reducible repeat (first | refine blk_drewN ?_ _ | refine blk_drew ?_ | refine blk_alloc ?_ _)); exact BK460.out)) : gb460 ≠ gb465)); have n12_ := Aside0.mk ((by rw [hg]; exact Nat.ne_of_gt (blk_lt (g := gb460) (o := .cells #[.slice Ao21 t455.length co21, .int .i64 t458] 27 (0, 0)) (by (with_reducible repeat (first | refine blk_drewN ?_ _ | refine blk_drew ?_ | refine blk_alloc ?_ _)); exact BK460.out)) : gb465 ≠ gb460)); clear HO453; clear HO457; clear HO463; clear BK449; clear BK460; clear HB; have HO453 := n0_; have HO457 := n1_; have HO463 := n2_; have BK449 := n3_; have BK460 := n4_; have HB := n5_; have BK465 := n6_; have GW465 := n7_; have GE465 := n8_; have NB449_465 := n9_; have NB465_449 := n10_; have NB460_465 := n11_; have NB465_460 := n12_; clear n0_ n1_ n2_ n3_ n4_ n5_ n6_ n7_ n8_ n9_ n10_ n11_ n12_; clear hb hbox hg; obtain ⟨Ao27, co27, eo27⟩ := Kd.R_slice HO463.out; subst eo27; have hnb28 := NB465_449.out; have hnc28 := NB449_465.out; have hnb29 := NB465_460.out; have hnc29 := NB460_465.out; have hcz30_0 : w26.cell? ⟨gb465, 0, none⟩ = some (.slice none 0 0) := (blk_cell BK465.out 0).trans rfl; have hcz30_1 : w26.cell? ⟨gb465, 1, none⟩ = some (.int .i64 0) := (blk_cell BK465.out 1).trans rfl; have hfz30_0 := blk_frozen BK465.out 0; have hfz30_1 := blk_frozen BK465.out 1) | ((with_reducible refine gate_callee (f := 23) rfl ?_); refine goesL_ (some 33) rfl rfl Try.func23 (by kernel_rfl) rfl #[.agg #[.slice Ao27 t461.length co27, .int .i64 t464], .int .i64 a1] rfl (by (try simp only [List.map_toArray, List.map_cons, List.map_nil]); first | done | rfl | (simp only [List.length_drop, List.length_take]; rfl)) ?_; (with_reducible refine (impl_CutStack.calls k _ _ t461 t464 a1 t466 t469 t470 _ ?side1 ?side2 A11.out).mono ?_); (case side1 => refine (Kd.R_reads' (e := 3) (base := w.heap.size) (ok := fun k_ => ((True ∧ some k_ ≠ (.slice Ao18 t451.length co18 : Value).ownBlock) ∧ some k_ ≠ (.slice Ao21 t455.length co21 : Value).ownBlock)) (n := t461.length) (c := co27) ?_).2.2; exact (by (with_reducible repeat (first | apply Kd.R_alloc | apply Kd.R_drewN | apply Kd.R_drew)); exact (Kd.R_mono (Kd.R_far (p := ⟨gb465, 1, none⟩) (Kd.R_far (p := ⟨gb465, 0, none⟩) (Kd.R_types HO463.out BK465.out (by decide)) (fun _ hk => hk.2) (.slice Ao27 t461.length co27)) (fun _ hk => hk.2) (.int .i64 t464)) (fun _ h_ => h_.1)))); (case side2 => exact (Kd.R_reads' HO463.out).2.1); rintro e w31 ⟨v467, rfl, ho0, hb⟩; refine ⟨_, rfl, ?_⟩; have n0_ := Aside0.mk (Kd.R_elder' (by (with_reducible repeat (first | apply Kd.R_alloc | apply Kd.R_drewN | apply Kd.R_drew)); exact (Kd.R_mono (Kd.R_far (p := ⟨gb465, 1, none⟩) (Kd.R_far (p := ⟨gb465, 0, none⟩) (Kd.R_types HO453.out BK465.out (by decide)) (fun _ hk => hk.2) (.slice Ao27 t461.length co27)) (fun _ hk => hk.2) (.int .i64 t464)) (fun _ h_ => h_.1))) (Kd.R_base ho0) hb); have n1_ := Aside0.mk (Kd.R_elder' (by (with_reducible repeat (first | apply Kd.R_alloc | apply Kd.R_drewN | apply Kd.R_drew)); exact (Kd.R_mono (Kd.R_far (p := ⟨gb465, 1, none⟩) (Kd.R_far (p := ⟨gb465, 0, none⟩) (Kd.R_types HO457.out BK465.out (by decide)) (fun _ hk => hk.2) (.slice Ao27 t461.length co27)) (fun _ hk => hk.2) (.int .i64 t464)) (fun _ h_ => h_.1))) (Kd.R_base ho0) hb); have n2_ := Aside0.mk (Kd.R_elder' (by (with_reducible repeat (first | apply Kd.R_alloc | apply Kd.R_drewN | apply Kd.R_drew)); exact (Kd.R_mono (Kd.R_far (p := ⟨gb465, 1, none⟩) (Kd.R_far (p := ⟨gb465, 0, none⟩) (Kd.R_types HO463.out BK465.out (by decide)) (fun _ hk => hk.2) (.slice Ao27 t461.length co27)) (fun _ hk => hk.2) (.int .i64 t464)) (fun _ h_ => h_.1))) (Kd.R_base ho0) hb); have n3_ := Aside0.mk (Kd.R_lower (Kd.R_new' (Kd.R_new' (Kd.R_new' ho0 (Kd.R_lt (by (with_reducible repeat (first | apply Kd.R_alloc | apply Kd.R_drewN | apply Kd.R_drew)); exact (Kd.R_mono (Kd.R_far (p := ⟨gb465, 1, none⟩) (Kd.R_far (p := ⟨gb465, 0, none⟩) (Kd.R_types HO453.out BK465.out (by decide)) (fun _ hk => hk.2) (.slice Ao27 t461.length co27)) (fun _ hk => hk.2) (.int .i64 t464)) (fun _ h_ => h_.1))))) (Kd.R_lt (by (with_reducible repeat (first | apply Kd.R_alloc | apply Kd.R_drewN | apply Kd.R_drew)); exact (Kd.R_mono (Kd.R_far (p := ⟨gb465, 1, none⟩) (Kd.R_far (p := ⟨gb465, 0, none⟩) (Kd.R_types HO457.out BK465.out (by decide)) (fun _ hk => hk.2) (.slice Ao27 t461.length co27)) (fun _ hk => hk.2) (.int .i64 t464)) (fun _ h_ => h_.1))))) (Kd.R_lt (by (with_reducible repeat (first | apply Kd.R_alloc | apply Kd.R_drewN | apply Kd.R_drew)); exact (Kd.R_mono (Kd.R_far (p := ⟨gb465, 1, none⟩) (Kd.R_far (p := ⟨gb465, 0, none⟩) (Kd.R_types HO463.out BK465.out (by decide)) (fun _ hk => hk.2) (.slice Ao27 t461.length co27)) (fun _ hk => hk.2) (.int .i64 t464)) (fun _ h_ => h_.1))))) (below_size (by repeat (first | (with_reducible first | exact HB.out | apply below_alloc | apply pw_below_drewN | apply below_drew1 | refine below_set ?_ GE449.out | refine below_set ?_ GE460.out | refine below_set ?_ GE465.out) | exact HB.out)))); have n4_ := Aside0.mk (blk_below (g := gb449) (o := .cells #[.slice A0_0 l0_0.length c0_0, .int .i64 a0_1] 24 (0, 0)) (by (with_reducible repeat (first | refine blk_drewN ?_ _ | refine blk_drew ?_ | refine blk_alloc ?_ _)); refine blk_far ?_ NB449_465.out _; (with_reducible repeat (first | refine blk_drewN ?_ _ | refine blk_drew ?_ | refine blk_alloc ?_ _)); refine blk_far ?_ NB449_465.out _; (with_reducible repeat (first | refine blk_drewN ?_ _ | refine blk_drew ?_ | refine blk_alloc ?_ _)); exact BK449.out) hb); have n5_ := Aside0.mk (blk_below (g := gb460) (o := .cells #[.slice Ao21 t455.length co21, .int .i64 t458] 27 (0, 0)) (by (with_reducible repeat (first | refine blk_drewN ?_ _ | refine blk_drew ?_ | refine blk_alloc ?_ _)); refine blk_far ?_ NB460_465.out _; (with_reducible repeat (first | refine blk_drewN ?_ _ | refine blk_drew ?_ | refine blk_alloc ?_ _)); refine blk_far ?_ NB460_465.out _; (with_reducible repeat (first | refine blk_drewN ?_ _ | refine blk_drew ?_ | refine blk_alloc ?_ _)); exact BK460.out) hb); have n6_ := Aside0.mk (blk_below (g := gb465) (o := .cells #[.slice Ao27 t461.length co27, .int .i64 t464] 27 (0, 0)) (by (with_reducible repeat (first | refine blk_drewN ?_ _ | refine blk_drew ?_ | refine blk_alloc ?_ _)); refine blk_put (cs := #[.slice Ao27 t461.length co27, .int .i64 0]) ?_ 1 _ rfl; (with_reducible repeat (first | refine blk_drewN ?_ _ | refine blk_drew ?_ | refine blk_alloc ?_ _)); refine blk_put (cs := #[.slice none 0 0, .int .i64 0]) ?_ 0 _ rfl; (with_reducible repeat (first | refine blk_drewN ?_ _ | refine blk_drew ?_ | refine blk_alloc ?_ _)); exact BK465.out) hb); have n7_ := Aside0.mk (below_step (by repeat (first | (with_reducible first | exact HB.out | apply below_alloc | apply pw_below_drewN | apply below_drew1 | refine below_set ?_ GE449.out | refine below_set ?_ GE460.out | refine below_set ?_ GE465.out) | exact HB.out)) hb); clear HO453; clear HO457; clear HO463; clear BK449; clear BK460; clear BK465; clear HB; have HO453 := n0_; have HO457 := n1_; have HO463 := n2_; have HO468 := n3_; have BK449 := n4_; have BK460 := n5_; have BK465 := n6_; have HB := n7_; clear n0_ n1_ n2_ n3_ n4_ n5_ n6_ n7_; (try clear hb); (try clear hb2); (try clear hk); (try clear hi); (try clear ho0)) | ((with_reducible refine gate_dst (N := 9) rfl ?_); refine box_event ?hg (N := 9) ?hd (cs := #[.slice none 0 0, .int .i64 0]) (t := 27) ?hr ?_; (case hd => rfl); (case hg => rfl); (case hr => first | (go_simp; done) | (go_simp; rfl)); intro gb471 hg w32 hbox hb; have n0_ := Aside0.mk (Kd.R_below (by (with_reducible repeat (first | apply Kd.R_alloc | apply Kd.R_drewN | apply Kd.R_drew)); exact HO453.out) hb); have n1_ := Aside0.mk (Kd.R_below (by (with_reducible repeat (first | apply Kd.R_alloc | apply Kd.R_drewN | apply Kd.R_drew)); exact HO457.out) hb); have n2_ := Aside0.mk (Kd.R_below (by (with_reducible repeat (first | apply Kd.R_alloc | apply Kd.R_drewN | apply Kd.R_drew)); exact HO463.out) hb); have n3_ := Aside0.mk (Kd.R_below (by (with_reducible repeat (first | apply Kd.R_alloc | apply Kd.R_drewN | apply Kd.R_drew)); exact HO468.out) hb); have n4_ := Aside0.mk (blk_below (g := gb449) (o := .cells #[.slice A0_0 l0_0.length c0_0, .int .i64 a0_1] 24 (0, 0)) (by (with_reducible repeat (first | refine blk_drewN ?_ _ | refine blk_drew ?_ | refine blk_alloc ?_ _)); exact BK449.out) hb); have n5_ := Aside0.mk (blk_below (g := gb460) (o := .cells #[.slice Ao21 t455.length co21, .int .i64 t458] 27 (0, 0)) (by (with_reducible repeat (first | refine blk_drewN ?_ _ | refine blk_drew ?_ | refine blk_alloc ?_ _)); exact BK460.out) hb); have n6_ := Aside0.mk (blk_below (g := gb465) (o := .cells #[.slice Ao27 t461.length co27, .int .i64 t464] 27 (0, 0)) (by (with_reducible repeat (first | refine blk_drewN ?_ _ | refine blk_drew ?_ | refine blk_alloc ?_ _)); exact BK465.out) hb); have n7_ := Aside0.mk (below_step (by repeat (first | (with_reducible first | exact HB.out | apply below_alloc | apply pw_below_drewN | apply below_drew1 | refine below_set ?_ GE449.out | refine below_set ?_ GE460.out | refine below_set ?_ GE465.out) | exact HB.out)) hb); have n8_ := Aside0.mk (hbox); have n9_ := Aside0.mk ((by rw [hg]; exact (below_size (by repeat (first | (with_reducible first | exact HB.out | apply below_alloc | apply pw_below_drewN | apply below_drew1 | refine below_set ?_ GE449.out | refine below_set ?_ GE460.out | refine below_set ?_ GE465.out) | exact HB.out))) : w.heap.size ≤ gb471)); have n10_ := Aside0.mk ((by rw [hg]; exact (below_size (by repeat (first | (with_reducible first | exact HB.out | apply below_alloc | apply pw_below_drewN | apply below_drew1 | refine below_set ?_ GE449.out | refine below_set ?_ GE460.out | refine below_set ?_ GE465.out) | exact HB.out))) : w.heap.size ≤ gb471)); have n11_ := Aside0.mk ((by rw [hg]; exact Nat.ne_of_lt (blk_lt (g := gb449) (o := .cells #[.slice A0_0 l0_0.length c0_0, .int .i64 a0_1] 24 (0, 0)) (by (with_reducible repeat (first | refine blk_drewN ?_ _ | refine blk_drew ?_ | refine blk_alloc ?_ _)); exact BK449.out)) : gb449 ≠ gb471)); have n12_ := Aside0.mk ((by rw [hg]; exact Nat.ne_of_gt (blk_lt (g := gb449) (o := .cells #[.slice A0_0 l0_0.length c0_0, .int .i64 a0_1] 24 (0, 0)) (by (with_reducible repeat (first | refine blk_drewN ?_ _ | refine blk_drew ?_ | refine blk_alloc ?_ _)); exact BK449.out)) : gb471 ≠ gb449)); have n13_ := Aside0.mk ((by rw [hg]; exact Nat.ne_of_lt (blk_lt (g := gb460) (o := .cells #[.slice Ao21 t455.length co21, .int .i64 t458] 27 (0, 0)) (by (with_reducible repeat (first | refine blk_drewN ?_ _ | refine blk_drew ?_ | refine blk_alloc ?_ _)); exact BK460.out)) : gb460 ≠ gb471)); have n14_ := Aside0.mk ((by rw [hg]; exact Nat.ne_of_gt (blk_lt (g := gb460) (o := .cells #[.slice Ao21 t455.length co21, .int .i64 t458] 27 (0, 0)) (by (with_reducible repeat (first | refine blk_drewN ?_ _ | refine blk_drew ?_ | refine blk_alloc ?_ _)); exact BK460.out)) : gb471 ≠ gb460)); have n15_ := Aside0.mk ((by rw [hg]; exact Nat.ne_of_lt (blk_lt (g := gb465) (o := .cells #[.slice Ao27 t461.length co27, .int .i64 t464] 27 (0, 0)) (by (with_reducible repeat (first | refine blk_drewN ?_ _ | refine blk_drew ?_ | refine blk_alloc ?_ _)); exact BK465.out)) : gb465 ≠ gb471)); have n16_ := Aside0.mk ((by rw [hg]; exact Nat.ne_of_gt (blk_lt (g := gb465) (o := .cells #[.slice Ao27 t461.length co27, .int .i64 t464] 27 (0, 0)) (by (with_reducible repeat (first | refine blk_drewN ?_ _ | refine blk_drew ?_ | refine blk_alloc ?_ _)); exact BK465.out)) : gb471 ≠ gb465)); clear HO453; clear HO457; clear HO463; clear HO468; clear BK449; clear BK460; clear BK465; clear HB; have HO453 := n0_; have HO457 := n1_; have HO463 := n2_; have HO468 := n3_; have BK449 := n4_; have BK460 := n5_; have BK465 := n6_; have HB := n7_; have BK471 := n8_; have GW471 := n9_; have GE471 := n10_; have NB449_471 := n11_; have NB471_449 := n12_; have NB460_471 := n13_; have NB471_460 := n14_; have NB465_471 := n15_; have NB471_465 := n16_; clear n0_ n1_ n2_ n3_ n4_ n5_ n6_ n7_ n8_ n9_ n10_ n11_ n12_ n13_ n14_ n15_ n16_; clear hb hbox hg; obtain ⟨Ao33, co33, eo33⟩ := Kd.R_slice HO468.out; subst eo33; have hnb34 := NB471_449.out; have hnc34 := NB449_471.out; have hnb35 := NB471_460.out; have hnc35 := NB460_471.out; have hnb36 := NB471_465.out; have hnc36 := NB465_471.out; have hcz37_0 : w32.cell? ⟨gb471, 0, none⟩ = some (.slice none 0 0) := (blk_cell BK471.out 0).trans rfl; have hcz37_1 : w32.cell? ⟨gb471, 1, none⟩ = some (.int .i64 0) := (blk_cell BK471.out 1).trans rfl; have hfz37_0 := blk_frozen BK471.out 0; have hfz37_1 := blk_frozen BK471.out 1))
    (try simp only [Act.put, List.setIfInBounds_toArray, List.set_cons_zero, List.set_cons_succ])
    go_cut [44] (fun v44 wc => ∃ (kq : Nat) (x44_11 : Bool), v44 = .bool x44_11 ∧ Aside0 (laws_FnExactCutStack.j0 kq a1 t459 t470 x44_11 l0_0 a0_1 t455 t458 t461 t464 t466 t469 = some r) ∧ Aside0 (kq ≤ k) ∧ Aside0 (Kd.R (Kd.int .i64) 3 wc w.heap.size (fun k_ => some k_ ≠ ((.slice Ao27 t461.length co27) : Value).ownBlock ∧ some k_ ≠ ((.slice Ao33 t466.length co33) : Value).ownBlock) (.slice Ao21 t455.length co21) t455) ∧ Aside0 (Kd.R (Kd.int .i64) 3 wc w.heap.size (fun k_ => some k_ ≠ ((.slice Ao21 t455.length co21) : Value).ownBlock ∧ some k_ ≠ ((.slice Ao33 t466.length co33) : Value).ownBlock) (.slice Ao27 t461.length co27) t461) ∧ Aside0 (Kd.R (Kd.int .i64) 3 wc w.heap.size (fun k_ => some k_ ≠ ((.slice Ao21 t455.length co21) : Value).ownBlock ∧ some k_ ≠ ((.slice Ao27 t461.length co27) : Value).ownBlock) (.slice Ao33 t466.length co33) t466) ∧ Aside0 (wc.heap[gb449]? = some (.cells #[(.slice A0_0 l0_0.length c0_0), .int .i64 a0_1] 24 (0, 0))) ∧ Aside0 (wc.heap[gb460]? = some (.cells #[(.slice Ao21 t455.length co21), .int .i64 t458] 27 (0, 0))) ∧ Aside0 (wc.heap[gb465]? = some (.cells #[(.slice Ao27 t461.length co27), .int .i64 t464] 27 (0, 0))) ∧ Aside0 (wc.heap[gb471]? = some (.cells #[(.slice Ao33 t466.length co33), .int .i64 t469] 27 (0, 0))) ∧ Aside0 (Below w.heap.size w wc))
    case first =>
      have H := HC12.out
      clear HC12
      replace H := Option.bind_eq_some_iff.mp H
      obtain ⟨t472, A380, H⟩ := H
      replace H : (if t472 = true then (laws_FnExactCutStack.j0 k a1 t459 t470 (t470 != t459) l0_0 a0_1 t455 t458 t461 t464 t466 t469) else (laws_FnExactCutStack.j0 k a1 t459 t470 true l0_0 a0_1 t455 t458 t461 t464 t466 t469)) = some r := H
      have A38 := Aside0.mk A380
      clear A380
      by_cases c39 : t472 = true
      · subst c39
        have H1 : (laws_FnExactCutStack.j0 k a1 t459 t470 (t470 != t459) l0_0 a0_1 t455 t458 t461 t464 t466 t469) = some r := by rw [if_pos rfl] at H; exact H
        clear H
        have H := H1
        clear H1
        have H' := Aside0.mk H
        clear H
        have hnb40 := NB471_449.out
        have hnc40 := NB449_471.out
        have hnb41 := NB471_460.out
        have hnc41 := NB460_471.out
        have hnb42 := NB471_465.out
        have hnc42 := NB465_471.out
        have hcz43_0 : w32.cell? ⟨gb471, 0, none⟩ = some (.slice none 0 0) := (blk_cell BK471.out 0).trans rfl
        have hcz43_1 : w32.cell? ⟨gb471, 1, none⟩ = some (.int .i64 0) := (blk_cell BK471.out 1).trans rfl
        have hfz43_0 := blk_frozen BK471.out 0
        have hfz43_1 := blk_frozen BK471.out 1
        have hnb44 := NB460_449.out
        have hnc44 := NB449_460.out
        have hnb45 := NB460_465.out
        have hnc45 := NB465_460.out
        have hcz46_0 : w32.cell? ⟨gb460, 0, none⟩ = some (.slice Ao21 t455.length co21) := (blk_cell BK460.out 0).trans rfl
        have hcz46_1 : w32.cell? ⟨gb460, 1, none⟩ = some (.int .i64 t458) := (blk_cell BK460.out 1).trans rfl
        have hfz46_0 := blk_frozen BK460.out 0
        have hfz46_1 := blk_frozen BK460.out 1
        go_wp2_with (first | ((with_reducible refine gate_callee (f := 19) rfl ?_); refine goesL_ (some 38) rfl rfl Try.func19 (by kernel_rfl) rfl #[.agg #[.slice Ao33 t466.length co33, .int .i64 t469], .agg #[.slice Ao21 t455.length co21, .int .i64 t458]] rfl (by (try simp only [List.map_toArray, List.map_cons, List.map_nil]); first | done | rfl | (simp only [List.length_drop, List.length_take]; rfl)) ?_; (with_reducible refine (laws_eqStack.calls k _ _ t466 t469 _ _ t455 t458 true _ ?side1 ?side2 ?side3 ?side4 A38.out).mono ?_); (case side1 => refine (Kd.R_reads' (e := 3) (base := w.heap.size) (ok := fun k_ => (((True ∧ some k_ ≠ (.slice Ao18 t451.length co18 : Value).ownBlock) ∧ some k_ ≠ (.slice Ao21 t455.length co21 : Value).ownBlock) ∧ some k_ ≠ (.slice Ao27 t461.length co27 : Value).ownBlock)) (n := t466.length) (c := co33) ?_).2.2; exact (by (with_reducible repeat (first | apply Kd.R_alloc | apply Kd.R_drewN | apply Kd.R_drew)); exact (Kd.R_mono (Kd.R_far (p := ⟨gb471, 1, none⟩) (Kd.R_far (p := ⟨gb471, 0, none⟩) (Kd.R_types HO468.out BK471.out (by decide)) (fun _ hk => hk.2) (.slice Ao33 t466.length co33)) (fun _ hk => hk.2) (.int .i64 t469)) (fun _ h_ => h_.1)))); (case side2 => exact (Kd.R_reads' HO468.out).2.1); (case side3 => refine (Kd.R_reads' (e := 3) (base := w.heap.size) (ok := fun k_ => (((True ∧ some k_ ≠ (.slice Ao18 t451.length co18 : Value).ownBlock) ∧ some k_ ≠ (.slice Ao27 t461.length co27 : Value).ownBlock) ∧ some k_ ≠ (.slice Ao33 t466.length co33 : Value).ownBlock)) (n := t455.length) (c := co21) ?_).2.2; exact (by (with_reducible repeat (first | apply Kd.R_alloc | apply Kd.R_drewN | apply Kd.R_drew)); exact (Kd.R_mono (Kd.R_far (p := ⟨gb471, 1, none⟩) (Kd.R_far (p := ⟨gb471, 0, none⟩) (Kd.R_types HO457.out BK471.out (by decide)) (fun _ hk => hk.2) (.slice Ao33 t466.length co33)) (fun _ hk => hk.2) (.int .i64 t469)) (fun _ h_ => h_.1)))); (case side4 => exact (Kd.R_reads' HO457.out).2.1); rintro e w47 ⟨rfl, hb⟩; refine ⟨_, rfl, ?_⟩; have n0_ := Aside0.mk (Kd.R_below (by (with_reducible repeat (first | apply Kd.R_alloc | apply Kd.R_drewN | apply Kd.R_drew)); exact (Kd.R_mono (Kd.R_far (p := ⟨gb471, 1, none⟩) (Kd.R_far (p := ⟨gb471, 0, none⟩) (Kd.R_types HO453.out BK471.out (by decide)) (fun _ hk => hk.2) (.slice Ao33 t466.length co33)) (fun _ hk => hk.2) (.int .i64 t469)) (fun _ h_ => h_.1))) hb); have n1_ := Aside0.mk (Kd.R_below (by (with_reducible repeat (first | apply Kd.R_alloc | apply Kd.R_drewN | apply Kd.R_drew)); exact (Kd.R_mono (Kd.R_far (p := ⟨gb471, 1, none⟩) (Kd.R_far (p := ⟨gb471, 0, none⟩) (Kd.R_types HO457.out BK471.out (by decide)) (fun _ hk => hk.2) (.slice Ao33 t466.length co33)) (fun _ hk => hk.2) (.int .i64 t469)) (fun _ h_ => h_.1))) hb); have n2_ := Aside0.mk (Kd.R_below (by (with_reducible repeat (first | apply Kd.R_alloc | apply Kd.R_drewN | apply Kd.R_drew)); exact (Kd.R_mono (Kd.R_far (p := ⟨gb471, 1, none⟩) (Kd.R_far (p := ⟨gb471, 0, none⟩) (Kd.R_types HO463.out BK471.out (by decide)) (fun _ hk => hk.2) (.slice Ao33 t466.length co33)) (fun _ hk => hk.2) (.int .i64 t469)) (fun _ h_ => h_.1))) hb); have n3_ := Aside0.mk (Kd.R_below (by (with_reducible repeat (first | apply Kd.R_alloc | apply Kd.R_drewN | apply Kd.R_drew)); exact (Kd.R_mono (Kd.R_far (p := ⟨gb471, 1, none⟩) (Kd.R_far (p := ⟨gb471, 0, none⟩) (Kd.R_types HO468.out BK471.out (by decide)) (fun _ hk => hk.2) (.slice Ao33 t466.length co33)) (fun _ hk => hk.2) (.int .i64 t469)) (fun _ h_ => h_.1))) hb); have n4_ := Aside0.mk (blk_below (g := gb449) (o := .cells #[.slice A0_0 l0_0.length c0_0, .int .i64 a0_1] 24 (0, 0)) (by (with_reducible repeat (first | refine blk_drewN ?_ _ | refine blk_drew ?_ | refine blk_alloc ?_ _)); refine blk_far ?_ NB449_471.out _; (with_reducible repeat (first | refine blk_drewN ?_ _ | refine blk_drew ?_ | refine blk_alloc ?_ _)); refine blk_far ?_ NB449_471.out _; (with_reducible repeat (first | refine blk_drewN ?_ _ | refine blk_drew ?_ | refine blk_alloc ?_ _)); exact BK449.out) hb); have n5_ := Aside0.mk (blk_below (g := gb460) (o := .cells #[.slice Ao21 t455.length co21, .int .i64 t458] 27 (0, 0)) (by (with_reducible repeat (first | refine blk_drewN ?_ _ | refine blk_drew ?_ | refine blk_alloc ?_ _)); refine blk_far ?_ NB460_471.out _; (with_reducible repeat (first | refine blk_drewN ?_ _ | refine blk_drew ?_ | refine blk_alloc ?_ _)); refine blk_far ?_ NB460_471.out _; (with_reducible repeat (first | refine blk_drewN ?_ _ | refine blk_drew ?_ | refine blk_alloc ?_ _)); exact BK460.out) hb); have n6_ := Aside0.mk (blk_below (g := gb465) (o := .cells #[.slice Ao27 t461.length co27, .int .i64 t464] 27 (0, 0)) (by (with_reducible repeat (first | refine blk_drewN ?_ _ | refine blk_drew ?_ | refine blk_alloc ?_ _)); refine blk_far ?_ NB465_471.out _; (with_reducible repeat (first | refine blk_drewN ?_ _ | refine blk_drew ?_ | refine blk_alloc ?_ _)); refine blk_far ?_ NB465_471.out _; (with_reducible repeat (first | refine blk_drewN ?_ _ | refine blk_drew ?_ | refine blk_alloc ?_ _)); exact BK465.out) hb); have n7_ := Aside0.mk (blk_below (g := gb471) (o := .cells #[.slice Ao33 t466.length co33, .int .i64 t469] 27 (0, 0)) (by (with_reducible repeat (first | refine blk_drewN ?_ _ | refine blk_drew ?_ | refine blk_alloc ?_ _)); refine blk_put (cs := #[.slice Ao33 t466.length co33, .int .i64 0]) ?_ 1 _ rfl; (with_reducible repeat (first | refine blk_drewN ?_ _ | refine blk_drew ?_ | refine blk_alloc ?_ _)); refine blk_put (cs := #[.slice none 0 0, .int .i64 0]) ?_ 0 _ rfl; (with_reducible repeat (first | refine blk_drewN ?_ _ | refine blk_drew ?_ | refine blk_alloc ?_ _)); exact BK471.out) hb); have n8_ := Aside0.mk (below_step (by repeat (first | (with_reducible first | exact HB.out | apply below_alloc | apply pw_below_drewN | apply below_drew1 | refine below_set ?_ GE449.out | refine below_set ?_ GE460.out | refine below_set ?_ GE465.out | refine below_set ?_ GE471.out) | exact HB.out)) hb); clear HO453; clear HO457; clear HO463; clear HO468; clear BK449; clear BK460; clear BK465; clear BK471; clear HB; have HO453 := n0_; have HO457 := n1_; have HO463 := n2_; have HO468 := n3_; have BK449 := n4_; have BK460 := n5_; have BK465 := n6_; have BK471 := n7_; have HB := n8_; clear n0_ n1_ n2_ n3_ n4_ n5_ n6_ n7_ n8_; (try clear hb); (try clear hb2); (try clear hk); (try clear hi)))
        go_meet
        case rel => exact ⟨_, ((t470 != t459)), (by first | rfl | (simp; done) | (simp [*]; done)), H', ⟨by first | omega | exact Nat.le_refl _⟩, ⟨by (with_reducible repeat (first | apply Kd.R_alloc | apply Kd.R_drewN | apply Kd.R_drew)); exact Kd.R_mono HO457.out (fun _ hk => ⟨hk.1.2, hk.2⟩)⟩, ⟨by (with_reducible repeat (first | apply Kd.R_alloc | apply Kd.R_drewN | apply Kd.R_drew)); exact Kd.R_mono HO463.out (fun _ hk => ⟨hk.1.2, hk.2⟩)⟩, ⟨by (with_reducible repeat (first | apply Kd.R_alloc | apply Kd.R_drewN | apply Kd.R_drew)); exact Kd.R_mono HO468.out (fun _ hk => ⟨hk.1.2, hk.2⟩)⟩, ⟨by (with_reducible repeat (first | refine blk_drewN ?_ _ | refine blk_drew ?_ | refine blk_alloc ?_ _)); exact BK449.out⟩, ⟨by (with_reducible repeat (first | refine blk_drewN ?_ _ | refine blk_drew ?_ | refine blk_alloc ?_ _)); exact BK460.out⟩, ⟨by (with_reducible repeat (first | refine blk_drewN ?_ _ | refine blk_drew ?_ | refine blk_alloc ?_ _)); exact BK465.out⟩, ⟨by (with_reducible repeat (first | refine blk_drewN ?_ _ | refine blk_drew ?_ | refine blk_alloc ?_ _)); exact BK471.out⟩, ⟨by repeat (first | (with_reducible first | exact HB.out | apply below_alloc | apply pw_below_drewN | apply below_drew1 | refine below_set ?_ GE449.out | refine below_set ?_ GE460.out | refine below_set ?_ GE465.out | refine below_set ?_ GE471.out) | exact HB.out)⟩⟩
      · replace c39 := Bool.eq_false_iff.mpr c39
        subst c39
        have H1 : (laws_FnExactCutStack.j0 k a1 t459 t470 true l0_0 a0_1 t455 t458 t461 t464 t466 t469) = some r := by rw [if_neg (show ¬ (false = true) by decide)] at H; exact H
        clear H
        have H := H1
        clear H1
        have H' := Aside0.mk H
        clear H
        have hnb48 := NB471_449.out
        have hnc48 := NB449_471.out
        have hnb49 := NB471_460.out
        have hnc49 := NB460_471.out
        have hnb50 := NB471_465.out
        have hnc50 := NB465_471.out
        have hcz51_0 : w32.cell? ⟨gb471, 0, none⟩ = some (.slice none 0 0) := (blk_cell BK471.out 0).trans rfl
        have hcz51_1 : w32.cell? ⟨gb471, 1, none⟩ = some (.int .i64 0) := (blk_cell BK471.out 1).trans rfl
        have hfz51_0 := blk_frozen BK471.out 0
        have hfz51_1 := blk_frozen BK471.out 1
        have hnb52 := NB460_449.out
        have hnc52 := NB449_460.out
        have hnb53 := NB460_465.out
        have hnc53 := NB465_460.out
        have hcz54_0 : w32.cell? ⟨gb460, 0, none⟩ = some (.slice Ao21 t455.length co21) := (blk_cell BK460.out 0).trans rfl
        have hcz54_1 : w32.cell? ⟨gb460, 1, none⟩ = some (.int .i64 t458) := (blk_cell BK460.out 1).trans rfl
        have hfz54_0 := blk_frozen BK460.out 0
        have hfz54_1 := blk_frozen BK460.out 1
        go_wp2_with (first | ((with_reducible refine gate_callee (f := 19) rfl ?_); refine goesL_ (some 38) rfl rfl Try.func19 (by kernel_rfl) rfl #[.agg #[.slice Ao33 t466.length co33, .int .i64 t469], .agg #[.slice Ao21 t455.length co21, .int .i64 t458]] rfl (by (try simp only [List.map_toArray, List.map_cons, List.map_nil]); first | done | rfl | (simp only [List.length_drop, List.length_take]; rfl)) ?_; (with_reducible refine (laws_eqStack.calls k _ _ t466 t469 _ _ t455 t458 false _ ?side1 ?side2 ?side3 ?side4 A38.out).mono ?_); (case side1 => refine (Kd.R_reads' (e := 3) (base := w.heap.size) (ok := fun k_ => (((True ∧ some k_ ≠ (.slice Ao18 t451.length co18 : Value).ownBlock) ∧ some k_ ≠ (.slice Ao21 t455.length co21 : Value).ownBlock) ∧ some k_ ≠ (.slice Ao27 t461.length co27 : Value).ownBlock)) (n := t466.length) (c := co33) ?_).2.2; exact (by (with_reducible repeat (first | apply Kd.R_alloc | apply Kd.R_drewN | apply Kd.R_drew)); exact (Kd.R_mono (Kd.R_far (p := ⟨gb471, 1, none⟩) (Kd.R_far (p := ⟨gb471, 0, none⟩) (Kd.R_types HO468.out BK471.out (by decide)) (fun _ hk => hk.2) (.slice Ao33 t466.length co33)) (fun _ hk => hk.2) (.int .i64 t469)) (fun _ h_ => h_.1)))); (case side2 => exact (Kd.R_reads' HO468.out).2.1); (case side3 => refine (Kd.R_reads' (e := 3) (base := w.heap.size) (ok := fun k_ => (((True ∧ some k_ ≠ (.slice Ao18 t451.length co18 : Value).ownBlock) ∧ some k_ ≠ (.slice Ao27 t461.length co27 : Value).ownBlock) ∧ some k_ ≠ (.slice Ao33 t466.length co33 : Value).ownBlock)) (n := t455.length) (c := co21) ?_).2.2; exact (by (with_reducible repeat (first | apply Kd.R_alloc | apply Kd.R_drewN | apply Kd.R_drew)); exact (Kd.R_mono (Kd.R_far (p := ⟨gb471, 1, none⟩) (Kd.R_far (p := ⟨gb471, 0, none⟩) (Kd.R_types HO457.out BK471.out (by decide)) (fun _ hk => hk.2) (.slice Ao33 t466.length co33)) (fun _ hk => hk.2) (.int .i64 t469)) (fun _ h_ => h_.1)))); (case side4 => exact (Kd.R_reads' HO457.out).2.1); rintro e w55 ⟨rfl, hb⟩; refine ⟨_, rfl, ?_⟩; have n0_ := Aside0.mk (Kd.R_below (by (with_reducible repeat (first | apply Kd.R_alloc | apply Kd.R_drewN | apply Kd.R_drew)); exact (Kd.R_mono (Kd.R_far (p := ⟨gb471, 1, none⟩) (Kd.R_far (p := ⟨gb471, 0, none⟩) (Kd.R_types HO453.out BK471.out (by decide)) (fun _ hk => hk.2) (.slice Ao33 t466.length co33)) (fun _ hk => hk.2) (.int .i64 t469)) (fun _ h_ => h_.1))) hb); have n1_ := Aside0.mk (Kd.R_below (by (with_reducible repeat (first | apply Kd.R_alloc | apply Kd.R_drewN | apply Kd.R_drew)); exact (Kd.R_mono (Kd.R_far (p := ⟨gb471, 1, none⟩) (Kd.R_far (p := ⟨gb471, 0, none⟩) (Kd.R_types HO457.out BK471.out (by decide)) (fun _ hk => hk.2) (.slice Ao33 t466.length co33)) (fun _ hk => hk.2) (.int .i64 t469)) (fun _ h_ => h_.1))) hb); have n2_ := Aside0.mk (Kd.R_below (by (with_reducible repeat (first | apply Kd.R_alloc | apply Kd.R_drewN | apply Kd.R_drew)); exact (Kd.R_mono (Kd.R_far (p := ⟨gb471, 1, none⟩) (Kd.R_far (p := ⟨gb471, 0, none⟩) (Kd.R_types HO463.out BK471.out (by decide)) (fun _ hk => hk.2) (.slice Ao33 t466.length co33)) (fun _ hk => hk.2) (.int .i64 t469)) (fun _ h_ => h_.1))) hb); have n3_ := Aside0.mk (Kd.R_below (by (with_reducible repeat (first | apply Kd.R_alloc | apply Kd.R_drewN | apply Kd.R_drew)); exact (Kd.R_mono (Kd.R_far (p := ⟨gb471, 1, none⟩) (Kd.R_far (p := ⟨gb471, 0, none⟩) (Kd.R_types HO468.out BK471.out (by decide)) (fun _ hk => hk.2) (.slice Ao33 t466.length co33)) (fun _ hk => hk.2) (.int .i64 t469)) (fun _ h_ => h_.1))) hb); have n4_ := Aside0.mk (blk_below (g := gb449) (o := .cells #[.slice A0_0 l0_0.length c0_0, .int .i64 a0_1] 24 (0, 0)) (by (with_reducible repeat (first | refine blk_drewN ?_ _ | refine blk_drew ?_ | refine blk_alloc ?_ _)); refine blk_far ?_ NB449_471.out _; (with_reducible repeat (first | refine blk_drewN ?_ _ | refine blk_drew ?_ | refine blk_alloc ?_ _)); refine blk_far ?_ NB449_471.out _; (with_reducible repeat (first | refine blk_drewN ?_ _ | refine blk_drew ?_ | refine blk_alloc ?_ _)); exact BK449.out) hb); have n5_ := Aside0.mk (blk_below (g := gb460) (o := .cells #[.slice Ao21 t455.length co21, .int .i64 t458] 27 (0, 0)) (by (with_reducible repeat (first | refine blk_drewN ?_ _ | refine blk_drew ?_ | refine blk_alloc ?_ _)); refine blk_far ?_ NB460_471.out _; (with_reducible repeat (first | refine blk_drewN ?_ _ | refine blk_drew ?_ | refine blk_alloc ?_ _)); refine blk_far ?_ NB460_471.out _; (with_reducible repeat (first | refine blk_drewN ?_ _ | refine blk_drew ?_ | refine blk_alloc ?_ _)); exact BK460.out) hb); have n6_ := Aside0.mk (blk_below (g := gb465) (o := .cells #[.slice Ao27 t461.length co27, .int .i64 t464] 27 (0, 0)) (by (with_reducible repeat (first | refine blk_drewN ?_ _ | refine blk_drew ?_ | refine blk_alloc ?_ _)); refine blk_far ?_ NB465_471.out _; (with_reducible repeat (first | refine blk_drewN ?_ _ | refine blk_drew ?_ | refine blk_alloc ?_ _)); refine blk_far ?_ NB465_471.out _; (with_reducible repeat (first | refine blk_drewN ?_ _ | refine blk_drew ?_ | refine blk_alloc ?_ _)); exact BK465.out) hb); have n7_ := Aside0.mk (blk_below (g := gb471) (o := .cells #[.slice Ao33 t466.length co33, .int .i64 t469] 27 (0, 0)) (by (with_reducible repeat (first | refine blk_drewN ?_ _ | refine blk_drew ?_ | refine blk_alloc ?_ _)); refine blk_put (cs := #[.slice Ao33 t466.length co33, .int .i64 0]) ?_ 1 _ rfl; (with_reducible repeat (first | refine blk_drewN ?_ _ | refine blk_drew ?_ | refine blk_alloc ?_ _)); refine blk_put (cs := #[.slice none 0 0, .int .i64 0]) ?_ 0 _ rfl; (with_reducible repeat (first | refine blk_drewN ?_ _ | refine blk_drew ?_ | refine blk_alloc ?_ _)); exact BK471.out) hb); have n8_ := Aside0.mk (below_step (by repeat (first | (with_reducible first | exact HB.out | apply below_alloc | apply pw_below_drewN | apply below_drew1 | refine below_set ?_ GE449.out | refine below_set ?_ GE460.out | refine below_set ?_ GE465.out | refine below_set ?_ GE471.out) | exact HB.out)) hb); clear HO453; clear HO457; clear HO463; clear HO468; clear BK449; clear BK460; clear BK465; clear BK471; clear HB; have HO453 := n0_; have HO457 := n1_; have HO463 := n2_; have HO468 := n3_; have BK449 := n4_; have BK460 := n5_; have BK465 := n6_; have BK471 := n7_; have HB := n8_; clear n0_ n1_ n2_ n3_ n4_ n5_ n6_ n7_ n8_; (try clear hb); (try clear hb2); (try clear hk); (try clear hi)))
        go_meet
        case rel => exact ⟨_, (true), (by first | rfl | (simp; done) | (simp [*]; done)), H', ⟨by first | omega | exact Nat.le_refl _⟩, ⟨by (with_reducible repeat (first | apply Kd.R_alloc | apply Kd.R_drewN | apply Kd.R_drew)); exact Kd.R_mono HO457.out (fun _ hk => ⟨hk.1.2, hk.2⟩)⟩, ⟨by (with_reducible repeat (first | apply Kd.R_alloc | apply Kd.R_drewN | apply Kd.R_drew)); exact Kd.R_mono HO463.out (fun _ hk => ⟨hk.1.2, hk.2⟩)⟩, ⟨by (with_reducible repeat (first | apply Kd.R_alloc | apply Kd.R_drewN | apply Kd.R_drew)); exact Kd.R_mono HO468.out (fun _ hk => ⟨hk.1.2, hk.2⟩)⟩, ⟨by (with_reducible repeat (first | refine blk_drewN ?_ _ | refine blk_drew ?_ | refine blk_alloc ?_ _)); exact BK449.out⟩, ⟨by (with_reducible repeat (first | refine blk_drewN ?_ _ | refine blk_drew ?_ | refine blk_alloc ?_ _)); exact BK460.out⟩, ⟨by (with_reducible repeat (first | refine blk_drewN ?_ _ | refine blk_drew ?_ | refine blk_alloc ?_ _)); exact BK465.out⟩, ⟨by (with_reducible repeat (first | refine blk_drewN ?_ _ | refine blk_drew ?_ | refine blk_alloc ?_ _)); exact BK471.out⟩, ⟨by repeat (first | (with_reducible first | exact HB.out | apply below_alloc | apply pw_below_drewN | apply below_drew1 | refine below_set ?_ GE449.out | refine below_set ?_ GE460.out | refine below_set ?_ GE465.out | refine below_set ?_ GE471.out) | exact HB.out)⟩⟩
    case rest =>
      clear HC12
      try clear c1
      try clear c2
      try clear p2
      try clear c3
      try clear c4
      try clear c4b0
      try clear c5
      try clear c7
      try clear c15
      try clear c17
      try clear c19
      try clear c22
      try clear c23
      try clear c28
      try clear c29
      try clear c32
      try clear c34
      try clear c35
      try clear c36
      try clear c39
      try clear c40
      try clear c41
      try clear c42
      try clear c44
      try clear c45
      try clear c48
      try clear c49
      try clear c50
      try clear c52
      try clear c53
      try clear hcz14_0
      try clear hcz14_1
      try clear hcz16_0
      try clear hcz16_1
      try clear hcz23_0
      try clear hcz23_1
      try clear hcz24_0
      try clear hcz24_1
      try clear hcz30_0
      try clear hcz30_1
      try clear hcz37_0
      try clear hcz37_1
      try clear hcz43_0
      try clear hcz43_1
      try clear hcz46_0
      try clear hcz46_1
      try clear hcz51_0
      try clear hcz51_1
      try clear hcz54_0
      try clear hcz54_1
      try clear hcz6_0
      try clear hcz6_1
      try clear hfz14_0
      try clear hfz14_1
      try clear hfz16_0
      try clear hfz16_1
      try clear hfz23_0
      try clear hfz23_1
      try clear hfz24_0
      try clear hfz24_1
      try clear hfz30_0
      try clear hfz30_1
      try clear hfz37_0
      try clear hfz37_1
      try clear hfz43_0
      try clear hfz43_1
      try clear hfz46_0
      try clear hfz46_1
      try clear hfz51_0
      try clear hfz51_1
      try clear hfz54_0
      try clear hfz54_1
      try clear hfz6_0
      try clear hfz6_1
      obtain ⟨kq, x44_11, rfl, HA, HJ11, HO_461000, HO_466000, HO_472000, BK449, BK460, BK465, BK471, HB⟩ := hcut
      cases kq with
      | zero => exact absurd HA.out (by simp [laws_FnExactCutStack.j0])
      | succ kj11 =>
        have H := HA.out
        clear HA
        simp only [laws_FnExactCutStack.j0] at H
        by_cases c56 : x44_11 = true
        · subst c56
          have H1 : (some false) = some r := by rw [if_pos rfl] at H; exact H
          clear H
          have H := H1
          clear H1
          obtain rfl := Option.some.inj H
          go_wp2
          go_ret
          exact ⟨by first | rfl | (simp [errW_none, errW_some] <;> rfl) | (simp [*, errW_none, errW_some] <;> rfl), by repeat (first | (with_reducible first | exact HB.out | apply below_alloc | apply pw_below_drewN | apply below_drew1 | refine below_set ?_ GE449.out | refine below_set ?_ GE460.out | refine below_set ?_ GE465.out | refine below_set ?_ GE471.out) | exact HB.out)⟩
        · replace c56 := Bool.eq_false_iff.mpr c56
          subst c56
          have H1 : ((laws_toStack.f kj11 l0_0 a0_1).bind fun bt473 => ((laws_eqStack.f kj11 t461 t464 bt473.1 bt473.2).bind fun t477 => (if t477 = true then ((laws_markStack.f kj11 t461 t464 1).bind fun bt478 => (if bt478.1 < 0 then (laws_FnExactCutStack.j1 kj11 a1 t459 true l0_0 a0_1 t455 t458 t466 t469) else ((laws_eqStack.f kj11 t466 t469 t455 t458).bind fun t480 => (if t480 = true then (laws_FnExactCutStack.j1 kj11 a1 t459 (t470 != t459) l0_0 a0_1 t455 t458 t466 t469) else (laws_FnExactCutStack.j1 kj11 a1 t459 true l0_0 a0_1 t455 t458 t466 t469))))) else (some false)))) = some r := by rw [if_neg (show ¬ (false = true) by decide)] at H; exact H
          clear H
          have H := H1
          clear H1
          replace H := Option.bind_eq_some_iff.mp H
          obtain ⟨⟨t473, t476⟩, A570, H⟩ := H
          replace H : ((laws_eqStack.f kj11 t461 t464 t473 t476).bind fun t477 => (if t477 = true then ((laws_markStack.f kj11 t461 t464 1).bind fun bt478 => (if bt478.1 < 0 then (laws_FnExactCutStack.j1 kj11 a1 t459 true l0_0 a0_1 t455 t458 t466 t469) else ((laws_eqStack.f kj11 t466 t469 t455 t458).bind fun t480 => (if t480 = true then (laws_FnExactCutStack.j1 kj11 a1 t459 (t470 != t459) l0_0 a0_1 t455 t458 t466 t469) else (laws_FnExactCutStack.j1 kj11 a1 t459 true l0_0 a0_1 t455 t458 t466 t469))))) else (some false))) = some r := H
          have A57 := Aside0.mk A570
          clear A570
          replace H := Option.bind_eq_some_iff.mp H
          obtain ⟨t477, A580, H⟩ := H
          replace H : (if t477 = true then ((laws_markStack.f kj11 t461 t464 1).bind fun bt478 => (if bt478.1 < 0 then (laws_FnExactCutStack.j1 kj11 a1 t459 true l0_0 a0_1 t455 t458 t466 t469) else ((laws_eqStack.f kj11 t466 t469 t455 t458).bind fun t480 => (if t480 = true then (laws_FnExactCutStack.j1 kj11 a1 t459 (t470 != t459) l0_0 a0_1 t455 t458 t466 t469) else (laws_FnExactCutStack.j1 kj11 a1 t459 true l0_0 a0_1 t455 t458 t466 t469))))) else (some false)) = some r := H
          have A58 := Aside0.mk A580
          clear A580
          by_cases c59 : t477 = true
          · subst c59
            have H1 : ((laws_markStack.f kj11 t461 t464 1).bind fun bt478 => (if bt478.1 < 0 then (laws_FnExactCutStack.j1 kj11 a1 t459 true l0_0 a0_1 t455 t458 t466 t469) else ((laws_eqStack.f kj11 t466 t469 t455 t458).bind fun t480 => (if t480 = true then (laws_FnExactCutStack.j1 kj11 a1 t459 (t470 != t459) l0_0 a0_1 t455 t458 t466 t469) else (laws_FnExactCutStack.j1 kj11 a1 t459 true l0_0 a0_1 t455 t458 t466 t469))))) = some r := by rw [if_pos rfl] at H; exact H
            clear H
            have H := H1
            clear H1
            replace H := Option.bind_eq_some_iff.mp H
            obtain ⟨⟨t478, t479⟩, A600, H⟩ := H
            replace H : (if t478 < 0 then (laws_FnExactCutStack.j1 kj11 a1 t459 true l0_0 a0_1 t455 t458 t466 t469) else ((laws_eqStack.f kj11 t466 t469 t455 t458).bind fun t480 => (if t480 = true then (laws_FnExactCutStack.j1 kj11 a1 t459 (t470 != t459) l0_0 a0_1 t455 t458 t466 t469) else (laws_FnExactCutStack.j1 kj11 a1 t459 true l0_0 a0_1 t455 t458 t466 t469)))) = some r := H
            have A60 := Aside0.mk A600
            clear A600
            have HC61 := Aside0.mk H
            clear H
            try go_wp2
            have n0_ := Aside0.mk (Kd.R_drew HO_461000.out)
            have n1_ := Aside0.mk (Kd.R_drew HO_466000.out)
            have n2_ := Aside0.mk (Kd.R_drew HO_472000.out)
            have n3_ := Aside0.mk (blk_drew BK449.out)
            have n4_ := Aside0.mk (blk_drew BK460.out)
            have n5_ := Aside0.mk (blk_drew BK465.out)
            have n6_ := Aside0.mk (blk_drew BK471.out)
            have n7_ := Aside0.mk (below_drew1 HB.out)
            clear HO_461000
            clear HO_466000
            clear HO_472000
            clear BK449
            clear BK460
            clear BK465
            clear BK471
            clear HB
            have HO_461000 := n0_
            have HO_466000 := n1_
            have HO_472000 := n2_
            have BK449 := n3_
            have BK460 := n4_
            have BK465 := n5_
            have BK471 := n6_
            have HB := n7_
            clear n0_ n1_ n2_ n3_ n4_ n5_ n6_ n7_
            refine start_ (n := 5) (S := fun w' => w'.cell? ⟨gb465, 0, none⟩ = some (.slice Ao27 t461.length co27) ∧ w'.cell? ⟨gb465, 1, none⟩ = some (.int .i64 t464) ∧ w'.cell? ⟨gb449, 0, none⟩ = some (.slice A0_0 l0_0.length c0_0) ∧ w'.cell? ⟨gb449, 1, none⟩ = some (.int .i64 a0_1)) (ds := []) #[false, false, false, false, false] (by kernel_rfl) rfl rfl ⟨(blk_cell BK465.out 0).trans rfl, (blk_cell BK465.out 1).trans rfl, (blk_cell BK449.out 0).trans rfl, (blk_cell BK449.out 1).trans rfl⟩ (fun hHeld => ?_)
            generalize wc.drew = w62 at HO_461000 HO_466000 HO_472000 BK449 BK460 BK465 BK471 HB hHeld ⊢
            refine take_ (i := 0) (N := some 45) (v := ?_) (a' := ?_) #[true, false, false, false, false] rfl rfl (by kernel_rfl) (fun _ _ _ h => h) (Or.inl ⟨by rfl, ?_⟩) hHeld ?_ ?_
            rotate_left
            · rintro w' ⟨s0, s1, s2, s3⟩
              go_simp
              with_reducible rfl
            rotate_left
            · simp only [Act.put, List.setIfInBounds_toArray, List.set_cons_zero, List.set_cons_succ, i64_w, i32_w]
              rfl
            refine take_ (i := 1) (N := some 46) (v := ?_) (a' := ?_) #[true, true, false, false, false] rfl rfl (by kernel_rfl) (fun _ _ _ h => h) (Or.inl ⟨by rfl, ?_⟩) hHeld ?_ ?_
            rotate_left
            · rintro w' ⟨s0, s1, s2, s3⟩
              go_simp
              with_reducible rfl
            rotate_left
            · simp only [Act.put, List.setIfInBounds_toArray, List.set_cons_zero, List.set_cons_succ, i64_w, i32_w]
              rfl
            refine one_ (i := 2) (N := some 47) #[true, true, true, false, false] rfl rfl (by kernel_rfl) (by decide) (fun K hK => ?_)
            refine goes_ Try.func17 (by kernel_rfl) rfl #[.agg #[.slice A0_0 l0_0.length c0_0, .int .i64 a0_1]] (by rfl) rfl rfl (by (try simp only [List.map_toArray, List.map_cons, List.map_nil]); first | done | rfl | (simp only [List.length_drop, List.length_take]; rfl)) ?_
            with_reducible refine (laws_toStack.calls kj11 _ _ l0_0 a0_1 t473 t476 _ ?side1 ?side2 A57.out).mono ?_
            (case side1 => repeat (first | exact (Kd.C_below HR0_0.out HB.out) | (with_reducible refine Kd.C_alloc ?_ _) | (with_reducible refine Kd.C_drewN ?_ _) | (with_reducible refine Kd.C_drew ?_)))
            (case side2 => exact HC0_0.out)
            rintro e w63 ⟨v474, rfl, ho0, hb⟩
            refine ⟨_, rfl, ?_⟩
            have n0_ := Aside0.mk (Kd.R_elder' (by (with_reducible repeat (first | apply Kd.R_alloc | apply Kd.R_drewN | apply Kd.R_drew)); exact HO_461000.out) (Kd.R_base ho0) hb)
            have n1_ := Aside0.mk (Kd.R_elder' (by (with_reducible repeat (first | apply Kd.R_alloc | apply Kd.R_drewN | apply Kd.R_drew)); exact HO_466000.out) (Kd.R_base ho0) hb)
            have n2_ := Aside0.mk (Kd.R_elder' (by (with_reducible repeat (first | apply Kd.R_alloc | apply Kd.R_drewN | apply Kd.R_drew)); exact HO_472000.out) (Kd.R_base ho0) hb)
            have n3_ := Aside0.mk (Kd.R_lower (Kd.R_new' (Kd.R_new' (Kd.R_new' ho0 (Kd.R_lt (by (with_reducible repeat (first | apply Kd.R_alloc | apply Kd.R_drewN | apply Kd.R_drew)); exact HO_461000.out))) (Kd.R_lt (by (with_reducible repeat (first | apply Kd.R_alloc | apply Kd.R_drewN | apply Kd.R_drew)); exact HO_466000.out))) (Kd.R_lt (by (with_reducible repeat (first | apply Kd.R_alloc | apply Kd.R_drewN | apply Kd.R_drew)); exact HO_472000.out))) (below_size (by repeat (first | (with_reducible first | exact HB.out | apply below_alloc | apply pw_below_drewN | apply below_drew1 | refine below_set ?_ GE449.out | refine below_set ?_ GE460.out | refine below_set ?_ GE465.out | refine below_set ?_ GE471.out) | exact HB.out))))
            have n4_ := Aside0.mk (blk_below (g := gb449) (o := .cells #[.slice A0_0 l0_0.length c0_0, .int .i64 a0_1] 24 (0, 0)) (by (with_reducible repeat (first | refine blk_drewN ?_ _ | refine blk_drew ?_ | refine blk_alloc ?_ _)); exact BK449.out) hb)
            have n5_ := Aside0.mk (blk_below (g := gb460) (o := .cells #[.slice Ao21 t455.length co21, .int .i64 t458] 27 (0, 0)) (by (with_reducible repeat (first | refine blk_drewN ?_ _ | refine blk_drew ?_ | refine blk_alloc ?_ _)); exact BK460.out) hb)
            have n6_ := Aside0.mk (blk_below (g := gb465) (o := .cells #[.slice Ao27 t461.length co27, .int .i64 t464] 27 (0, 0)) (by (with_reducible repeat (first | refine blk_drewN ?_ _ | refine blk_drew ?_ | refine blk_alloc ?_ _)); exact BK465.out) hb)
            have n7_ := Aside0.mk (blk_below (g := gb471) (o := .cells #[.slice Ao33 t466.length co33, .int .i64 t469] 27 (0, 0)) (by (with_reducible repeat (first | refine blk_drewN ?_ _ | refine blk_drew ?_ | refine blk_alloc ?_ _)); exact BK471.out) hb)
            have n8_ := Aside0.mk (below_step (by repeat (first | (with_reducible first | exact HB.out | apply below_alloc | apply pw_below_drewN | apply below_drew1 | refine below_set ?_ GE449.out | refine below_set ?_ GE460.out | refine below_set ?_ GE465.out | refine below_set ?_ GE471.out) | exact HB.out)) hb)
            clear HO_461000
            clear HO_466000
            clear HO_472000
            clear BK449
            clear BK460
            clear BK465
            clear BK471
            clear HB
            have HO_461000 := n0_
            have HO_466000 := n1_
            have HO_472000 := n2_
            have HO475 := n3_
            have BK449 := n4_
            have BK460 := n5_
            have BK465 := n6_
            have BK471 := n7_
            have HB := n8_
            clear n0_ n1_ n2_ n3_ n4_ n5_ n6_ n7_ n8_
            (try clear hb)
            (try clear hb2)
            (try clear hk)
            (try clear hi)
            (try clear ho0)
            obtain ⟨Ao64, co64, eo64⟩ := Kd.R_slice HO475.out
            (first | subst eo64 | (injection eo64 with f1_ f2_ f3_; have f4_ := f1_.symm; have f5_ := f3_.symm; clear f1_ f2_ f3_; subst f4_; subst f5_))
            refine hK.out _ _ ⟨(blk_cell BK465.out 0).trans rfl, (blk_cell BK465.out 1).trans rfl, (blk_cell BK449.out 0).trans rfl, (blk_cell BK449.out 1).trans rfl⟩ (fun hHeld => ?_)
            clear hK K
            refine norm_ (a' := ?_) ?_ ?_
            rotate_left
            · show Act.put _ (some 47) _ = _
              simp only [Act.put, List.setIfInBounds_toArray, List.set_cons_zero, List.set_cons_succ, i64_w, i32_w]
              rfl
            refine one_ (i := 3) (N := some 48) #[true, true, true, true, false] rfl rfl (by kernel_rfl) (by decide) (fun K hK => ?_)
            refine goes_ Try.func19 (by kernel_rfl) rfl #[.agg #[.slice Ao27 t461.length co27, .int .i64 t464], .agg #[.slice Ao64 t473.length co64, .int .i64 t476]] (by rfl) rfl rfl (by (try simp only [List.map_toArray, List.map_cons, List.map_nil]); first | done | rfl | (simp only [List.length_drop, List.length_take]; rfl)) ?_
            with_reducible refine (laws_eqStack.calls kj11 _ _ t461 t464 _ _ t473 t476 true _ ?side1 ?side2 ?side3 ?side4 A58.out).mono ?_
            (case side1 => repeat (first | exact (Kd.R_reads' HO_466000.out).2.2 | (with_reducible refine Kd.C_alloc ?_ _) | (with_reducible refine Kd.C_drewN ?_ _) | (with_reducible refine Kd.C_drew ?_)))
            (case side2 => exact (Kd.R_reads' HO_466000.out).2.1)
            (case side3 => repeat (first | exact (Kd.R_reads' HO475.out).2.2 | (with_reducible refine Kd.C_alloc ?_ _) | (with_reducible refine Kd.C_drewN ?_ _) | (with_reducible refine Kd.C_drew ?_)))
            (case side4 => exact (Kd.R_reads' HO475.out).2.1)
            rintro e w65 ⟨rfl, hb⟩
            refine ⟨_, rfl, ?_⟩
            have n0_ := Aside0.mk (Kd.R_below (by (with_reducible repeat (first | apply Kd.R_alloc | apply Kd.R_drewN | apply Kd.R_drew)); exact HO_461000.out) hb)
            have n1_ := Aside0.mk (Kd.R_below (by (with_reducible repeat (first | apply Kd.R_alloc | apply Kd.R_drewN | apply Kd.R_drew)); exact HO_466000.out) hb)
            have n2_ := Aside0.mk (Kd.R_below (by (with_reducible repeat (first | apply Kd.R_alloc | apply Kd.R_drewN | apply Kd.R_drew)); exact HO_472000.out) hb)
            have n3_ := Aside0.mk (Kd.R_below (by (with_reducible repeat (first | apply Kd.R_alloc | apply Kd.R_drewN | apply Kd.R_drew)); exact HO475.out) hb)
            have n4_ := Aside0.mk (blk_below (g := gb449) (o := .cells #[.slice A0_0 l0_0.length c0_0, .int .i64 a0_1] 24 (0, 0)) (by (with_reducible repeat (first | refine blk_drewN ?_ _ | refine blk_drew ?_ | refine blk_alloc ?_ _)); exact BK449.out) hb)
            have n5_ := Aside0.mk (blk_below (g := gb460) (o := .cells #[.slice Ao21 t455.length co21, .int .i64 t458] 27 (0, 0)) (by (with_reducible repeat (first | refine blk_drewN ?_ _ | refine blk_drew ?_ | refine blk_alloc ?_ _)); exact BK460.out) hb)
            have n6_ := Aside0.mk (blk_below (g := gb465) (o := .cells #[.slice Ao27 t461.length co27, .int .i64 t464] 27 (0, 0)) (by (with_reducible repeat (first | refine blk_drewN ?_ _ | refine blk_drew ?_ | refine blk_alloc ?_ _)); exact BK465.out) hb)
            have n7_ := Aside0.mk (blk_below (g := gb471) (o := .cells #[.slice Ao33 t466.length co33, .int .i64 t469] 27 (0, 0)) (by (with_reducible repeat (first | refine blk_drewN ?_ _ | refine blk_drew ?_ | refine blk_alloc ?_ _)); exact BK471.out) hb)
            have n8_ := Aside0.mk (below_step (by repeat (first | (with_reducible first | exact HB.out | apply below_alloc | apply pw_below_drewN | apply below_drew1 | refine below_set ?_ GE449.out | refine below_set ?_ GE460.out | refine below_set ?_ GE465.out | refine below_set ?_ GE471.out) | exact HB.out)) hb)
            clear HO_461000
            clear HO_466000
            clear HO_472000
            clear HO475
            clear BK449
            clear BK460
            clear BK465
            clear BK471
            clear HB
            have HO_461000 := n0_
            have HO_466000 := n1_
            have HO_472000 := n2_
            have HO475 := n3_
            have BK449 := n4_
            have BK460 := n5_
            have BK465 := n6_
            have BK471 := n7_
            have HB := n8_
            clear n0_ n1_ n2_ n3_ n4_ n5_ n6_ n7_ n8_
            (try clear hb)
            (try clear hb2)
            (try clear hk)
            (try clear hi)
            refine hK.out _ _ ⟨(blk_cell BK465.out 0).trans rfl, (blk_cell BK465.out 1).trans rfl, (blk_cell BK449.out 0).trans rfl, (blk_cell BK449.out 1).trans rfl⟩ (fun hHeld => ?_)
            clear hK K
            refine norm_ (a' := ?_) ?_ ?_
            rotate_left
            · show Act.put _ (some 48) _ = _
              simp only [Act.put, List.setIfInBounds_toArray, List.set_cons_zero, List.set_cons_succ, i64_w, i32_w]
              rfl
            refine pure_ (i := 4) (N := some 49) (v := ?_) (a' := ?_) #[true, true, true, true, true] rfl rfl (by kernel_rfl) (fun _ _ _ h => h) (Or.inl ⟨by rfl, ?_⟩) ?_ ?_
            rotate_left
            · intro w'
              go_simp
              with_reducible rfl
            rotate_left
            · simp only [Act.put, List.setIfInBounds_toArray, List.set_cons_zero, List.set_cons_succ, i64_w, i32_w]
              rfl
            refine done_ (by kernel_rfl) ?_
            have hnb66 := NB465_449.out
            have hnc66 := NB449_465.out
            have hnb67 := NB465_460.out
            have hnc67 := NB460_465.out
            have hnb68 := NB465_471.out
            have hnc68 := NB471_465.out
            have hcz69_0 : w65.cell? ⟨gb465, 0, none⟩ = some (.slice Ao27 t461.length co27) := (blk_cell BK465.out 0).trans rfl
            have hcz69_1 : w65.cell? ⟨gb465, 1, none⟩ = some (.int .i64 t464) := (blk_cell BK465.out 1).trans rfl
            have hfz69_0 := blk_frozen BK465.out 0
            have hfz69_1 := blk_frozen BK465.out 1
            go_upto_region 14 with (first | ((with_reducible refine gate_callee (f := 29) rfl ?_); refine goesL_ (some 52) rfl rfl Try.func29 (by kernel_rfl) rfl #[.agg #[.slice Ao27 t461.length co27, .int .i64 t464], .int .i64 1] rfl (by (try simp only [List.map_toArray, List.map_cons, List.map_nil]); first | done | rfl | (simp only [List.length_drop, List.length_take]; rfl)) ?_; (with_reducible refine (laws_markStack.calls kj11 (fun k_ => some k_ = (.slice Ao27 t461.length co27 : Value).ownBlock) (.slice Ao27 t461.length co27) t461 t464 1 t478 t479 w _ ?side1 ?side2 A60.out).mono ?_); (case side1 => repeat (first | (with_reducible first | exact HB.out | apply below_alloc | apply pw_below_drewN | apply below_drew1 | refine below_set ?_ GE449.out | refine below_set ?_ GE460.out | refine below_set ?_ GE465.out | refine below_set ?_ GE471.out) | exact HB.out)); (case side2 => exact Kd.R_tight rfl HO_466000.out); rintro e w70 ⟨rfl, hy0, hb, hkp⟩; refine ⟨_, rfl, ?_⟩; have n0_ := Aside0.mk (Kd.R_mono (ok' := fun k_ => some k_ ≠ (.slice Ao27 t461.length co27 : Value).ownBlock ∧ some k_ ≠ (.slice Ao33 t466.length co33 : Value).ownBlock ∧ some k_ ≠ (.slice Ao64 t473.length co64 : Value).ownBlock) (Kd.R_keptB (HO_461000.out) hkp (fun k_ hk_ hs_ => (hk_.1.1) hs_)) (fun k_ hk_ => ⟨hk_.1.1.1, hk_.1.1.2, hk_.1.2⟩)); have n1_ := Aside0.mk (Kd.R_reok rfl hy0 (fun k_ e_ => HO_466000.out.1 k_ e_)); have n2_ := Aside0.mk (Kd.R_mono (ok' := fun k_ => some k_ ≠ (.slice Ao21 t455.length co21 : Value).ownBlock ∧ some k_ ≠ (.slice Ao27 t461.length co27 : Value).ownBlock ∧ some k_ ≠ (.slice Ao64 t473.length co64 : Value).ownBlock) (Kd.R_keptB (HO_472000.out) hkp (fun k_ hk_ hs_ => (hk_.1.2) hs_)) (fun k_ hk_ => ⟨hk_.1.1.1, hk_.1.1.2, hk_.1.2⟩)); have n3_ := Aside0.mk (blk_kept (by (with_reducible repeat (first | refine blk_drewN ?_ _ | refine blk_drew ?_ | refine blk_alloc ?_ _)); exact BK449.out) hkp (fun hs_ => (fun e_ => (Kd.R_ne HO_466000.out BK449.out (by decide)) e_) hs_)); have n4_ := Aside0.mk (blk_kept (by (with_reducible repeat (first | refine blk_drewN ?_ _ | refine blk_drew ?_ | refine blk_alloc ?_ _)); exact BK460.out) hkp (fun hs_ => (fun e_ => (Kd.R_ne HO_466000.out BK460.out (by decide)) e_) hs_)); have n5_ := Aside0.mk (blk_kept (by (with_reducible repeat (first | refine blk_drewN ?_ _ | refine blk_drew ?_ | refine blk_alloc ?_ _)); exact BK465.out) hkp (fun hs_ => (fun e_ => (Kd.R_ne HO_466000.out BK465.out (by decide)) e_) hs_)); have n6_ := Aside0.mk (blk_kept (by (with_reducible repeat (first | refine blk_drewN ?_ _ | refine blk_drew ?_ | refine blk_alloc ?_ _)); exact BK471.out) hkp (fun hs_ => (fun e_ => (Kd.R_ne HO_466000.out BK471.out (by decide)) e_) hs_)); have n7_ := Aside0.mk (Kd.R_mono (ok' := fun k_ => some k_ ≠ (.slice Ao21 t455.length co21 : Value).ownBlock ∧ some k_ ≠ (.slice Ao27 t461.length co27 : Value).ownBlock ∧ some k_ ≠ (.slice Ao33 t466.length co33 : Value).ownBlock) (Kd.R_keptB (HO475.out) hkp (fun k_ hk_ hs_ => (hk_.1.2) hs_)) (fun k_ hk_ => ⟨hk_.1.1.1.2, hk_.1.1.2, hk_.1.2⟩)); have n8_ := Aside0.mk (hb); clear HO_461000; clear HO_466000; clear HO_472000; clear BK449; clear BK460; clear BK465; clear BK471; clear HO475; clear HB; have HO_461000 := n0_; have HO_466000 := n1_; have HO_472000 := n2_; have BK449 := n3_; have BK460 := n4_; have BK465 := n5_; have BK471 := n6_; have HO475 := n7_; have HB := n8_; clear n0_ n1_ n2_ n3_ n4_ n5_ n6_ n7_ n8_; (try clear hb); (try clear hkp); (try clear hy0)))
            (try simp only [Act.put, List.setIfInBounds_toArray, List.set_cons_zero, List.set_cons_succ])
            go_cut [65] (fun v65 wc => ∃ (kq : Nat) (x65_60 : Bool), v65 = .bool x65_60 ∧ Aside0 (laws_FnExactCutStack.j1 kq a1 t459 x65_60 l0_0 a0_1 t455 t458 t466 t469 = some r) ∧ Aside0 (kq ≤ kj11) ∧ Aside0 (Kd.R (Kd.int .i64) 3 wc w.heap.size (fun k_ => some k_ ≠ ((.slice Ao27 t461.length co27) : Value).ownBlock ∧ some k_ ≠ ((.slice Ao33 t466.length co33) : Value).ownBlock) (.slice Ao21 t455.length co21) t455) ∧ Aside0 (Kd.R (Kd.int .i64) 3 wc w.heap.size (fun k_ => some k_ ≠ ((.slice Ao21 t455.length co21) : Value).ownBlock ∧ some k_ ≠ ((.slice Ao33 t466.length co33) : Value).ownBlock) (.slice Ao27 t461.length co27) t479) ∧ Aside0 (Kd.R (Kd.int .i64) 3 wc w.heap.size (fun k_ => some k_ ≠ ((.slice Ao21 t455.length co21) : Value).ownBlock ∧ some k_ ≠ ((.slice Ao27 t461.length co27) : Value).ownBlock) (.slice Ao33 t466.length co33) t466) ∧ Aside0 (wc.heap[gb449]? = some (.cells #[(.slice A0_0 l0_0.length c0_0), .int .i64 a0_1] 24 (0, 0))) ∧ Aside0 (wc.heap[gb460]? = some (.cells #[(.slice Ao21 t455.length co21), .int .i64 t458] 27 (0, 0))) ∧ Aside0 (wc.heap[gb465]? = some (.cells #[(.slice Ao27 t461.length co27), .int .i64 t464] 27 (0, 0))) ∧ Aside0 (wc.heap[gb471]? = some (.cells #[(.slice Ao33 t466.length co33), .int .i64 t469] 27 (0, 0))) ∧ Aside0 (Below w.heap.size w wc))
            case first =>
              have H := HC61.out
              clear HC61
              by_cases c71 : t478 < 0
              · rw [if_pos c71] at H
                have c71b0 : decide (t478 < 0) = true := decide_eq_true c71
                clear c71
                (first | rw [c71b0] | (simp only [i64_w, i32_w]; rw [c71b0]) | skip)
                have H' := Aside0.mk H
                clear H
                go_wp2
                go_meet
                case rel => exact ⟨_, (true), (by first | rfl | (simp; done) | (simp [*]; done)), H', ⟨by have := HJ11.out; first | omega | exact Nat.le_refl _⟩, ⟨by (with_reducible repeat (first | apply Kd.R_alloc | apply Kd.R_drewN | apply Kd.R_drew)); exact Kd.R_mono HO_461000.out (fun _ hk => ⟨hk.1, hk.2.1⟩)⟩, ⟨by (with_reducible repeat (first | apply Kd.R_alloc | apply Kd.R_drewN | apply Kd.R_drew)); exact Kd.R_mono HO_466000.out (fun _ hk => ⟨hk.1.1, hk.1.2⟩)⟩, ⟨by (with_reducible repeat (first | apply Kd.R_alloc | apply Kd.R_drewN | apply Kd.R_drew)); exact Kd.R_mono HO_472000.out (fun _ hk => ⟨hk.1, hk.2.1⟩)⟩, ⟨by (with_reducible repeat (first | refine blk_drewN ?_ _ | refine blk_drew ?_ | refine blk_alloc ?_ _)); exact BK449.out⟩, ⟨by (with_reducible repeat (first | refine blk_drewN ?_ _ | refine blk_drew ?_ | refine blk_alloc ?_ _)); exact BK460.out⟩, ⟨by (with_reducible repeat (first | refine blk_drewN ?_ _ | refine blk_drew ?_ | refine blk_alloc ?_ _)); exact BK465.out⟩, ⟨by (with_reducible repeat (first | refine blk_drewN ?_ _ | refine blk_drew ?_ | refine blk_alloc ?_ _)); exact BK471.out⟩, ⟨by repeat (first | (with_reducible first | exact HB.out | apply below_alloc | apply pw_below_drewN | apply below_drew1 | refine below_set ?_ GE449.out | refine below_set ?_ GE460.out | refine below_set ?_ GE465.out | refine below_set ?_ GE471.out) | exact HB.out)⟩⟩
              · rw [if_neg c71] at H
                have c71b0 : decide (t478 < 0) = false := decide_eq_false c71
                clear c71
                (first | rw [c71b0] | (simp only [i64_w, i32_w]; rw [c71b0]) | skip)
                replace H := Option.bind_eq_some_iff.mp H
                obtain ⟨t480, A720, H⟩ := H
                replace H : (if t480 = true then (laws_FnExactCutStack.j1 kj11 a1 t459 (t470 != t459) l0_0 a0_1 t455 t458 t466 t469) else (laws_FnExactCutStack.j1 kj11 a1 t459 true l0_0 a0_1 t455 t458 t466 t469)) = some r := H
                have A72 := Aside0.mk A720
                clear A720
                by_cases c73 : t480 = true
                · subst c73
                  have H1 : (laws_FnExactCutStack.j1 kj11 a1 t459 (t470 != t459) l0_0 a0_1 t455 t458 t466 t469) = some r := by rw [if_pos rfl] at H; exact H
                  clear H
                  have H := H1
                  clear H1
                  have H' := Aside0.mk H
                  clear H
                  have hnb74 := NB471_449.out
                  have hnc74 := NB449_471.out
                  have hnb75 := NB471_460.out
                  have hnc75 := NB460_471.out
                  have hnb76 := NB471_465.out
                  have hnc76 := NB465_471.out
                  have hcz77_0 : w70.cell? ⟨gb471, 0, none⟩ = some (.slice Ao33 t466.length co33) := (blk_cell BK471.out 0).trans rfl
                  have hcz77_1 : w70.cell? ⟨gb471, 1, none⟩ = some (.int .i64 t469) := (blk_cell BK471.out 1).trans rfl
                  have hfz77_0 := blk_frozen BK471.out 0
                  have hfz77_1 := blk_frozen BK471.out 1
                  have hnb78 := NB460_449.out
                  have hnc78 := NB449_460.out
                  have hnb79 := NB460_465.out
                  have hnc79 := NB465_460.out
                  have hcz80_0 : w70.cell? ⟨gb460, 0, none⟩ = some (.slice Ao21 t455.length co21) := (blk_cell BK460.out 0).trans rfl
                  have hcz80_1 : w70.cell? ⟨gb460, 1, none⟩ = some (.int .i64 t458) := (blk_cell BK460.out 1).trans rfl
                  have hfz80_0 := blk_frozen BK460.out 0
                  have hfz80_1 := blk_frozen BK460.out 1
                  go_wp2_with (first | (go_at_call 19; (with_reducible refine (laws_eqStack.calls kj11 _ _ t466 t469 _ _ t455 t458 true _ ?side1 ?side2 ?side3 ?side4 A72.out).mono ?_); (case side1 => repeat (first | exact (Kd.R_reads' HO_472000.out).2.2 | (with_reducible refine Kd.C_alloc ?_ _) | (with_reducible refine Kd.C_drewN ?_ _) | (with_reducible refine Kd.C_drew ?_))); (case side2 => exact (Kd.R_reads' HO_472000.out).2.1); (case side3 => repeat (first | exact (Kd.R_reads' HO_461000.out).2.2 | (with_reducible refine Kd.C_alloc ?_ _) | (with_reducible refine Kd.C_drewN ?_ _) | (with_reducible refine Kd.C_drew ?_))); (case side4 => exact (Kd.R_reads' HO_461000.out).2.1); rintro e w81 ⟨rfl, hb⟩; have n0_ := Aside0.mk (Kd.R_below (by (with_reducible repeat (first | apply Kd.R_alloc | apply Kd.R_drewN | apply Kd.R_drew)); exact HO_461000.out) hb); have n1_ := Aside0.mk (Kd.R_below (by (with_reducible repeat (first | apply Kd.R_alloc | apply Kd.R_drewN | apply Kd.R_drew)); exact HO_466000.out) hb); have n2_ := Aside0.mk (Kd.R_below (by (with_reducible repeat (first | apply Kd.R_alloc | apply Kd.R_drewN | apply Kd.R_drew)); exact HO_472000.out) hb); have n3_ := Aside0.mk (Kd.R_below (by (with_reducible repeat (first | apply Kd.R_alloc | apply Kd.R_drewN | apply Kd.R_drew)); exact HO475.out) hb); have n4_ := Aside0.mk (blk_below (g := gb449) (o := .cells #[.slice A0_0 l0_0.length c0_0, .int .i64 a0_1] 24 (0, 0)) (by (with_reducible repeat (first | refine blk_drewN ?_ _ | refine blk_drew ?_ | refine blk_alloc ?_ _)); exact BK449.out) hb); have n5_ := Aside0.mk (blk_below (g := gb460) (o := .cells #[.slice Ao21 t455.length co21, .int .i64 t458] 27 (0, 0)) (by (with_reducible repeat (first | refine blk_drewN ?_ _ | refine blk_drew ?_ | refine blk_alloc ?_ _)); exact BK460.out) hb); have n6_ := Aside0.mk (blk_below (g := gb465) (o := .cells #[.slice Ao27 t461.length co27, .int .i64 t464] 27 (0, 0)) (by (with_reducible repeat (first | refine blk_drewN ?_ _ | refine blk_drew ?_ | refine blk_alloc ?_ _)); exact BK465.out) hb); have n7_ := Aside0.mk (blk_below (g := gb471) (o := .cells #[.slice Ao33 t466.length co33, .int .i64 t469] 27 (0, 0)) (by (with_reducible repeat (first | refine blk_drewN ?_ _ | refine blk_drew ?_ | refine blk_alloc ?_ _)); exact BK471.out) hb); have n8_ := Aside0.mk (below_step (by repeat (first | (with_reducible first | exact HB.out | apply below_alloc | apply pw_below_drewN | apply below_drew1 | refine below_set ?_ GE449.out | refine below_set ?_ GE460.out | refine below_set ?_ GE465.out | refine below_set ?_ GE471.out) | exact HB.out)) hb); clear HO_461000; clear HO_466000; clear HO_472000; clear HO475; clear BK449; clear BK460; clear BK465; clear BK471; clear HB; have HO_461000 := n0_; have HO_466000 := n1_; have HO_472000 := n2_; have HO475 := n3_; have BK449 := n4_; have BK460 := n5_; have BK465 := n6_; have BK471 := n7_; have HB := n8_; clear n0_ n1_ n2_ n3_ n4_ n5_ n6_ n7_ n8_; (try clear hb); (try clear hb2); (try clear hk); (try clear hi)))
                  go_meet
                  case rel => exact ⟨_, ((t470 != t459)), (by first | rfl | (simp; done) | (simp [*]; done)), H', ⟨by have := HJ11.out; first | omega | exact Nat.le_refl _⟩, ⟨by (with_reducible repeat (first | apply Kd.R_alloc | apply Kd.R_drewN | apply Kd.R_drew)); exact Kd.R_mono HO_461000.out (fun _ hk => ⟨hk.1, hk.2.1⟩)⟩, ⟨by (with_reducible repeat (first | apply Kd.R_alloc | apply Kd.R_drewN | apply Kd.R_drew)); exact Kd.R_mono HO_466000.out (fun _ hk => ⟨hk.1.1, hk.1.2⟩)⟩, ⟨by (with_reducible repeat (first | apply Kd.R_alloc | apply Kd.R_drewN | apply Kd.R_drew)); exact Kd.R_mono HO_472000.out (fun _ hk => ⟨hk.1, hk.2.1⟩)⟩, ⟨by (with_reducible repeat (first | refine blk_drewN ?_ _ | refine blk_drew ?_ | refine blk_alloc ?_ _)); exact BK449.out⟩, ⟨by (with_reducible repeat (first | refine blk_drewN ?_ _ | refine blk_drew ?_ | refine blk_alloc ?_ _)); exact BK460.out⟩, ⟨by (with_reducible repeat (first | refine blk_drewN ?_ _ | refine blk_drew ?_ | refine blk_alloc ?_ _)); exact BK465.out⟩, ⟨by (with_reducible repeat (first | refine blk_drewN ?_ _ | refine blk_drew ?_ | refine blk_alloc ?_ _)); exact BK471.out⟩, ⟨by repeat (first | (with_reducible first | exact HB.out | apply below_alloc | apply pw_below_drewN | apply below_drew1 | refine below_set ?_ GE449.out | refine below_set ?_ GE460.out | refine below_set ?_ GE465.out | refine below_set ?_ GE471.out) | exact HB.out)⟩⟩
                · replace c73 := Bool.eq_false_iff.mpr c73
                  subst c73
                  have H1 : (laws_FnExactCutStack.j1 kj11 a1 t459 true l0_0 a0_1 t455 t458 t466 t469) = some r := by rw [if_neg (show ¬ (false = true) by decide)] at H; exact H
                  clear H
                  have H := H1
                  clear H1
                  have H' := Aside0.mk H
                  clear H
                  have hnb82 := NB471_449.out
                  have hnc82 := NB449_471.out
                  have hnb83 := NB471_460.out
                  have hnc83 := NB460_471.out
                  have hnb84 := NB471_465.out
                  have hnc84 := NB465_471.out
                  have hcz85_0 : w70.cell? ⟨gb471, 0, none⟩ = some (.slice Ao33 t466.length co33) := (blk_cell BK471.out 0).trans rfl
                  have hcz85_1 : w70.cell? ⟨gb471, 1, none⟩ = some (.int .i64 t469) := (blk_cell BK471.out 1).trans rfl
                  have hfz85_0 := blk_frozen BK471.out 0
                  have hfz85_1 := blk_frozen BK471.out 1
                  have hnb86 := NB460_449.out
                  have hnc86 := NB449_460.out
                  have hnb87 := NB460_465.out
                  have hnc87 := NB465_460.out
                  have hcz88_0 : w70.cell? ⟨gb460, 0, none⟩ = some (.slice Ao21 t455.length co21) := (blk_cell BK460.out 0).trans rfl
                  have hcz88_1 : w70.cell? ⟨gb460, 1, none⟩ = some (.int .i64 t458) := (blk_cell BK460.out 1).trans rfl
                  have hfz88_0 := blk_frozen BK460.out 0
                  have hfz88_1 := blk_frozen BK460.out 1
                  go_wp2_with (first | (go_at_call 19; (with_reducible refine (laws_eqStack.calls kj11 _ _ t466 t469 _ _ t455 t458 false _ ?side1 ?side2 ?side3 ?side4 A72.out).mono ?_); (case side1 => repeat (first | exact (Kd.R_reads' HO_472000.out).2.2 | (with_reducible refine Kd.C_alloc ?_ _) | (with_reducible refine Kd.C_drewN ?_ _) | (with_reducible refine Kd.C_drew ?_))); (case side2 => exact (Kd.R_reads' HO_472000.out).2.1); (case side3 => repeat (first | exact (Kd.R_reads' HO_461000.out).2.2 | (with_reducible refine Kd.C_alloc ?_ _) | (with_reducible refine Kd.C_drewN ?_ _) | (with_reducible refine Kd.C_drew ?_))); (case side4 => exact (Kd.R_reads' HO_461000.out).2.1); rintro e w89 ⟨rfl, hb⟩; have n0_ := Aside0.mk (Kd.R_below (by (with_reducible repeat (first | apply Kd.R_alloc | apply Kd.R_drewN | apply Kd.R_drew)); exact HO_461000.out) hb); have n1_ := Aside0.mk (Kd.R_below (by (with_reducible repeat (first | apply Kd.R_alloc | apply Kd.R_drewN | apply Kd.R_drew)); exact HO_466000.out) hb); have n2_ := Aside0.mk (Kd.R_below (by (with_reducible repeat (first | apply Kd.R_alloc | apply Kd.R_drewN | apply Kd.R_drew)); exact HO_472000.out) hb); have n3_ := Aside0.mk (Kd.R_below (by (with_reducible repeat (first | apply Kd.R_alloc | apply Kd.R_drewN | apply Kd.R_drew)); exact HO475.out) hb); have n4_ := Aside0.mk (blk_below (g := gb449) (o := .cells #[.slice A0_0 l0_0.length c0_0, .int .i64 a0_1] 24 (0, 0)) (by (with_reducible repeat (first | refine blk_drewN ?_ _ | refine blk_drew ?_ | refine blk_alloc ?_ _)); exact BK449.out) hb); have n5_ := Aside0.mk (blk_below (g := gb460) (o := .cells #[.slice Ao21 t455.length co21, .int .i64 t458] 27 (0, 0)) (by (with_reducible repeat (first | refine blk_drewN ?_ _ | refine blk_drew ?_ | refine blk_alloc ?_ _)); exact BK460.out) hb); have n6_ := Aside0.mk (blk_below (g := gb465) (o := .cells #[.slice Ao27 t461.length co27, .int .i64 t464] 27 (0, 0)) (by (with_reducible repeat (first | refine blk_drewN ?_ _ | refine blk_drew ?_ | refine blk_alloc ?_ _)); exact BK465.out) hb); have n7_ := Aside0.mk (blk_below (g := gb471) (o := .cells #[.slice Ao33 t466.length co33, .int .i64 t469] 27 (0, 0)) (by (with_reducible repeat (first | refine blk_drewN ?_ _ | refine blk_drew ?_ | refine blk_alloc ?_ _)); exact BK471.out) hb); have n8_ := Aside0.mk (below_step (by repeat (first | (with_reducible first | exact HB.out | apply below_alloc | apply pw_below_drewN | apply below_drew1 | refine below_set ?_ GE449.out | refine below_set ?_ GE460.out | refine below_set ?_ GE465.out | refine below_set ?_ GE471.out) | exact HB.out)) hb); clear HO_461000; clear HO_466000; clear HO_472000; clear HO475; clear BK449; clear BK460; clear BK465; clear BK471; clear HB; have HO_461000 := n0_; have HO_466000 := n1_; have HO_472000 := n2_; have HO475 := n3_; have BK449 := n4_; have BK460 := n5_; have BK465 := n6_; have BK471 := n7_; have HB := n8_; clear n0_ n1_ n2_ n3_ n4_ n5_ n6_ n7_ n8_; (try clear hb); (try clear hb2); (try clear hk); (try clear hi)))
                  go_meet
                  case rel => exact ⟨_, (true), (by first | rfl | (simp; done) | (simp [*]; done)), H', ⟨by have := HJ11.out; first | omega | exact Nat.le_refl _⟩, ⟨by (with_reducible repeat (first | apply Kd.R_alloc | apply Kd.R_drewN | apply Kd.R_drew)); exact Kd.R_mono HO_461000.out (fun _ hk => ⟨hk.1, hk.2.1⟩)⟩, ⟨by (with_reducible repeat (first | apply Kd.R_alloc | apply Kd.R_drewN | apply Kd.R_drew)); exact Kd.R_mono HO_466000.out (fun _ hk => ⟨hk.1.1, hk.1.2⟩)⟩, ⟨by (with_reducible repeat (first | apply Kd.R_alloc | apply Kd.R_drewN | apply Kd.R_drew)); exact Kd.R_mono HO_472000.out (fun _ hk => ⟨hk.1, hk.2.1⟩)⟩, ⟨by (with_reducible repeat (first | refine blk_drewN ?_ _ | refine blk_drew ?_ | refine blk_alloc ?_ _)); exact BK449.out⟩, ⟨by (with_reducible repeat (first | refine blk_drewN ?_ _ | refine blk_drew ?_ | refine blk_alloc ?_ _)); exact BK460.out⟩, ⟨by (with_reducible repeat (first | refine blk_drewN ?_ _ | refine blk_drew ?_ | refine blk_alloc ?_ _)); exact BK465.out⟩, ⟨by (with_reducible repeat (first | refine blk_drewN ?_ _ | refine blk_drew ?_ | refine blk_alloc ?_ _)); exact BK471.out⟩, ⟨by repeat (first | (with_reducible first | exact HB.out | apply below_alloc | apply pw_below_drewN | apply below_drew1 | refine below_set ?_ GE449.out | refine below_set ?_ GE460.out | refine below_set ?_ GE465.out | refine below_set ?_ GE471.out) | exact HB.out)⟩⟩
            case rest =>
              clear HC61
              try clear c1
              try clear c2
              try clear p2
              try clear c3
              try clear c4
              try clear c4b0
              try clear c5
              try clear c6
              try clear c7
              try clear c8
              try clear c15
              try clear c17
              try clear c19
              try clear c22
              try clear c23
              try clear c28
              try clear c29
              try clear c32
              try clear c34
              try clear c35
              try clear c36
              try clear c39
              try clear c40
              try clear c41
              try clear c42
              try clear c44
              try clear c45
              try clear c48
              try clear c49
              try clear c50
              try clear c52
              try clear c53
              try clear c56
              try clear c59
              try clear c66
              try clear c67
              try clear c68
              try clear c71
              try clear c71b0
              try clear c73
              try clear c74
              try clear c75
              try clear c76
              try clear c78
              try clear c79
              try clear c82
              try clear c83
              try clear c84
              try clear c86
              try clear c87
              try clear hcz14_0
              try clear hcz14_1
              try clear hcz16_0
              try clear hcz16_1
              try clear hcz23_0
              try clear hcz23_1
              try clear hcz24_0
              try clear hcz24_1
              try clear hcz30_0
              try clear hcz30_1
              try clear hcz37_0
              try clear hcz37_1
              try clear hcz43_0
              try clear hcz43_1
              try clear hcz46_0
              try clear hcz46_1
              try clear hcz51_0
              try clear hcz51_1
              try clear hcz54_0
              try clear hcz54_1
              try clear hcz69_0
              try clear hcz69_1
              try clear hcz6_0
              try clear hcz6_1
              try clear hcz77_0
              try clear hcz77_1
              try clear hcz80_0
              try clear hcz80_1
              try clear hcz85_0
              try clear hcz85_1
              try clear hcz88_0
              try clear hcz88_1
              try clear hfz14_0
              try clear hfz14_1
              try clear hfz16_0
              try clear hfz16_1
              try clear hfz23_0
              try clear hfz23_1
              try clear hfz24_0
              try clear hfz24_1
              try clear hfz30_0
              try clear hfz30_1
              try clear hfz37_0
              try clear hfz37_1
              try clear hfz43_0
              try clear hfz43_1
              try clear hfz46_0
              try clear hfz46_1
              try clear hfz51_0
              try clear hfz51_1
              try clear hfz54_0
              try clear hfz54_1
              try clear hfz69_0
              try clear hfz69_1
              try clear hfz6_0
              try clear hfz6_1
              try clear hfz77_0
              try clear hfz77_1
              try clear hfz80_0
              try clear hfz80_1
              try clear hfz85_0
              try clear hfz85_1
              try clear hfz88_0
              try clear hfz88_1
              try clear p2
              obtain ⟨kq, x65_60, rfl, HA, HJ60, HO_461000, HO_466000, HO_472000, BK449, BK460, BK465, BK471, HB⟩ := hcut
              have hl466000_60 := (Kd.R_reads' HO_466000.out).1
              rw [hl466000_60] at HO_466000
              (try simp only [hl466000_60])
              (try simp only [hl466000_60] at BK449)
              (try simp only [hl466000_60] at BK460)
              (try simp only [hl466000_60] at BK465)
              (try simp only [hl466000_60] at BK471)
              (try simp only [hl466000_60] at HO_461000)
              (try simp only [hl466000_60] at HO_472000)
              cases kq with
              | zero => exact absurd HA.out (by simp [laws_FnExactCutStack.j1])
              | succ kj60 =>
                have H := HA.out
                clear HA
                simp only [laws_FnExactCutStack.j1] at H
                by_cases c90 : x65_60 = true
                · subst c90
                  have H1 : (some false) = some r := by rw [if_pos rfl] at H; exact H
                  clear H
                  have H := H1
                  clear H1
                  obtain rfl := Option.some.inj H
                  go_wp2
                  go_ret
                  exact ⟨by first | rfl | (simp [errW_none, errW_some] <;> rfl) | (simp [*, errW_none, errW_some] <;> rfl), by repeat (first | (with_reducible first | exact HB.out | apply below_alloc | apply pw_below_drewN | apply below_drew1 | refine below_set ?_ GE449.out | refine below_set ?_ GE460.out | refine below_set ?_ GE465.out | refine below_set ?_ GE471.out) | exact HB.out)⟩
                · replace c90 := Bool.eq_false_iff.mpr c90
                  subst c90
                  have H1 : ((laws_markStack.f kj60 t466 t469 1).bind fun bt481 => ((laws_heldStack.f kj60 bt481.2 t469 1).bind fun t483 => (if t483 < 0 then (some false) else (if t483 = bt481.1 then ((laws_toStack.f kj60 l0_0 a0_1).bind fun bt484 => ((impl_CutStack.f kj60 bt484.1 bt484.2 a1).bind fun bt488 => ((laws_eqStack.f kj60 bt488.1 bt488.2.1 t455 t458).bind fun t494 => (if t494 = true then (laws_FnExactCutStack.j2 kj60 bt481.1 (bt488.2.2 != t459) bt481.2 t469) else (laws_FnExactCutStack.j2 kj60 bt481.1 true bt481.2 t469))))) else (some false))))) = some r := by rw [if_neg (show ¬ (false = true) by decide)] at H; exact H
                  clear H
                  have H := H1
                  clear H1
                  replace H := Option.bind_eq_some_iff.mp H
                  obtain ⟨⟨t481, t482⟩, A910, H⟩ := H
                  replace H : ((laws_heldStack.f kj60 t482 t469 1).bind fun t483 => (if t483 < 0 then (some false) else (if t483 = t481 then ((laws_toStack.f kj60 l0_0 a0_1).bind fun bt484 => ((impl_CutStack.f kj60 bt484.1 bt484.2 a1).bind fun bt488 => ((laws_eqStack.f kj60 bt488.1 bt488.2.1 t455 t458).bind fun t494 => (if t494 = true then (laws_FnExactCutStack.j2 kj60 t481 (bt488.2.2 != t459) t482 t469) else (laws_FnExactCutStack.j2 kj60 t481 true t482 t469))))) else (some false)))) = some r := H
                  have A91 := Aside0.mk A910
                  clear A910
                  replace H := Option.bind_eq_some_iff.mp H
                  obtain ⟨t483, A920, H⟩ := H
                  replace H : (if t483 < 0 then (some false) else (if t483 = t481 then ((laws_toStack.f kj60 l0_0 a0_1).bind fun bt484 => ((impl_CutStack.f kj60 bt484.1 bt484.2 a1).bind fun bt488 => ((laws_eqStack.f kj60 bt488.1 bt488.2.1 t455 t458).bind fun t494 => (if t494 = true then (laws_FnExactCutStack.j2 kj60 t481 (bt488.2.2 != t459) t482 t469) else (laws_FnExactCutStack.j2 kj60 t481 true t482 t469))))) else (some false))) = some r := H
                  have A92 := Aside0.mk A920
                  clear A920
                  by_cases c93 : t483 < 0
                  · rw [if_pos c93] at H
                    have c93b0 : decide (t483 < 0) = true := decide_eq_true c93
                    clear c93
                    obtain rfl := Option.some.inj H
                    have hnb94 := NB471_449.out
                    have hnc94 := NB449_471.out
                    have hnb95 := NB471_460.out
                    have hnc95 := NB460_471.out
                    have hnb96 := NB471_465.out
                    have hnc96 := NB465_471.out
                    have hcz97_0 : wc.cell? ⟨gb471, 0, none⟩ = some (.slice Ao33 t466.length co33) := (blk_cell BK471.out 0).trans rfl
                    have hcz97_1 : wc.cell? ⟨gb471, 1, none⟩ = some (.int .i64 t469) := (blk_cell BK471.out 1).trans rfl
                    have hfz97_0 := blk_frozen BK471.out 0
                    have hfz97_1 := blk_frozen BK471.out 1
                    go_wp2_with (first | ((with_reducible refine gate_callee (f := 29) rfl ?_); refine goesL_ (some 68) rfl rfl Try.func29 (by kernel_rfl) rfl #[.agg #[.slice Ao33 t466.length co33, .int .i64 t469], .int .i64 1] rfl (by (try simp only [List.map_toArray, List.map_cons, List.map_nil]); first | done | rfl | (simp only [List.length_drop, List.length_take]; rfl)) ?_; (with_reducible refine (laws_markStack.calls kj60 (fun k_ => some k_ = (.slice Ao33 t466.length co33 : Value).ownBlock) (.slice Ao33 t466.length co33) t466 t469 1 t481 t482 w _ ?side1 ?side2 A91.out).mono ?_); (case side1 => repeat (first | (with_reducible first | exact HB.out | apply below_alloc | apply pw_below_drewN | apply below_drew1 | refine below_set ?_ GE449.out | refine below_set ?_ GE460.out | refine below_set ?_ GE465.out | refine below_set ?_ GE471.out) | exact HB.out)); (case side2 => exact Kd.R_tight rfl HO_472000.out); rintro e w98 ⟨rfl, hy0, hb, hkp⟩; refine ⟨_, rfl, ?_⟩; have n0_ := Aside0.mk (Kd.R_mono (ok' := fun k_ => some k_ ≠ (.slice Ao27 t479.length co27 : Value).ownBlock ∧ some k_ ≠ (.slice Ao33 t466.length co33 : Value).ownBlock) (Kd.R_keptB (HO_461000.out) hkp (fun k_ hk_ hs_ => (hk_.2) hs_)) (fun k_ hk_ => ⟨hk_.1.1, hk_.1.2⟩)); have n1_ := Aside0.mk (Kd.R_mono (ok' := fun k_ => some k_ ≠ (.slice Ao21 t455.length co21 : Value).ownBlock ∧ some k_ ≠ (.slice Ao33 t466.length co33 : Value).ownBlock) (Kd.R_keptB (HO_466000.out) hkp (fun k_ hk_ hs_ => (hk_.2) hs_)) (fun k_ hk_ => ⟨hk_.1.1, hk_.1.2⟩)); have n2_ := Aside0.mk (Kd.R_reok rfl hy0 (fun k_ e_ => HO_472000.out.1 k_ e_)); have n3_ := Aside0.mk (blk_kept (by (with_reducible repeat (first | refine blk_drewN ?_ _ | refine blk_drew ?_ | refine blk_alloc ?_ _)); exact BK449.out) hkp (fun hs_ => (fun e_ => (Kd.R_ne HO_472000.out BK449.out (by decide)) e_) hs_)); have n4_ := Aside0.mk (blk_kept (by (with_reducible repeat (first | refine blk_drewN ?_ _ | refine blk_drew ?_ | refine blk_alloc ?_ _)); exact BK460.out) hkp (fun hs_ => (fun e_ => (Kd.R_ne HO_472000.out BK460.out (by decide)) e_) hs_)); have n5_ := Aside0.mk (blk_kept (by (with_reducible repeat (first | refine blk_drewN ?_ _ | refine blk_drew ?_ | refine blk_alloc ?_ _)); exact BK465.out) hkp (fun hs_ => (fun e_ => (Kd.R_ne HO_472000.out BK465.out (by decide)) e_) hs_)); have n6_ := Aside0.mk (blk_kept (by (with_reducible repeat (first | refine blk_drewN ?_ _ | refine blk_drew ?_ | refine blk_alloc ?_ _)); exact BK471.out) hkp (fun hs_ => (fun e_ => (Kd.R_ne HO_472000.out BK471.out (by decide)) e_) hs_)); have n7_ := Aside0.mk (hb); clear HO_461000; clear HO_466000; clear HO_472000; clear BK449; clear BK460; clear BK465; clear BK471; clear HB; have HO_461000 := n0_; have HO_466000 := n1_; have HO_472000 := n2_; have BK449 := n3_; have BK460 := n4_; have BK465 := n5_; have BK471 := n6_; have HB := n7_; clear n0_ n1_ n2_ n3_ n4_ n5_ n6_ n7_; (try clear hb); (try clear hkp); (try clear hy0); have hcz99_0 : w98.cell? ⟨gb471, 0, none⟩ = some (.slice Ao33 t466.length co33) := (blk_cell BK471.out 0).trans rfl; have hcz99_1 : w98.cell? ⟨gb471, 1, none⟩ = some (.int .i64 t469) := (blk_cell BK471.out 1).trans rfl; have hfz99_0 := blk_frozen BK471.out 0; have hfz99_1 := blk_frozen BK471.out 1) | ((with_reducible refine gate_callee (f := 33) rfl ?_); refine goesL_ (some 71) rfl rfl Try.func33 (by kernel_rfl) rfl #[.agg #[.slice Ao33 t482.length co33, .int .i64 t469], .int .i64 1] rfl (by (try simp only [List.map_toArray, List.map_cons, List.map_nil]); first | done | (rw [show t482.length = t466.length from (Kd.R_reads' HO_472000.out).1.symm] <;> rfl) | rfl | (simp only [List.length_drop, List.length_take]; rfl)) ?_; (with_reducible refine (laws_heldStack.calls kj60 _ _ t482 t469 1 t483 _ ?side1 ?side2 A92.out).mono ?_); (case side1 => repeat (first | exact (Kd.R_reads' HO_472000.out).2.2 | (with_reducible refine Kd.C_alloc ?_ _) | (with_reducible refine Kd.C_drewN ?_ _) | (with_reducible refine Kd.C_drew ?_))); (case side2 => rw [show t482.length = t466.length from (Kd.R_reads' HO_472000.out).1.symm]; exact (Kd.R_reads' HO_472000.out).2.1); rintro e w100 ⟨rfl, hb⟩; refine ⟨_, rfl, ?_⟩; have n0_ := Aside0.mk (Kd.R_below (by (with_reducible repeat (first | apply Kd.R_alloc | apply Kd.R_drewN | apply Kd.R_drew)); exact HO_461000.out) hb); have n1_ := Aside0.mk (Kd.R_below (by (with_reducible repeat (first | apply Kd.R_alloc | apply Kd.R_drewN | apply Kd.R_drew)); exact HO_466000.out) hb); have n2_ := Aside0.mk (Kd.R_below (by (with_reducible repeat (first | apply Kd.R_alloc | apply Kd.R_drewN | apply Kd.R_drew)); exact HO_472000.out) hb); have n3_ := Aside0.mk (blk_below (g := gb449) (o := .cells #[.slice A0_0 l0_0.length c0_0, .int .i64 a0_1] 24 (0, 0)) (by (with_reducible repeat (first | refine blk_drewN ?_ _ | refine blk_drew ?_ | refine blk_alloc ?_ _)); exact BK449.out) hb); have n4_ := Aside0.mk (blk_below (g := gb460) (o := .cells #[.slice Ao21 t455.length co21, .int .i64 t458] 27 (0, 0)) (by (with_reducible repeat (first | refine blk_drewN ?_ _ | refine blk_drew ?_ | refine blk_alloc ?_ _)); exact BK460.out) hb); have n5_ := Aside0.mk (blk_below (g := gb465) (o := .cells #[.slice Ao27 t479.length co27, .int .i64 t464] 27 (0, 0)) (by (with_reducible repeat (first | refine blk_drewN ?_ _ | refine blk_drew ?_ | refine blk_alloc ?_ _)); exact BK465.out) hb); have n6_ := Aside0.mk (blk_below (g := gb471) (o := .cells #[.slice Ao33 t466.length co33, .int .i64 t469] 27 (0, 0)) (by (with_reducible repeat (first | refine blk_drewN ?_ _ | refine blk_drew ?_ | refine blk_alloc ?_ _)); exact BK471.out) hb); have n7_ := Aside0.mk (below_step (by repeat (first | (with_reducible first | exact HB.out | apply below_alloc | apply pw_below_drewN | apply below_drew1 | refine below_set ?_ GE449.out | refine below_set ?_ GE460.out | refine below_set ?_ GE465.out | refine below_set ?_ GE471.out) | exact HB.out)) hb); clear HO_461000; clear HO_466000; clear HO_472000; clear BK449; clear BK460; clear BK465; clear BK471; clear HB; have HO_461000 := n0_; have HO_466000 := n1_; have HO_472000 := n2_; have BK449 := n3_; have BK460 := n4_; have BK465 := n5_; have BK471 := n6_; have HB := n7_; clear n0_ n1_ n2_ n3_ n4_ n5_ n6_ n7_; (try clear hb); (try clear hb2); (try clear hk); (try clear hi)))
                    go_ret
                    exact ⟨by first | rfl | (simp [errW_none, errW_some] <;> rfl) | (simp [*, errW_none, errW_some] <;> rfl), by repeat (first | (with_reducible first | exact HB.out | apply below_alloc | apply pw_below_drewN | apply below_drew1 | refine below_set ?_ GE449.out | refine below_set ?_ GE460.out | refine below_set ?_ GE465.out | refine below_set ?_ GE471.out) | exact HB.out)⟩
                  · rw [if_neg c93] at H
                    have c93b0 : decide (t483 < 0) = false := decide_eq_false c93
                    clear c93
                    by_cases c101 : t483 = t481
                    · rw [if_pos c101] at H
                      have c101b0 : (t483 == t481) = true := beq_iff_eq.mpr c101
                      have c101b1 : (t483 != t481) = false := bne_eq_false_iff_eq.mpr c101
                      clear c101
                      replace H := Option.bind_eq_some_iff.mp H
                      obtain ⟨⟨t484, t487⟩, A1020, H⟩ := H
                      replace H : ((impl_CutStack.f kj60 t484 t487 a1).bind fun bt488 => ((laws_eqStack.f kj60 bt488.1 bt488.2.1 t455 t458).bind fun t494 => (if t494 = true then (laws_FnExactCutStack.j2 kj60 t481 (bt488.2.2 != t459) t482 t469) else (laws_FnExactCutStack.j2 kj60 t481 true t482 t469)))) = some r := H
                      have A102 := Aside0.mk A1020
                      clear A1020
                      replace H := Option.bind_eq_some_iff.mp H
                      obtain ⟨⟨t488, t491, t492⟩, A1030, H⟩ := H
                      replace H : ((laws_eqStack.f kj60 t488 t491 t455 t458).bind fun t494 => (if t494 = true then (laws_FnExactCutStack.j2 kj60 t481 (t492 != t459) t482 t469) else (laws_FnExactCutStack.j2 kj60 t481 true t482 t469))) = some r := H
                      have A103 := Aside0.mk A1030
                      clear A1030
                      have HC104 := Aside0.mk H
                      clear H
                      have hnb105 := NB471_449.out
                      have hnc105 := NB449_471.out
                      have hnb106 := NB471_460.out
                      have hnc106 := NB460_471.out
                      have hnb107 := NB471_465.out
                      have hnc107 := NB465_471.out
                      have hcz108_0 : wc.cell? ⟨gb471, 0, none⟩ = some (.slice Ao33 t466.length co33) := (blk_cell BK471.out 0).trans rfl
                      have hcz108_1 : wc.cell? ⟨gb471, 1, none⟩ = some (.int .i64 t469) := (blk_cell BK471.out 1).trans rfl
                      have hfz108_0 := blk_frozen BK471.out 0
                      have hfz108_1 := blk_frozen BK471.out 1
                      go_upto_region 25 with (first | ((with_reducible refine gate_callee (f := 29) rfl ?_); refine goesL_ (some 68) rfl rfl Try.func29 (by kernel_rfl) rfl #[.agg #[.slice Ao33 t466.length co33, .int .i64 t469], .int .i64 1] rfl (by (try simp only [List.map_toArray, List.map_cons, List.map_nil]); first | done | rfl | (simp only [List.length_drop, List.length_take]; rfl)) ?_; (with_reducible refine (laws_markStack.calls kj60 (fun k_ => some k_ = (.slice Ao33 t466.length co33 : Value).ownBlock) (.slice Ao33 t466.length co33) t466 t469 1 t481 t482 w _ ?side1 ?side2 A91.out).mono ?_); (case side1 => repeat (first | (with_reducible first | exact HB.out | apply below_alloc | apply pw_below_drewN | apply below_drew1 | refine below_set ?_ GE449.out | refine below_set ?_ GE460.out | refine below_set ?_ GE465.out | refine below_set ?_ GE471.out) | exact HB.out)); (case side2 => exact Kd.R_tight rfl HO_472000.out); rintro e w109 ⟨rfl, hy0, hb, hkp⟩; refine ⟨_, rfl, ?_⟩; have n0_ := Aside0.mk (Kd.R_mono (ok' := fun k_ => some k_ ≠ (.slice Ao27 t479.length co27 : Value).ownBlock ∧ some k_ ≠ (.slice Ao33 t466.length co33 : Value).ownBlock) (Kd.R_keptB (HO_461000.out) hkp (fun k_ hk_ hs_ => (hk_.2) hs_)) (fun k_ hk_ => ⟨hk_.1.1, hk_.1.2⟩)); have n1_ := Aside0.mk (Kd.R_mono (ok' := fun k_ => some k_ ≠ (.slice Ao21 t455.length co21 : Value).ownBlock ∧ some k_ ≠ (.slice Ao33 t466.length co33 : Value).ownBlock) (Kd.R_keptB (HO_466000.out) hkp (fun k_ hk_ hs_ => (hk_.2) hs_)) (fun k_ hk_ => ⟨hk_.1.1, hk_.1.2⟩)); have n2_ := Aside0.mk (Kd.R_reok rfl hy0 (fun k_ e_ => HO_472000.out.1 k_ e_)); have n3_ := Aside0.mk (blk_kept (by (with_reducible repeat (first | refine blk_drewN ?_ _ | refine blk_drew ?_ | refine blk_alloc ?_ _)); exact BK449.out) hkp (fun hs_ => (fun e_ => (Kd.R_ne HO_472000.out BK449.out (by decide)) e_) hs_)); have n4_ := Aside0.mk (blk_kept (by (with_reducible repeat (first | refine blk_drewN ?_ _ | refine blk_drew ?_ | refine blk_alloc ?_ _)); exact BK460.out) hkp (fun hs_ => (fun e_ => (Kd.R_ne HO_472000.out BK460.out (by decide)) e_) hs_)); have n5_ := Aside0.mk (blk_kept (by (with_reducible repeat (first | refine blk_drewN ?_ _ | refine blk_drew ?_ | refine blk_alloc ?_ _)); exact BK465.out) hkp (fun hs_ => (fun e_ => (Kd.R_ne HO_472000.out BK465.out (by decide)) e_) hs_)); have n6_ := Aside0.mk (blk_kept (by (with_reducible repeat (first | refine blk_drewN ?_ _ | refine blk_drew ?_ | refine blk_alloc ?_ _)); exact BK471.out) hkp (fun hs_ => (fun e_ => (Kd.R_ne HO_472000.out BK471.out (by decide)) e_) hs_)); have n7_ := Aside0.mk (hb); clear HO_461000; clear HO_466000; clear HO_472000; clear BK449; clear BK460; clear BK465; clear BK471; clear HB; have HO_461000 := n0_; have HO_466000 := n1_; have HO_472000 := n2_; have BK449 := n3_; have BK460 := n4_; have BK465 := n5_; have BK471 := n6_; have HB := n7_; clear n0_ n1_ n2_ n3_ n4_ n5_ n6_ n7_; (try clear hb); (try clear hkp); (try clear hy0); have hcz110_0 : w109.cell? ⟨gb471, 0, none⟩ = some (.slice Ao33 t466.length co33) := (blk_cell BK471.out 0).trans rfl; have hcz110_1 : w109.cell? ⟨gb471, 1, none⟩ = some (.int .i64 t469) := (blk_cell BK471.out 1).trans rfl; have hfz110_0 := blk_frozen BK471.out 0; have hfz110_1 := blk_frozen BK471.out 1) | ((with_reducible refine gate_callee (f := 33) rfl ?_); refine goesL_ (some 71) rfl rfl Try.func33 (by kernel_rfl) rfl #[.agg #[.slice Ao33 t482.length co33, .int .i64 t469], .int .i64 1] rfl (by (try simp only [List.map_toArray, List.map_cons, List.map_nil]); first | done | (rw [show t482.length = t466.length from (Kd.R_reads' HO_472000.out).1.symm] <;> rfl) | rfl | (simp only [List.length_drop, List.length_take]; rfl)) ?_; (with_reducible refine (laws_heldStack.calls kj60 _ _ t482 t469 1 t483 _ ?side1 ?side2 A92.out).mono ?_); (case side1 => repeat (first | exact (Kd.R_reads' HO_472000.out).2.2 | (with_reducible refine Kd.C_alloc ?_ _) | (with_reducible refine Kd.C_drewN ?_ _) | (with_reducible refine Kd.C_drew ?_))); (case side2 => rw [show t482.length = t466.length from (Kd.R_reads' HO_472000.out).1.symm]; exact (Kd.R_reads' HO_472000.out).2.1); rintro e w111 ⟨rfl, hb⟩; refine ⟨_, rfl, ?_⟩; have n0_ := Aside0.mk (Kd.R_below (by (with_reducible repeat (first | apply Kd.R_alloc | apply Kd.R_drewN | apply Kd.R_drew)); exact HO_461000.out) hb); have n1_ := Aside0.mk (Kd.R_below (by (with_reducible repeat (first | apply Kd.R_alloc | apply Kd.R_drewN | apply Kd.R_drew)); exact HO_466000.out) hb); have n2_ := Aside0.mk (Kd.R_below (by (with_reducible repeat (first | apply Kd.R_alloc | apply Kd.R_drewN | apply Kd.R_drew)); exact HO_472000.out) hb); have n3_ := Aside0.mk (blk_below (g := gb449) (o := .cells #[.slice A0_0 l0_0.length c0_0, .int .i64 a0_1] 24 (0, 0)) (by (with_reducible repeat (first | refine blk_drewN ?_ _ | refine blk_drew ?_ | refine blk_alloc ?_ _)); exact BK449.out) hb); have n4_ := Aside0.mk (blk_below (g := gb460) (o := .cells #[.slice Ao21 t455.length co21, .int .i64 t458] 27 (0, 0)) (by (with_reducible repeat (first | refine blk_drewN ?_ _ | refine blk_drew ?_ | refine blk_alloc ?_ _)); exact BK460.out) hb); have n5_ := Aside0.mk (blk_below (g := gb465) (o := .cells #[.slice Ao27 t479.length co27, .int .i64 t464] 27 (0, 0)) (by (with_reducible repeat (first | refine blk_drewN ?_ _ | refine blk_drew ?_ | refine blk_alloc ?_ _)); exact BK465.out) hb); have n6_ := Aside0.mk (blk_below (g := gb471) (o := .cells #[.slice Ao33 t466.length co33, .int .i64 t469] 27 (0, 0)) (by (with_reducible repeat (first | refine blk_drewN ?_ _ | refine blk_drew ?_ | refine blk_alloc ?_ _)); exact BK471.out) hb); have n7_ := Aside0.mk (below_step (by repeat (first | (with_reducible first | exact HB.out | apply below_alloc | apply pw_below_drewN | apply below_drew1 | refine below_set ?_ GE449.out | refine below_set ?_ GE460.out | refine below_set ?_ GE465.out | refine below_set ?_ GE471.out) | exact HB.out)) hb); clear HO_461000; clear HO_466000; clear HO_472000; clear BK449; clear BK460; clear BK465; clear BK471; clear HB; have HO_461000 := n0_; have HO_466000 := n1_; have HO_472000 := n2_; have BK449 := n3_; have BK460 := n4_; have BK465 := n5_; have BK471 := n6_; have HB := n7_; clear n0_ n1_ n2_ n3_ n4_ n5_ n6_ n7_; (try clear hb); (try clear hb2); (try clear hk); (try clear hi); have hnb112 := NB449_460.out; have hnc112 := NB460_449.out; have hnb113 := NB449_465.out; have hnc113 := NB465_449.out; have hcz114_0 : w111.cell? ⟨gb449, 0, none⟩ = some (.slice A0_0 l0_0.length c0_0) := (blk_cell BK449.out 0).trans rfl; have hcz114_1 : w111.cell? ⟨gb449, 1, none⟩ = some (.int .i64 a0_1) := (blk_cell BK449.out 1).trans rfl; have hfz114_0 := blk_frozen BK449.out 0; have hfz114_1 := blk_frozen BK449.out 1) | ((with_reducible refine gate_callee (f := 17) rfl ?_); refine goesL_ (some 79) rfl rfl Try.func17 (by kernel_rfl) rfl #[.agg #[.slice A0_0 l0_0.length c0_0, .int .i64 a0_1]] rfl (by (try simp only [List.map_toArray, List.map_cons, List.map_nil]); first | done | rfl | (simp only [List.length_drop, List.length_take]; rfl)) ?_; (with_reducible refine (laws_toStack.calls kj60 _ _ l0_0 a0_1 t484 t487 _ ?side1 ?side2 A102.out).mono ?_); (case side1 => repeat (first | exact (Kd.C_below HR0_0.out HB.out) | (with_reducible refine Kd.C_alloc ?_ _) | (with_reducible refine Kd.C_drewN ?_ _) | (with_reducible refine Kd.C_drew ?_))); (case side2 => exact HC0_0.out); rintro e w115 ⟨v485, rfl, ho0, hb⟩; refine ⟨_, rfl, ?_⟩; have n0_ := Aside0.mk (Kd.R_elder' (by (with_reducible repeat (first | apply Kd.R_alloc | apply Kd.R_drewN | apply Kd.R_drew)); exact HO_461000.out) (Kd.R_base ho0) hb); have n1_ := Aside0.mk (Kd.R_elder' (by (with_reducible repeat (first | apply Kd.R_alloc | apply Kd.R_drewN | apply Kd.R_drew)); exact HO_466000.out) (Kd.R_base ho0) hb); have n2_ := Aside0.mk (Kd.R_elder' (by (with_reducible repeat (first | apply Kd.R_alloc | apply Kd.R_drewN | apply Kd.R_drew)); exact HO_472000.out) (Kd.R_base ho0) hb); have n3_ := Aside0.mk (Kd.R_lower (Kd.R_new' (Kd.R_new' (Kd.R_new' ho0 (Kd.R_lt (by (with_reducible repeat (first | apply Kd.R_alloc | apply Kd.R_drewN | apply Kd.R_drew)); exact HO_461000.out))) (Kd.R_lt (by (with_reducible repeat (first | apply Kd.R_alloc | apply Kd.R_drewN | apply Kd.R_drew)); exact HO_466000.out))) (Kd.R_lt (by (with_reducible repeat (first | apply Kd.R_alloc | apply Kd.R_drewN | apply Kd.R_drew)); exact HO_472000.out))) (below_size (by repeat (first | (with_reducible first | exact HB.out | apply below_alloc | apply pw_below_drewN | apply below_drew1 | refine below_set ?_ GE449.out | refine below_set ?_ GE460.out | refine below_set ?_ GE465.out | refine below_set ?_ GE471.out) | exact HB.out)))); have n4_ := Aside0.mk (blk_below (g := gb449) (o := .cells #[.slice A0_0 l0_0.length c0_0, .int .i64 a0_1] 24 (0, 0)) (by (with_reducible repeat (first | refine blk_drewN ?_ _ | refine blk_drew ?_ | refine blk_alloc ?_ _)); exact BK449.out) hb); have n5_ := Aside0.mk (blk_below (g := gb460) (o := .cells #[.slice Ao21 t455.length co21, .int .i64 t458] 27 (0, 0)) (by (with_reducible repeat (first | refine blk_drewN ?_ _ | refine blk_drew ?_ | refine blk_alloc ?_ _)); exact BK460.out) hb); have n6_ := Aside0.mk (blk_below (g := gb465) (o := .cells #[.slice Ao27 t479.length co27, .int .i64 t464] 27 (0, 0)) (by (with_reducible repeat (first | refine blk_drewN ?_ _ | refine blk_drew ?_ | refine blk_alloc ?_ _)); exact BK465.out) hb); have n7_ := Aside0.mk (blk_below (g := gb471) (o := .cells #[.slice Ao33 t466.length co33, .int .i64 t469] 27 (0, 0)) (by (with_reducible repeat (first | refine blk_drewN ?_ _ | refine blk_drew ?_ | refine blk_alloc ?_ _)); exact BK471.out) hb); have n8_ := Aside0.mk (below_step (by repeat (first | (with_reducible first | exact HB.out | apply below_alloc | apply pw_below_drewN | apply below_drew1 | refine below_set ?_ GE449.out | refine below_set ?_ GE460.out | refine below_set ?_ GE465.out | refine below_set ?_ GE471.out) | exact HB.out)) hb); clear HO_461000; clear HO_466000; clear HO_472000; clear BK449; clear BK460; clear BK465; clear BK471; clear HB; have HO_461000 := n0_; have HO_466000 := n1_; have HO_472000 := n2_; have HO486 := n3_; have BK449 := n4_; have BK460 := n5_; have BK465 := n6_; have BK471 := n7_; have HB := n8_; clear n0_ n1_ n2_ n3_ n4_ n5_ n6_ n7_ n8_; (try clear hb); (try clear hb2); (try clear hk); (try clear hi); (try clear ho0); obtain ⟨Ao116, co116, eo116⟩ := Kd.R_slice HO486.out; subst eo116) | ((with_reducible refine gate_callee (f := 23) rfl ?_); refine goesL_ (some 81) rfl rfl Try.func23 (by kernel_rfl) rfl #[.agg #[.slice Ao116 t484.length co116, .int .i64 t487], .int .i64 a1] rfl (by (try simp only [List.map_toArray, List.map_cons, List.map_nil]); first | done | rfl | (simp only [List.length_drop, List.length_take]; rfl)) ?_; (with_reducible refine (impl_CutStack.calls kj60 _ _ t484 t487 a1 t488 t491 t492 _ ?side1 ?side2 A103.out).mono ?_); (case side1 => repeat (first | exact (Kd.R_reads' HO486.out).2.2 | (with_reducible refine Kd.C_alloc ?_ _) | (with_reducible refine Kd.C_drewN ?_ _) | (with_reducible refine Kd.C_drew ?_))); (case side2 => exact (Kd.R_reads' HO486.out).2.1); rintro e w117 ⟨v489, rfl, ho0, hb⟩; refine ⟨_, rfl, ?_⟩; have n0_ := Aside0.mk (Kd.R_elder' (by (with_reducible repeat (first | apply Kd.R_alloc | apply Kd.R_drewN | apply Kd.R_drew)); exact HO_461000.out) (Kd.R_base ho0) hb); have n1_ := Aside0.mk (Kd.R_elder' (by (with_reducible repeat (first | apply Kd.R_alloc | apply Kd.R_drewN | apply Kd.R_drew)); exact HO_466000.out) (Kd.R_base ho0) hb); have n2_ := Aside0.mk (Kd.R_elder' (by (with_reducible repeat (first | apply Kd.R_alloc | apply Kd.R_drewN | apply Kd.R_drew)); exact HO_472000.out) (Kd.R_base ho0) hb); have n3_ := Aside0.mk (Kd.R_elder' (by (with_reducible repeat (first | apply Kd.R_alloc | apply Kd.R_drewN | apply Kd.R_drew)); exact HO486.out) (Kd.R_base ho0) hb); have n4_ := Aside0.mk (Kd.R_lower (Kd.R_new' (Kd.R_new' (Kd.R_new' (Kd.R_new' ho0 (Kd.R_lt (by (with_reducible repeat (first | apply Kd.R_alloc | apply Kd.R_drewN | apply Kd.R_drew)); exact HO_461000.out))) (Kd.R_lt (by (with_reducible repeat (first | apply Kd.R_alloc | apply Kd.R_drewN | apply Kd.R_drew)); exact HO_466000.out))) (Kd.R_lt (by (with_reducible repeat (first | apply Kd.R_alloc | apply Kd.R_drewN | apply Kd.R_drew)); exact HO_472000.out))) (Kd.R_lt (by (with_reducible repeat (first | apply Kd.R_alloc | apply Kd.R_drewN | apply Kd.R_drew)); exact HO486.out))) (below_size (by repeat (first | (with_reducible first | exact HB.out | apply below_alloc | apply pw_below_drewN | apply below_drew1 | refine below_set ?_ GE449.out | refine below_set ?_ GE460.out | refine below_set ?_ GE465.out | refine below_set ?_ GE471.out) | exact HB.out)))); have n5_ := Aside0.mk (blk_below (g := gb449) (o := .cells #[.slice A0_0 l0_0.length c0_0, .int .i64 a0_1] 24 (0, 0)) (by (with_reducible repeat (first | refine blk_drewN ?_ _ | refine blk_drew ?_ | refine blk_alloc ?_ _)); exact BK449.out) hb); have n6_ := Aside0.mk (blk_below (g := gb460) (o := .cells #[.slice Ao21 t455.length co21, .int .i64 t458] 27 (0, 0)) (by (with_reducible repeat (first | refine blk_drewN ?_ _ | refine blk_drew ?_ | refine blk_alloc ?_ _)); exact BK460.out) hb); have n7_ := Aside0.mk (blk_below (g := gb465) (o := .cells #[.slice Ao27 t479.length co27, .int .i64 t464] 27 (0, 0)) (by (with_reducible repeat (first | refine blk_drewN ?_ _ | refine blk_drew ?_ | refine blk_alloc ?_ _)); exact BK465.out) hb); have n8_ := Aside0.mk (blk_below (g := gb471) (o := .cells #[.slice Ao33 t466.length co33, .int .i64 t469] 27 (0, 0)) (by (with_reducible repeat (first | refine blk_drewN ?_ _ | refine blk_drew ?_ | refine blk_alloc ?_ _)); exact BK471.out) hb); have n9_ := Aside0.mk (below_step (by repeat (first | (with_reducible first | exact HB.out | apply below_alloc | apply pw_below_drewN | apply below_drew1 | refine below_set ?_ GE449.out | refine below_set ?_ GE460.out | refine below_set ?_ GE465.out | refine below_set ?_ GE471.out) | exact HB.out)) hb); clear HO_461000; clear HO_466000; clear HO_472000; clear HO486; clear BK449; clear BK460; clear BK465; clear BK471; clear HB; have HO_461000 := n0_; have HO_466000 := n1_; have HO_472000 := n2_; have HO486 := n3_; have HO490 := n4_; have BK449 := n5_; have BK460 := n6_; have BK465 := n7_; have BK471 := n8_; have HB := n9_; clear n0_ n1_ n2_ n3_ n4_ n5_ n6_ n7_ n8_ n9_; (try clear hb); (try clear hb2); (try clear hk); (try clear hi); (try clear ho0)) | ((with_reducible refine gate_dst (N := 14) rfl ?_); refine box_event ?hg (N := 14) ?hd (cs := #[.slice none 0 0, .int .i64 0]) (t := 27) ?hr ?_; (case hd => rfl); (case hg => rfl); (case hr => first | (go_simp; done) | (go_simp; rfl)); intro gb493 hg w118 hbox hb; have n0_ := Aside0.mk (Kd.R_below (by (with_reducible repeat (first | apply Kd.R_alloc | apply Kd.R_drewN | apply Kd.R_drew)); exact HO_461000.out) hb); have n1_ := Aside0.mk (Kd.R_below (by (with_reducible repeat (first | apply Kd.R_alloc | apply Kd.R_drewN | apply Kd.R_drew)); exact HO_466000.out) hb); have n2_ := Aside0.mk (Kd.R_below (by (with_reducible repeat (first | apply Kd.R_alloc | apply Kd.R_drewN | apply Kd.R_drew)); exact HO_472000.out) hb); have n3_ := Aside0.mk (Kd.R_below (by (with_reducible repeat (first | apply Kd.R_alloc | apply Kd.R_drewN | apply Kd.R_drew)); exact HO486.out) hb); have n4_ := Aside0.mk (Kd.R_below (by (with_reducible repeat (first | apply Kd.R_alloc | apply Kd.R_drewN | apply Kd.R_drew)); exact HO490.out) hb); have n5_ := Aside0.mk (blk_below (g := gb449) (o := .cells #[.slice A0_0 l0_0.length c0_0, .int .i64 a0_1] 24 (0, 0)) (by (with_reducible repeat (first | refine blk_drewN ?_ _ | refine blk_drew ?_ | refine blk_alloc ?_ _)); exact BK449.out) hb); have n6_ := Aside0.mk (blk_below (g := gb460) (o := .cells #[.slice Ao21 t455.length co21, .int .i64 t458] 27 (0, 0)) (by (with_reducible repeat (first | refine blk_drewN ?_ _ | refine blk_drew ?_ | refine blk_alloc ?_ _)); exact BK460.out) hb); have n7_ := Aside0.mk (blk_below (g := gb465) (o := .cells #[.slice Ao27 t479.length co27, .int .i64 t464] 27 (0, 0)) (by (with_reducible repeat (first | refine blk_drewN ?_ _ | refine blk_drew ?_ | refine blk_alloc ?_ _)); exact BK465.out) hb); have n8_ := Aside0.mk (blk_below (g := gb471) (o := .cells #[.slice Ao33 t466.length co33, .int .i64 t469] 27 (0, 0)) (by (with_reducible repeat (first | refine blk_drewN ?_ _ | refine blk_drew ?_ | refine blk_alloc ?_ _)); exact BK471.out) hb); have n9_ := Aside0.mk (below_step (by repeat (first | (with_reducible first | exact HB.out | apply below_alloc | apply pw_below_drewN | apply below_drew1 | refine below_set ?_ GE449.out | refine below_set ?_ GE460.out | refine below_set ?_ GE465.out | refine below_set ?_ GE471.out) | exact HB.out)) hb); have n10_ := Aside0.mk (hbox); have n11_ := Aside0.mk ((by rw [hg]; exact (below_size (by repeat (first | (with_reducible first | exact HB.out | apply below_alloc | apply pw_below_drewN | apply below_drew1 | refine below_set ?_ GE449.out | refine below_set ?_ GE460.out | refine below_set ?_ GE465.out | refine below_set ?_ GE471.out) | exact HB.out))) : w.heap.size ≤ gb493)); have n12_ := Aside0.mk ((by rw [hg]; exact (below_size (by repeat (first | (with_reducible first | exact HB.out | apply below_alloc | apply pw_below_drewN | apply below_drew1 | refine below_set ?_ GE449.out | refine below_set ?_ GE460.out | refine below_set ?_ GE465.out | refine below_set ?_ GE471.out) | exact HB.out))) : w.heap.size ≤ gb493)); have n13_ := Aside0.mk ((by rw [hg]; exact Nat.ne_of_lt (blk_lt (g := gb449) (o := .cells #[.slice A0_0 l0_0.length c0_0, .int .i64 a0_1] 24 (0, 0)) (by (with_reducible repeat (first | refine blk_drewN ?_ _ | refine blk_drew ?_ | refine blk_alloc ?_ _)); exact BK449.out)) : gb449 ≠ gb493)); have n14_ := Aside0.mk ((by rw [hg]; exact Nat.ne_of_gt (blk_lt (g := gb449) (o := .cells #[.slice A0_0 l0_0.length c0_0, .int .i64 a0_1] 24 (0, 0)) (by (with_reducible repeat (first | refine blk_drewN ?_ _ | refine blk_drew ?_ | refine blk_alloc ?_ _)); exact BK449.out)) : gb493 ≠ gb449)); have n15_ := Aside0.mk ((by rw [hg]; exact Nat.ne_of_lt (blk_lt (g := gb460) (o := .cells #[.slice Ao21 t455.length co21, .int .i64 t458] 27 (0, 0)) (by (with_reducible repeat (first | refine blk_drewN ?_ _ | refine blk_drew ?_ | refine blk_alloc ?_ _)); exact BK460.out)) : gb460 ≠ gb493)); have n16_ := Aside0.mk ((by rw [hg]; exact Nat.ne_of_gt (blk_lt (g := gb460) (o := .cells #[.slice Ao21 t455.length co21, .int .i64 t458] 27 (0, 0)) (by (with_reducible repeat (first | refine blk_drewN ?_ _ | refine blk_drew ?_ | refine blk_alloc ?_ _)); exact BK460.out)) : gb493 ≠ gb460)); have n17_ := Aside0.mk ((by rw [hg]; exact Nat.ne_of_lt (blk_lt (g := gb465) (o := .cells #[.slice Ao27 t479.length co27, .int .i64 t464] 27 (0, 0)) (by (with_reducible repeat (first | refine blk_drewN ?_ _ | refine blk_drew ?_ | refine blk_alloc ?_ _)); exact BK465.out)) : gb465 ≠ gb493)); have n18_ := Aside0.mk ((by rw [hg]; exact Nat.ne_of_gt (blk_lt (g := gb465) (o := .cells #[.slice Ao27 t479.length co27, .int .i64 t464] 27 (0, 0)) (by (with_reducible repeat (first | refine blk_drewN ?_ _ | refine blk_drew ?_ | refine blk_alloc ?_ _)); exact BK465.out)) : gb493 ≠ gb465)); have n19_ := Aside0.mk ((by rw [hg]; exact Nat.ne_of_lt (blk_lt (g := gb471) (o := .cells #[.slice Ao33 t466.length co33, .int .i64 t469] 27 (0, 0)) (by (with_reducible repeat (first | refine blk_drewN ?_ _ | refine blk_drew ?_ | refine blk_alloc ?_ _)); exact BK471.out)) : gb471 ≠ gb493)); have n20_ := Aside0.mk ((by rw [hg]; exact Nat.ne_of_gt (blk_lt (g := gb471) (o := .cells #[.slice Ao33 t466.length co33, .int .i64 t469] 27 (0, 0)) (by (with_reducible repeat (first | refine blk_drewN ?_ _ | refine blk_drew ?_ | refine blk_alloc ?_ _)); exact BK471.out)) : gb493 ≠ gb471)); clear HO_461000; clear HO_466000; clear HO_472000; clear HO486; clear HO490; clear BK449; clear BK460; clear BK465; clear BK471; clear HB; have HO_461000 := n0_; have HO_466000 := n1_; have HO_472000 := n2_; have HO486 := n3_; have HO490 := n4_; have BK449 := n5_; have BK460 := n6_; have BK465 := n7_; have BK471 := n8_; have HB := n9_; have BK493 := n10_; have GW493 := n11_; have GE493 := n12_; have NB449_493 := n13_; have NB493_449 := n14_; have NB460_493 := n15_; have NB493_460 := n16_; have NB465_493 := n17_; have NB493_465 := n18_; have NB471_493 := n19_; have NB493_471 := n20_; clear n0_ n1_ n2_ n3_ n4_ n5_ n6_ n7_ n8_ n9_ n10_ n11_ n12_ n13_ n14_ n15_ n16_ n17_ n18_ n19_ n20_; clear hb hbox hg; obtain ⟨Ao119, co119, eo119⟩ := Kd.R_slice HO490.out; subst eo119; have hnb120 := NB493_449.out; have hnc120 := NB449_493.out; have hnb121 := NB493_460.out; have hnc121 := NB460_493.out; have hnb122 := NB493_465.out; have hnc122 := NB465_493.out; have hnb123 := NB493_471.out; have hnc123 := NB471_493.out; have hcz124_0 : w118.cell? ⟨gb493, 0, none⟩ = some (.slice none 0 0) := (blk_cell BK493.out 0).trans rfl; have hcz124_1 : w118.cell? ⟨gb493, 1, none⟩ = some (.int .i64 0) := (blk_cell BK493.out 1).trans rfl; have hfz124_0 := blk_frozen BK493.out 0; have hfz124_1 := blk_frozen BK493.out 1))
                      (try simp only [Act.put, List.setIfInBounds_toArray, List.set_cons_zero, List.set_cons_succ])
                      go_cut [92] (fun v92 wc => ∃ (kq : Nat) (x92_103 : Bool), v92 = .bool x92_103 ∧ Aside0 (laws_FnExactCutStack.j2 kq t481 x92_103 t482 t469 = some r) ∧ Aside0 (kq ≤ kj60) ∧ Aside0 (Kd.R (Kd.int .i64) 3 wc w.heap.size (fun k_ => some k_ ≠ ((.slice Ao27 t479.length co27) : Value).ownBlock ∧ some k_ ≠ ((.slice Ao33 t466.length co33) : Value).ownBlock ∧ some k_ ≠ ((.slice Ao119 t488.length co119) : Value).ownBlock) (.slice Ao21 t455.length co21) t455) ∧ Aside0 (Kd.R (Kd.int .i64) 3 wc w.heap.size (fun k_ => some k_ ≠ ((.slice Ao21 t455.length co21) : Value).ownBlock ∧ some k_ ≠ ((.slice Ao33 t466.length co33) : Value).ownBlock ∧ some k_ ≠ ((.slice Ao119 t488.length co119) : Value).ownBlock) (.slice Ao27 t479.length co27) t479) ∧ Aside0 (Kd.R (Kd.int .i64) 3 wc w.heap.size (fun k_ => some k_ ≠ ((.slice Ao21 t455.length co21) : Value).ownBlock ∧ some k_ ≠ ((.slice Ao27 t479.length co27) : Value).ownBlock ∧ some k_ ≠ ((.slice Ao119 t488.length co119) : Value).ownBlock) (.slice Ao33 t466.length co33) t482) ∧ Aside0 (Kd.R (Kd.int .i64) 3 wc w.heap.size (fun k_ => some k_ ≠ ((.slice Ao21 t455.length co21) : Value).ownBlock ∧ some k_ ≠ ((.slice Ao27 t479.length co27) : Value).ownBlock ∧ some k_ ≠ ((.slice Ao33 t466.length co33) : Value).ownBlock) (.slice Ao119 t488.length co119) t488) ∧ Aside0 (wc.heap[gb449]? = some (.cells #[(.slice A0_0 l0_0.length c0_0), .int .i64 a0_1] 24 (0, 0))) ∧ Aside0 (wc.heap[gb460]? = some (.cells #[(.slice Ao21 t455.length co21), .int .i64 t458] 27 (0, 0))) ∧ Aside0 (wc.heap[gb465]? = some (.cells #[(.slice Ao27 t479.length co27), .int .i64 t464] 27 (0, 0))) ∧ Aside0 (wc.heap[gb471]? = some (.cells #[(.slice Ao33 t466.length co33), .int .i64 t469] 27 (0, 0))) ∧ Aside0 (wc.heap[gb493]? = some (.cells #[(.slice Ao119 t488.length co119), .int .i64 t491] 27 (0, 0))) ∧ Aside0 (Below w.heap.size w wc))
                      case first =>
                        have H := HC104.out
                        clear HC104
                        replace H := Option.bind_eq_some_iff.mp H
                        obtain ⟨t494, A1250, H⟩ := H
                        replace H : (if t494 = true then (laws_FnExactCutStack.j2 kj60 t481 (t492 != t459) t482 t469) else (laws_FnExactCutStack.j2 kj60 t481 true t482 t469)) = some r := H
                        have A125 := Aside0.mk A1250
                        clear A1250
                        by_cases c126 : t494 = true
                        · subst c126
                          have H1 : (laws_FnExactCutStack.j2 kj60 t481 (t492 != t459) t482 t469) = some r := by rw [if_pos rfl] at H; exact H
                          clear H
                          have H := H1
                          clear H1
                          have H' := Aside0.mk H
                          clear H
                          have hnb127 := NB493_449.out
                          have hnc127 := NB449_493.out
                          have hnb128 := NB493_460.out
                          have hnc128 := NB460_493.out
                          have hnb129 := NB493_465.out
                          have hnc129 := NB465_493.out
                          have hnb130 := NB493_471.out
                          have hnc130 := NB471_493.out
                          have hcz131_0 : w118.cell? ⟨gb493, 0, none⟩ = some (.slice none 0 0) := (blk_cell BK493.out 0).trans rfl
                          have hcz131_1 : w118.cell? ⟨gb493, 1, none⟩ = some (.int .i64 0) := (blk_cell BK493.out 1).trans rfl
                          have hfz131_0 := blk_frozen BK493.out 0
                          have hfz131_1 := blk_frozen BK493.out 1
                          have hnb132 := NB460_449.out
                          have hnc132 := NB449_460.out
                          have hnb133 := NB460_465.out
                          have hnc133 := NB465_460.out
                          have hnb134 := NB460_471.out
                          have hnc134 := NB471_460.out
                          have hcz135_0 : w118.cell? ⟨gb460, 0, none⟩ = some (.slice Ao21 t455.length co21) := (blk_cell BK460.out 0).trans rfl
                          have hcz135_1 : w118.cell? ⟨gb460, 1, none⟩ = some (.int .i64 t458) := (blk_cell BK460.out 1).trans rfl
                          have hfz135_0 := blk_frozen BK460.out 0
                          have hfz135_1 := blk_frozen BK460.out 1
                          go_wp2_with (first | ((with_reducible refine gate_callee (f := 19) rfl ?_); refine goesL_ (some 86) rfl rfl Try.func19 (by kernel_rfl) rfl #[.agg #[.slice Ao119 t488.length co119, .int .i64 t491], .agg #[.slice Ao21 t455.length co21, .int .i64 t458]] rfl (by (try simp only [List.map_toArray, List.map_cons, List.map_nil]); first | done | rfl | (simp only [List.length_drop, List.length_take]; rfl)) ?_; (with_reducible refine (laws_eqStack.calls kj60 _ _ t488 t491 _ _ t455 t458 true _ ?side1 ?side2 ?side3 ?side4 A125.out).mono ?_); (case side1 => refine (Kd.R_reads' (e := 3) (base := w.heap.size) (ok := fun k_ => ((((True ∧ some k_ ≠ (.slice Ao21 t455.length co21 : Value).ownBlock) ∧ some k_ ≠ (.slice Ao27 t479.length co27 : Value).ownBlock) ∧ some k_ ≠ (.slice Ao33 t466.length co33 : Value).ownBlock) ∧ some k_ ≠ (.slice Ao116 t484.length co116 : Value).ownBlock)) (n := t488.length) (c := co119) ?_).2.2; exact (by (with_reducible repeat (first | apply Kd.R_alloc | apply Kd.R_drewN | apply Kd.R_drew)); exact (Kd.R_mono (Kd.R_far (p := ⟨gb493, 1, none⟩) (Kd.R_far (p := ⟨gb493, 0, none⟩) (Kd.R_types HO490.out BK493.out (by decide)) (fun _ hk => hk.2) (.slice Ao119 t488.length co119)) (fun _ hk => hk.2) (.int .i64 t491)) (fun _ h_ => h_.1)))); (case side2 => exact (Kd.R_reads' HO490.out).2.1); (case side3 => refine (Kd.R_reads' (e := 3) (base := w.heap.size) (ok := fun k_ => (((some k_ ≠ (.slice Ao27 t479.length co27 : Value).ownBlock ∧ some k_ ≠ (.slice Ao33 t466.length co33 : Value).ownBlock) ∧ some k_ ≠ (.slice Ao116 t484.length co116 : Value).ownBlock) ∧ some k_ ≠ (.slice Ao119 t488.length co119 : Value).ownBlock)) (n := t455.length) (c := co21) ?_).2.2; exact (by (with_reducible repeat (first | apply Kd.R_alloc | apply Kd.R_drewN | apply Kd.R_drew)); exact (Kd.R_mono (Kd.R_far (p := ⟨gb493, 1, none⟩) (Kd.R_far (p := ⟨gb493, 0, none⟩) (Kd.R_types HO_461000.out BK493.out (by decide)) (fun _ hk => hk.2) (.slice Ao119 t488.length co119)) (fun _ hk => hk.2) (.int .i64 t491)) (fun _ h_ => h_.1)))); (case side4 => exact (Kd.R_reads' HO_461000.out).2.1); rintro e w136 ⟨rfl, hb⟩; refine ⟨_, rfl, ?_⟩; have n0_ := Aside0.mk (Kd.R_below (by (with_reducible repeat (first | apply Kd.R_alloc | apply Kd.R_drewN | apply Kd.R_drew)); exact (Kd.R_mono (Kd.R_far (p := ⟨gb493, 1, none⟩) (Kd.R_far (p := ⟨gb493, 0, none⟩) (Kd.R_types HO_461000.out BK493.out (by decide)) (fun _ hk => hk.2) (.slice Ao119 t488.length co119)) (fun _ hk => hk.2) (.int .i64 t491)) (fun _ h_ => h_.1))) hb); have n1_ := Aside0.mk (Kd.R_below (by (with_reducible repeat (first | apply Kd.R_alloc | apply Kd.R_drewN | apply Kd.R_drew)); exact (Kd.R_mono (Kd.R_far (p := ⟨gb493, 1, none⟩) (Kd.R_far (p := ⟨gb493, 0, none⟩) (Kd.R_types HO_466000.out BK493.out (by decide)) (fun _ hk => hk.2) (.slice Ao119 t488.length co119)) (fun _ hk => hk.2) (.int .i64 t491)) (fun _ h_ => h_.1))) hb); have n2_ := Aside0.mk (Kd.R_below (by (with_reducible repeat (first | apply Kd.R_alloc | apply Kd.R_drewN | apply Kd.R_drew)); exact (Kd.R_mono (Kd.R_far (p := ⟨gb493, 1, none⟩) (Kd.R_far (p := ⟨gb493, 0, none⟩) (Kd.R_types HO_472000.out BK493.out (by decide)) (fun _ hk => hk.2) (.slice Ao119 t488.length co119)) (fun _ hk => hk.2) (.int .i64 t491)) (fun _ h_ => h_.1))) hb); have n3_ := Aside0.mk (Kd.R_below (by (with_reducible repeat (first | apply Kd.R_alloc | apply Kd.R_drewN | apply Kd.R_drew)); exact (Kd.R_mono (Kd.R_far (p := ⟨gb493, 1, none⟩) (Kd.R_far (p := ⟨gb493, 0, none⟩) (Kd.R_types HO486.out BK493.out (by decide)) (fun _ hk => hk.2) (.slice Ao119 t488.length co119)) (fun _ hk => hk.2) (.int .i64 t491)) (fun _ h_ => h_.1))) hb); have n4_ := Aside0.mk (Kd.R_below (by (with_reducible repeat (first | apply Kd.R_alloc | apply Kd.R_drewN | apply Kd.R_drew)); exact (Kd.R_mono (Kd.R_far (p := ⟨gb493, 1, none⟩) (Kd.R_far (p := ⟨gb493, 0, none⟩) (Kd.R_types HO490.out BK493.out (by decide)) (fun _ hk => hk.2) (.slice Ao119 t488.length co119)) (fun _ hk => hk.2) (.int .i64 t491)) (fun _ h_ => h_.1))) hb); have n5_ := Aside0.mk (blk_below (g := gb449) (o := .cells #[.slice A0_0 l0_0.length c0_0, .int .i64 a0_1] 24 (0, 0)) (by (with_reducible repeat (first | refine blk_drewN ?_ _ | refine blk_drew ?_ | refine blk_alloc ?_ _)); refine blk_far ?_ NB449_493.out _; (with_reducible repeat (first | refine blk_drewN ?_ _ | refine blk_drew ?_ | refine blk_alloc ?_ _)); refine blk_far ?_ NB449_493.out _; (with_reducible repeat (first | refine blk_drewN ?_ _ | refine blk_drew ?_ | refine blk_alloc ?_ _)); exact BK449.out) hb); have n6_ := Aside0.mk (blk_below (g := gb460) (o := .cells #[.slice Ao21 t455.length co21, .int .i64 t458] 27 (0, 0)) (by (with_reducible repeat (first | refine blk_drewN ?_ _ | refine blk_drew ?_ | refine blk_alloc ?_ _)); refine blk_far ?_ NB460_493.out _; (with_reducible repeat (first | refine blk_drewN ?_ _ | refine blk_drew ?_ | refine blk_alloc ?_ _)); refine blk_far ?_ NB460_493.out _; (with_reducible repeat (first | refine blk_drewN ?_ _ | refine blk_drew ?_ | refine blk_alloc ?_ _)); exact BK460.out) hb); have n7_ := Aside0.mk (blk_below (g := gb465) (o := .cells #[.slice Ao27 t479.length co27, .int .i64 t464] 27 (0, 0)) (by (with_reducible repeat (first | refine blk_drewN ?_ _ | refine blk_drew ?_ | refine blk_alloc ?_ _)); refine blk_far ?_ NB465_493.out _; (with_reducible repeat (first | refine blk_drewN ?_ _ | refine blk_drew ?_ | refine blk_alloc ?_ _)); refine blk_far ?_ NB465_493.out _; (with_reducible repeat (first | refine blk_drewN ?_ _ | refine blk_drew ?_ | refine blk_alloc ?_ _)); exact BK465.out) hb); have n8_ := Aside0.mk (blk_below (g := gb471) (o := .cells #[.slice Ao33 t466.length co33, .int .i64 t469] 27 (0, 0)) (by (with_reducible repeat (first | refine blk_drewN ?_ _ | refine blk_drew ?_ | refine blk_alloc ?_ _)); refine blk_far ?_ NB471_493.out _; (with_reducible repeat (first | refine blk_drewN ?_ _ | refine blk_drew ?_ | refine blk_alloc ?_ _)); refine blk_far ?_ NB471_493.out _; (with_reducible repeat (first | refine blk_drewN ?_ _ | refine blk_drew ?_ | refine blk_alloc ?_ _)); exact BK471.out) hb); have n9_ := Aside0.mk (blk_below (g := gb493) (o := .cells #[.slice Ao119 t488.length co119, .int .i64 t491] 27 (0, 0)) (by (with_reducible repeat (first | refine blk_drewN ?_ _ | refine blk_drew ?_ | refine blk_alloc ?_ _)); refine blk_put (cs := #[.slice Ao119 t488.length co119, .int .i64 0]) ?_ 1 _ rfl; (with_reducible repeat (first | refine blk_drewN ?_ _ | refine blk_drew ?_ | refine blk_alloc ?_ _)); refine blk_put (cs := #[.slice none 0 0, .int .i64 0]) ?_ 0 _ rfl; (with_reducible repeat (first | refine blk_drewN ?_ _ | refine blk_drew ?_ | refine blk_alloc ?_ _)); exact BK493.out) hb); have n10_ := Aside0.mk (below_step (by repeat (first | (with_reducible first | exact HB.out | apply below_alloc | apply pw_below_drewN | apply below_drew1 | refine below_set ?_ GE449.out | refine below_set ?_ GE460.out | refine below_set ?_ GE465.out | refine below_set ?_ GE471.out | refine below_set ?_ GE493.out) | exact HB.out)) hb); clear HO_461000; clear HO_466000; clear HO_472000; clear HO486; clear HO490; clear BK449; clear BK460; clear BK465; clear BK471; clear BK493; clear HB; have HO_461000 := n0_; have HO_466000 := n1_; have HO_472000 := n2_; have HO486 := n3_; have HO490 := n4_; have BK449 := n5_; have BK460 := n6_; have BK465 := n7_; have BK471 := n8_; have BK493 := n9_; have HB := n10_; clear n0_ n1_ n2_ n3_ n4_ n5_ n6_ n7_ n8_ n9_ n10_; (try clear hb); (try clear hb2); (try clear hk); (try clear hi)))
                          go_meet
                          case rel => exact ⟨_, ((t492 != t459)), (by first | rfl | (simp; done) | (simp [*]; done)), H', ⟨by have := HJ11.out; have := HJ60.out; first | omega | exact Nat.le_refl _⟩, ⟨by (try simp only [hl466000_60]); (with_reducible repeat (first | apply Kd.R_alloc | apply Kd.R_drewN | apply Kd.R_drew)); exact Kd.R_mono HO_461000.out (fun _ hk => ⟨hk.1.1.1, ⟨hk.1.1.2, hk.2⟩⟩)⟩, ⟨by (try simp only [hl466000_60]); (with_reducible repeat (first | apply Kd.R_alloc | apply Kd.R_drewN | apply Kd.R_drew)); exact Kd.R_mono HO_466000.out (fun _ hk => ⟨hk.1.1.1, ⟨hk.1.1.2, hk.2⟩⟩)⟩, ⟨by (try simp only [hl466000_60]); (with_reducible repeat (first | apply Kd.R_alloc | apply Kd.R_drewN | apply Kd.R_drew)); exact Kd.R_mono HO_472000.out (fun _ hk => ⟨hk.1.1.1, ⟨hk.1.1.2, hk.2⟩⟩)⟩, ⟨by (try simp only [hl466000_60]); (with_reducible repeat (first | apply Kd.R_alloc | apply Kd.R_drewN | apply Kd.R_drew)); exact Kd.R_mono HO490.out (fun _ hk => ⟨hk.1.1.1.2, ⟨hk.1.1.2, hk.1.2⟩⟩)⟩, ⟨by (try simp only [hl466000_60]); (with_reducible repeat (first | refine blk_drewN ?_ _ | refine blk_drew ?_ | refine blk_alloc ?_ _)); exact BK449.out⟩, ⟨by (try simp only [hl466000_60]); (with_reducible repeat (first | refine blk_drewN ?_ _ | refine blk_drew ?_ | refine blk_alloc ?_ _)); exact BK460.out⟩, ⟨by (try simp only [hl466000_60]); (with_reducible repeat (first | refine blk_drewN ?_ _ | refine blk_drew ?_ | refine blk_alloc ?_ _)); exact BK465.out⟩, ⟨by (try simp only [hl466000_60]); (with_reducible repeat (first | refine blk_drewN ?_ _ | refine blk_drew ?_ | refine blk_alloc ?_ _)); exact BK471.out⟩, ⟨by (try simp only [hl466000_60]); (with_reducible repeat (first | refine blk_drewN ?_ _ | refine blk_drew ?_ | refine blk_alloc ?_ _)); exact BK493.out⟩, ⟨by repeat (first | (with_reducible first | exact HB.out | apply below_alloc | apply pw_below_drewN | apply below_drew1 | refine below_set ?_ GE449.out | refine below_set ?_ GE460.out | refine below_set ?_ GE465.out | refine below_set ?_ GE471.out | refine below_set ?_ GE493.out) | exact HB.out)⟩⟩
                        · replace c126 := Bool.eq_false_iff.mpr c126
                          subst c126
                          have H1 : (laws_FnExactCutStack.j2 kj60 t481 true t482 t469) = some r := by rw [if_neg (show ¬ (false = true) by decide)] at H; exact H
                          clear H
                          have H := H1
                          clear H1
                          have H' := Aside0.mk H
                          clear H
                          have hnb137 := NB493_449.out
                          have hnc137 := NB449_493.out
                          have hnb138 := NB493_460.out
                          have hnc138 := NB460_493.out
                          have hnb139 := NB493_465.out
                          have hnc139 := NB465_493.out
                          have hnb140 := NB493_471.out
                          have hnc140 := NB471_493.out
                          have hcz141_0 : w118.cell? ⟨gb493, 0, none⟩ = some (.slice none 0 0) := (blk_cell BK493.out 0).trans rfl
                          have hcz141_1 : w118.cell? ⟨gb493, 1, none⟩ = some (.int .i64 0) := (blk_cell BK493.out 1).trans rfl
                          have hfz141_0 := blk_frozen BK493.out 0
                          have hfz141_1 := blk_frozen BK493.out 1
                          have hnb142 := NB460_449.out
                          have hnc142 := NB449_460.out
                          have hnb143 := NB460_465.out
                          have hnc143 := NB465_460.out
                          have hnb144 := NB460_471.out
                          have hnc144 := NB471_460.out
                          have hcz145_0 : w118.cell? ⟨gb460, 0, none⟩ = some (.slice Ao21 t455.length co21) := (blk_cell BK460.out 0).trans rfl
                          have hcz145_1 : w118.cell? ⟨gb460, 1, none⟩ = some (.int .i64 t458) := (blk_cell BK460.out 1).trans rfl
                          have hfz145_0 := blk_frozen BK460.out 0
                          have hfz145_1 := blk_frozen BK460.out 1
                          go_wp2_with (first | ((with_reducible refine gate_callee (f := 19) rfl ?_); refine goesL_ (some 86) rfl rfl Try.func19 (by kernel_rfl) rfl #[.agg #[.slice Ao119 t488.length co119, .int .i64 t491], .agg #[.slice Ao21 t455.length co21, .int .i64 t458]] rfl (by (try simp only [List.map_toArray, List.map_cons, List.map_nil]); first | done | rfl | (simp only [List.length_drop, List.length_take]; rfl)) ?_; (with_reducible refine (laws_eqStack.calls kj60 _ _ t488 t491 _ _ t455 t458 false _ ?side1 ?side2 ?side3 ?side4 A125.out).mono ?_); (case side1 => refine (Kd.R_reads' (e := 3) (base := w.heap.size) (ok := fun k_ => ((((True ∧ some k_ ≠ (.slice Ao21 t455.length co21 : Value).ownBlock) ∧ some k_ ≠ (.slice Ao27 t479.length co27 : Value).ownBlock) ∧ some k_ ≠ (.slice Ao33 t466.length co33 : Value).ownBlock) ∧ some k_ ≠ (.slice Ao116 t484.length co116 : Value).ownBlock)) (n := t488.length) (c := co119) ?_).2.2; exact (by (with_reducible repeat (first | apply Kd.R_alloc | apply Kd.R_drewN | apply Kd.R_drew)); exact (Kd.R_mono (Kd.R_far (p := ⟨gb493, 1, none⟩) (Kd.R_far (p := ⟨gb493, 0, none⟩) (Kd.R_types HO490.out BK493.out (by decide)) (fun _ hk => hk.2) (.slice Ao119 t488.length co119)) (fun _ hk => hk.2) (.int .i64 t491)) (fun _ h_ => h_.1)))); (case side2 => exact (Kd.R_reads' HO490.out).2.1); (case side3 => refine (Kd.R_reads' (e := 3) (base := w.heap.size) (ok := fun k_ => (((some k_ ≠ (.slice Ao27 t479.length co27 : Value).ownBlock ∧ some k_ ≠ (.slice Ao33 t466.length co33 : Value).ownBlock) ∧ some k_ ≠ (.slice Ao116 t484.length co116 : Value).ownBlock) ∧ some k_ ≠ (.slice Ao119 t488.length co119 : Value).ownBlock)) (n := t455.length) (c := co21) ?_).2.2; exact (by (with_reducible repeat (first | apply Kd.R_alloc | apply Kd.R_drewN | apply Kd.R_drew)); exact (Kd.R_mono (Kd.R_far (p := ⟨gb493, 1, none⟩) (Kd.R_far (p := ⟨gb493, 0, none⟩) (Kd.R_types HO_461000.out BK493.out (by decide)) (fun _ hk => hk.2) (.slice Ao119 t488.length co119)) (fun _ hk => hk.2) (.int .i64 t491)) (fun _ h_ => h_.1)))); (case side4 => exact (Kd.R_reads' HO_461000.out).2.1); rintro e w146 ⟨rfl, hb⟩; refine ⟨_, rfl, ?_⟩; have n0_ := Aside0.mk (Kd.R_below (by (with_reducible repeat (first | apply Kd.R_alloc | apply Kd.R_drewN | apply Kd.R_drew)); exact (Kd.R_mono (Kd.R_far (p := ⟨gb493, 1, none⟩) (Kd.R_far (p := ⟨gb493, 0, none⟩) (Kd.R_types HO_461000.out BK493.out (by decide)) (fun _ hk => hk.2) (.slice Ao119 t488.length co119)) (fun _ hk => hk.2) (.int .i64 t491)) (fun _ h_ => h_.1))) hb); have n1_ := Aside0.mk (Kd.R_below (by (with_reducible repeat (first | apply Kd.R_alloc | apply Kd.R_drewN | apply Kd.R_drew)); exact (Kd.R_mono (Kd.R_far (p := ⟨gb493, 1, none⟩) (Kd.R_far (p := ⟨gb493, 0, none⟩) (Kd.R_types HO_466000.out BK493.out (by decide)) (fun _ hk => hk.2) (.slice Ao119 t488.length co119)) (fun _ hk => hk.2) (.int .i64 t491)) (fun _ h_ => h_.1))) hb); have n2_ := Aside0.mk (Kd.R_below (by (with_reducible repeat (first | apply Kd.R_alloc | apply Kd.R_drewN | apply Kd.R_drew)); exact (Kd.R_mono (Kd.R_far (p := ⟨gb493, 1, none⟩) (Kd.R_far (p := ⟨gb493, 0, none⟩) (Kd.R_types HO_472000.out BK493.out (by decide)) (fun _ hk => hk.2) (.slice Ao119 t488.length co119)) (fun _ hk => hk.2) (.int .i64 t491)) (fun _ h_ => h_.1))) hb); have n3_ := Aside0.mk (Kd.R_below (by (with_reducible repeat (first | apply Kd.R_alloc | apply Kd.R_drewN | apply Kd.R_drew)); exact (Kd.R_mono (Kd.R_far (p := ⟨gb493, 1, none⟩) (Kd.R_far (p := ⟨gb493, 0, none⟩) (Kd.R_types HO486.out BK493.out (by decide)) (fun _ hk => hk.2) (.slice Ao119 t488.length co119)) (fun _ hk => hk.2) (.int .i64 t491)) (fun _ h_ => h_.1))) hb); have n4_ := Aside0.mk (Kd.R_below (by (with_reducible repeat (first | apply Kd.R_alloc | apply Kd.R_drewN | apply Kd.R_drew)); exact (Kd.R_mono (Kd.R_far (p := ⟨gb493, 1, none⟩) (Kd.R_far (p := ⟨gb493, 0, none⟩) (Kd.R_types HO490.out BK493.out (by decide)) (fun _ hk => hk.2) (.slice Ao119 t488.length co119)) (fun _ hk => hk.2) (.int .i64 t491)) (fun _ h_ => h_.1))) hb); have n5_ := Aside0.mk (blk_below (g := gb449) (o := .cells #[.slice A0_0 l0_0.length c0_0, .int .i64 a0_1] 24 (0, 0)) (by (with_reducible repeat (first | refine blk_drewN ?_ _ | refine blk_drew ?_ | refine blk_alloc ?_ _)); refine blk_far ?_ NB449_493.out _; (with_reducible repeat (first | refine blk_drewN ?_ _ | refine blk_drew ?_ | refine blk_alloc ?_ _)); refine blk_far ?_ NB449_493.out _; (with_reducible repeat (first | refine blk_drewN ?_ _ | refine blk_drew ?_ | refine blk_alloc ?_ _)); exact BK449.out) hb); have n6_ := Aside0.mk (blk_below (g := gb460) (o := .cells #[.slice Ao21 t455.length co21, .int .i64 t458] 27 (0, 0)) (by (with_reducible repeat (first | refine blk_drewN ?_ _ | refine blk_drew ?_ | refine blk_alloc ?_ _)); refine blk_far ?_ NB460_493.out _; (with_reducible repeat (first | refine blk_drewN ?_ _ | refine blk_drew ?_ | refine blk_alloc ?_ _)); refine blk_far ?_ NB460_493.out _; (with_reducible repeat (first | refine blk_drewN ?_ _ | refine blk_drew ?_ | refine blk_alloc ?_ _)); exact BK460.out) hb); have n7_ := Aside0.mk (blk_below (g := gb465) (o := .cells #[.slice Ao27 t479.length co27, .int .i64 t464] 27 (0, 0)) (by (with_reducible repeat (first | refine blk_drewN ?_ _ | refine blk_drew ?_ | refine blk_alloc ?_ _)); refine blk_far ?_ NB465_493.out _; (with_reducible repeat (first | refine blk_drewN ?_ _ | refine blk_drew ?_ | refine blk_alloc ?_ _)); refine blk_far ?_ NB465_493.out _; (with_reducible repeat (first | refine blk_drewN ?_ _ | refine blk_drew ?_ | refine blk_alloc ?_ _)); exact BK465.out) hb); have n8_ := Aside0.mk (blk_below (g := gb471) (o := .cells #[.slice Ao33 t466.length co33, .int .i64 t469] 27 (0, 0)) (by (with_reducible repeat (first | refine blk_drewN ?_ _ | refine blk_drew ?_ | refine blk_alloc ?_ _)); refine blk_far ?_ NB471_493.out _; (with_reducible repeat (first | refine blk_drewN ?_ _ | refine blk_drew ?_ | refine blk_alloc ?_ _)); refine blk_far ?_ NB471_493.out _; (with_reducible repeat (first | refine blk_drewN ?_ _ | refine blk_drew ?_ | refine blk_alloc ?_ _)); exact BK471.out) hb); have n9_ := Aside0.mk (blk_below (g := gb493) (o := .cells #[.slice Ao119 t488.length co119, .int .i64 t491] 27 (0, 0)) (by (with_reducible repeat (first | refine blk_drewN ?_ _ | refine blk_drew ?_ | refine blk_alloc ?_ _)); refine blk_put (cs := #[.slice Ao119 t488.length co119, .int .i64 0]) ?_ 1 _ rfl; (with_reducible repeat (first | refine blk_drewN ?_ _ | refine blk_drew ?_ | refine blk_alloc ?_ _)); refine blk_put (cs := #[.slice none 0 0, .int .i64 0]) ?_ 0 _ rfl; (with_reducible repeat (first | refine blk_drewN ?_ _ | refine blk_drew ?_ | refine blk_alloc ?_ _)); exact BK493.out) hb); have n10_ := Aside0.mk (below_step (by repeat (first | (with_reducible first | exact HB.out | apply below_alloc | apply pw_below_drewN | apply below_drew1 | refine below_set ?_ GE449.out | refine below_set ?_ GE460.out | refine below_set ?_ GE465.out | refine below_set ?_ GE471.out | refine below_set ?_ GE493.out) | exact HB.out)) hb); clear HO_461000; clear HO_466000; clear HO_472000; clear HO486; clear HO490; clear BK449; clear BK460; clear BK465; clear BK471; clear BK493; clear HB; have HO_461000 := n0_; have HO_466000 := n1_; have HO_472000 := n2_; have HO486 := n3_; have HO490 := n4_; have BK449 := n5_; have BK460 := n6_; have BK465 := n7_; have BK471 := n8_; have BK493 := n9_; have HB := n10_; clear n0_ n1_ n2_ n3_ n4_ n5_ n6_ n7_ n8_ n9_ n10_; (try clear hb); (try clear hb2); (try clear hk); (try clear hi)))
                          go_meet
                          case rel => exact ⟨_, (true), (by first | rfl | (simp; done) | (simp [*]; done)), H', ⟨by have := HJ11.out; have := HJ60.out; first | omega | exact Nat.le_refl _⟩, ⟨by (try simp only [hl466000_60]); (with_reducible repeat (first | apply Kd.R_alloc | apply Kd.R_drewN | apply Kd.R_drew)); exact Kd.R_mono HO_461000.out (fun _ hk => ⟨hk.1.1.1, ⟨hk.1.1.2, hk.2⟩⟩)⟩, ⟨by (try simp only [hl466000_60]); (with_reducible repeat (first | apply Kd.R_alloc | apply Kd.R_drewN | apply Kd.R_drew)); exact Kd.R_mono HO_466000.out (fun _ hk => ⟨hk.1.1.1, ⟨hk.1.1.2, hk.2⟩⟩)⟩, ⟨by (try simp only [hl466000_60]); (with_reducible repeat (first | apply Kd.R_alloc | apply Kd.R_drewN | apply Kd.R_drew)); exact Kd.R_mono HO_472000.out (fun _ hk => ⟨hk.1.1.1, ⟨hk.1.1.2, hk.2⟩⟩)⟩, ⟨by (try simp only [hl466000_60]); (with_reducible repeat (first | apply Kd.R_alloc | apply Kd.R_drewN | apply Kd.R_drew)); exact Kd.R_mono HO490.out (fun _ hk => ⟨hk.1.1.1.2, ⟨hk.1.1.2, hk.1.2⟩⟩)⟩, ⟨by (try simp only [hl466000_60]); (with_reducible repeat (first | refine blk_drewN ?_ _ | refine blk_drew ?_ | refine blk_alloc ?_ _)); exact BK449.out⟩, ⟨by (try simp only [hl466000_60]); (with_reducible repeat (first | refine blk_drewN ?_ _ | refine blk_drew ?_ | refine blk_alloc ?_ _)); exact BK460.out⟩, ⟨by (try simp only [hl466000_60]); (with_reducible repeat (first | refine blk_drewN ?_ _ | refine blk_drew ?_ | refine blk_alloc ?_ _)); exact BK465.out⟩, ⟨by (try simp only [hl466000_60]); (with_reducible repeat (first | refine blk_drewN ?_ _ | refine blk_drew ?_ | refine blk_alloc ?_ _)); exact BK471.out⟩, ⟨by (try simp only [hl466000_60]); (with_reducible repeat (first | refine blk_drewN ?_ _ | refine blk_drew ?_ | refine blk_alloc ?_ _)); exact BK493.out⟩, ⟨by repeat (first | (with_reducible first | exact HB.out | apply below_alloc | apply pw_below_drewN | apply below_drew1 | refine below_set ?_ GE449.out | refine below_set ?_ GE460.out | refine below_set ?_ GE465.out | refine below_set ?_ GE471.out | refine below_set ?_ GE493.out) | exact HB.out)⟩⟩
                      case rest =>
                        clear HC104
                        try clear c1
                        try clear c2
                        try clear p2
                        try clear c3
                        try clear c4
                        try clear c4b0
                        try clear c5
                        try clear c6
                        try clear c7
                        try clear c8
                        try clear c9
                        try clear c10
                        try clear c11
                        try clear c12
                        try clear c13
                        try clear c14
                        try clear c15
                        try clear c17
                        try clear c19
                        try clear c22
                        try clear c23
                        try clear c28
                        try clear c29
                        try clear c32
                        try clear c33
                        try clear c34
                        try clear c35
                        try clear c36
                        try clear c39
                        try clear c40
                        try clear c41
                        try clear c42
                        try clear c44
                        try clear c45
                        try clear c48
                        try clear c49
                        try clear c50
                        try clear c52
                        try clear c53
                        try clear c56
                        try clear c59
                        try clear c66
                        try clear c67
                        try clear c68
                        try clear c71
                        try clear c71b0
                        try clear c73
                        try clear c74
                        try clear c75
                        try clear c76
                        try clear c78
                        try clear c79
                        try clear c82
                        try clear c83
                        try clear c84
                        try clear c86
                        try clear c87
                        try clear c90
                        try clear c93
                        try clear c93b0
                        try clear c94
                        try clear c95
                        try clear c96
                        try clear c101
                        try clear c101b0
                        try clear c101b1
                        try clear c105
                        try clear c106
                        try clear c107
                        try clear c112
                        try clear c113
                        try clear c120
                        try clear c121
                        try clear c122
                        try clear c123
                        try clear c126
                        try clear c127
                        try clear c128
                        try clear c129
                        try clear c130
                        try clear c132
                        try clear c133
                        try clear c134
                        try clear c137
                        try clear c138
                        try clear c139
                        try clear c140
                        try clear c142
                        try clear c143
                        try clear c144
                        try clear hcz108_0
                        try clear hcz108_1
                        try clear hcz110_0
                        try clear hcz110_1
                        try clear hcz114_0
                        try clear hcz114_1
                        try clear hcz124_0
                        try clear hcz124_1
                        try clear hcz131_0
                        try clear hcz131_1
                        try clear hcz135_0
                        try clear hcz135_1
                        try clear hcz141_0
                        try clear hcz141_1
                        try clear hcz145_0
                        try clear hcz145_1
                        try clear hcz14_0
                        try clear hcz14_1
                        try clear hcz16_0
                        try clear hcz16_1
                        try clear hcz23_0
                        try clear hcz23_1
                        try clear hcz24_0
                        try clear hcz24_1
                        try clear hcz30_0
                        try clear hcz30_1
                        try clear hcz37_0
                        try clear hcz37_1
                        try clear hcz43_0
                        try clear hcz43_1
                        try clear hcz46_0
                        try clear hcz46_1
                        try clear hcz51_0
                        try clear hcz51_1
                        try clear hcz54_0
                        try clear hcz54_1
                        try clear hcz69_0
                        try clear hcz69_1
                        try clear hcz6_0
                        try clear hcz6_1
                        try clear hcz77_0
                        try clear hcz77_1
                        try clear hcz80_0
                        try clear hcz80_1
                        try clear hcz85_0
                        try clear hcz85_1
                        try clear hcz88_0
                        try clear hcz88_1
                        try clear hcz97_0
                        try clear hcz97_1
                        try clear hcz99_0
                        try clear hcz99_1
                        try clear hfz108_0
                        try clear hfz108_1
                        try clear hfz110_0
                        try clear hfz110_1
                        try clear hfz114_0
                        try clear hfz114_1
                        try clear hfz124_0
                        try clear hfz124_1
                        try clear hfz131_0
                        try clear hfz131_1
                        try clear hfz135_0
                        try clear hfz135_1
                        try clear hfz141_0
                        try clear hfz141_1
                        try clear hfz145_0
                        try clear hfz145_1
                        try clear hfz14_0
                        try clear hfz14_1
                        try clear hfz16_0
                        try clear hfz16_1
                        try clear hfz23_0
                        try clear hfz23_1
                        try clear hfz24_0
                        try clear hfz24_1
                        try clear hfz30_0
                        try clear hfz30_1
                        try clear hfz37_0
                        try clear hfz37_1
                        try clear hfz43_0
                        try clear hfz43_1
                        try clear hfz46_0
                        try clear hfz46_1
                        try clear hfz51_0
                        try clear hfz51_1
                        try clear hfz54_0
                        try clear hfz54_1
                        try clear hfz69_0
                        try clear hfz69_1
                        try clear hfz6_0
                        try clear hfz6_1
                        try clear hfz77_0
                        try clear hfz77_1
                        try clear hfz80_0
                        try clear hfz80_1
                        try clear hfz85_0
                        try clear hfz85_1
                        try clear hfz88_0
                        try clear hfz88_1
                        try clear hfz97_0
                        try clear hfz97_1
                        try clear hfz99_0
                        try clear hfz99_1
                        try clear p2
                        obtain ⟨kq, x92_103, rfl, HA, HJ103, HO_461000, HO_466000, HO_472000, HO_494000, BK449, BK460, BK465, BK471, BK493, HB⟩ := hcut
                        have hl472000_103 := (Kd.R_reads' HO_472000.out).1
                        rw [hl472000_103] at HO_472000
                        (try simp only [hl472000_103])
                        (try simp only [hl472000_103] at BK449)
                        (try simp only [hl472000_103] at BK460)
                        (try simp only [hl472000_103] at BK465)
                        (try simp only [hl472000_103] at BK471)
                        (try simp only [hl472000_103] at BK493)
                        (try simp only [hl472000_103] at HO_461000)
                        (try simp only [hl472000_103] at HO_466000)
                        (try simp only [hl472000_103] at HO_494000)
                        cases kq with
                        | zero => exact absurd HA.out (by simp [laws_FnExactCutStack.j2])
                        | succ kj103 =>
                          have H := HA.out
                          clear HA
                          simp only [laws_FnExactCutStack.j2] at H
                          by_cases c147 : x92_103 = true
                          · subst c147
                            have H1 : (some false) = some r := by rw [if_pos rfl] at H; exact H
                            clear H
                            have H := H1
                            clear H1
                            obtain rfl := Option.some.inj H
                            go_wp2
                            go_ret
                            exact ⟨by first | rfl | (simp [errW_none, errW_some] <;> rfl) | (simp [*, errW_none, errW_some] <;> rfl), by repeat (first | (with_reducible first | exact HB.out | apply below_alloc | apply pw_below_drewN | apply below_drew1 | refine below_set ?_ GE449.out | refine below_set ?_ GE460.out | refine below_set ?_ GE465.out | refine below_set ?_ GE471.out | refine below_set ?_ GE493.out) | exact HB.out)⟩
                          · replace c147 := Bool.eq_false_iff.mpr c147
                            subst c147
                            have H1 : ((laws_heldStack.f kj103 t482 t469 1).bind fun t495 => (if t495 < 0 then (some false) else (if t495 = t481 then (some true) else (some false)))) = some r := by rw [if_neg (show ¬ (false = true) by decide)] at H; exact H
                            clear H
                            have H := H1
                            clear H1
                            replace H := Option.bind_eq_some_iff.mp H
                            obtain ⟨t495, A1480, H⟩ := H
                            replace H : (if t495 < 0 then (some false) else (if t495 = t481 then (some true) else (some false))) = some r := H
                            have A148 := Aside0.mk A1480
                            clear A1480
                            by_cases c149 : t495 < 0
                            · rw [if_pos c149] at H
                              have c149b0 : decide (t495 < 0) = true := decide_eq_true c149
                              clear c149
                              obtain rfl := Option.some.inj H
                              have hnb150 := NB471_449.out
                              have hnc150 := NB449_471.out
                              have hnb151 := NB471_460.out
                              have hnc151 := NB460_471.out
                              have hnb152 := NB471_465.out
                              have hnc152 := NB465_471.out
                              have hnb153 := NB471_493.out
                              have hnc153 := NB493_471.out
                              have hcz154_0 : wc.cell? ⟨gb471, 0, none⟩ = some (.slice Ao33 t482.length co33) := (blk_cell BK471.out 0).trans rfl
                              have hcz154_1 : wc.cell? ⟨gb471, 1, none⟩ = some (.int .i64 t469) := (blk_cell BK471.out 1).trans rfl
                              have hfz154_0 := blk_frozen BK471.out 0
                              have hfz154_1 := blk_frozen BK471.out 1
                              go_wp2_with (first | ((with_reducible refine gate_callee (f := 33) rfl ?_); refine goesL_ (some 95) rfl rfl Try.func33 (by kernel_rfl) rfl #[.agg #[.slice Ao33 t482.length co33, .int .i64 t469], .int .i64 1] rfl (by (try simp only [List.map_toArray, List.map_cons, List.map_nil]); first | done | rfl | (simp only [List.length_drop, List.length_take]; rfl)) ?_; (with_reducible refine (laws_heldStack.calls kj103 _ _ t482 t469 1 t495 _ ?side1 ?side2 A148.out).mono ?_); (case side1 => repeat (first | exact (Kd.R_reads' HO_472000.out).2.2 | (with_reducible refine Kd.C_alloc ?_ _) | (with_reducible refine Kd.C_drewN ?_ _) | (with_reducible refine Kd.C_drew ?_))); (case side2 => exact (Kd.R_reads' HO_472000.out).2.1); rintro e w155 ⟨rfl, hb⟩; refine ⟨_, rfl, ?_⟩; have n0_ := Aside0.mk (Kd.R_below (by (with_reducible repeat (first | apply Kd.R_alloc | apply Kd.R_drewN | apply Kd.R_drew)); exact HO_461000.out) hb); have n1_ := Aside0.mk (Kd.R_below (by (with_reducible repeat (first | apply Kd.R_alloc | apply Kd.R_drewN | apply Kd.R_drew)); exact HO_466000.out) hb); have n2_ := Aside0.mk (Kd.R_below (by (with_reducible repeat (first | apply Kd.R_alloc | apply Kd.R_drewN | apply Kd.R_drew)); exact HO_472000.out) hb); have n3_ := Aside0.mk (Kd.R_below (by (with_reducible repeat (first | apply Kd.R_alloc | apply Kd.R_drewN | apply Kd.R_drew)); exact HO_494000.out) hb); have n4_ := Aside0.mk (blk_below (g := gb449) (o := .cells #[.slice A0_0 l0_0.length c0_0, .int .i64 a0_1] 24 (0, 0)) (by (with_reducible repeat (first | refine blk_drewN ?_ _ | refine blk_drew ?_ | refine blk_alloc ?_ _)); exact BK449.out) hb); have n5_ := Aside0.mk (blk_below (g := gb460) (o := .cells #[.slice Ao21 t455.length co21, .int .i64 t458] 27 (0, 0)) (by (with_reducible repeat (first | refine blk_drewN ?_ _ | refine blk_drew ?_ | refine blk_alloc ?_ _)); exact BK460.out) hb); have n6_ := Aside0.mk (blk_below (g := gb465) (o := .cells #[.slice Ao27 t479.length co27, .int .i64 t464] 27 (0, 0)) (by (with_reducible repeat (first | refine blk_drewN ?_ _ | refine blk_drew ?_ | refine blk_alloc ?_ _)); exact BK465.out) hb); have n7_ := Aside0.mk (blk_below (g := gb471) (o := .cells #[.slice Ao33 t482.length co33, .int .i64 t469] 27 (0, 0)) (by (with_reducible repeat (first | refine blk_drewN ?_ _ | refine blk_drew ?_ | refine blk_alloc ?_ _)); exact BK471.out) hb); have n8_ := Aside0.mk (blk_below (g := gb493) (o := .cells #[.slice Ao119 t488.length co119, .int .i64 t491] 27 (0, 0)) (by (with_reducible repeat (first | refine blk_drewN ?_ _ | refine blk_drew ?_ | refine blk_alloc ?_ _)); exact BK493.out) hb); have n9_ := Aside0.mk (below_step (by repeat (first | (with_reducible first | exact HB.out | apply below_alloc | apply pw_below_drewN | apply below_drew1 | refine below_set ?_ GE449.out | refine below_set ?_ GE460.out | refine below_set ?_ GE465.out | refine below_set ?_ GE471.out | refine below_set ?_ GE493.out) | exact HB.out)) hb); clear HO_461000; clear HO_466000; clear HO_472000; clear HO_494000; clear BK449; clear BK460; clear BK465; clear BK471; clear BK493; clear HB; have HO_461000 := n0_; have HO_466000 := n1_; have HO_472000 := n2_; have HO_494000 := n3_; have BK449 := n4_; have BK460 := n5_; have BK465 := n6_; have BK471 := n7_; have BK493 := n8_; have HB := n9_; clear n0_ n1_ n2_ n3_ n4_ n5_ n6_ n7_ n8_ n9_; (try clear hb); (try clear hb2); (try clear hk); (try clear hi)))
                              go_ret
                              exact ⟨by first | rfl | (simp [errW_none, errW_some] <;> rfl) | (simp [*, errW_none, errW_some] <;> rfl), by repeat (first | (with_reducible first | exact HB.out | apply below_alloc | apply pw_below_drewN | apply below_drew1 | refine below_set ?_ GE449.out | refine below_set ?_ GE460.out | refine below_set ?_ GE465.out | refine below_set ?_ GE471.out | refine below_set ?_ GE493.out) | exact HB.out)⟩
                            · rw [if_neg c149] at H
                              have c149b0 : decide (t495 < 0) = false := decide_eq_false c149
                              clear c149
                              by_cases c156 : t495 = t481
                              · rw [if_pos c156] at H
                                have c156b0 : (t495 == t481) = true := beq_iff_eq.mpr c156
                                have c156b1 : (t495 != t481) = false := bne_eq_false_iff_eq.mpr c156
                                clear c156
                                obtain rfl := Option.some.inj H
                                have hnb157 := NB471_449.out
                                have hnc157 := NB449_471.out
                                have hnb158 := NB471_460.out
                                have hnc158 := NB460_471.out
                                have hnb159 := NB471_465.out
                                have hnc159 := NB465_471.out
                                have hnb160 := NB471_493.out
                                have hnc160 := NB493_471.out
                                have hcz161_0 : wc.cell? ⟨gb471, 0, none⟩ = some (.slice Ao33 t482.length co33) := (blk_cell BK471.out 0).trans rfl
                                have hcz161_1 : wc.cell? ⟨gb471, 1, none⟩ = some (.int .i64 t469) := (blk_cell BK471.out 1).trans rfl
                                have hfz161_0 := blk_frozen BK471.out 0
                                have hfz161_1 := blk_frozen BK471.out 1
                                go_wp2_with (first | ((with_reducible refine gate_callee (f := 33) rfl ?_); refine goesL_ (some 95) rfl rfl Try.func33 (by kernel_rfl) rfl #[.agg #[.slice Ao33 t482.length co33, .int .i64 t469], .int .i64 1] rfl (by (try simp only [List.map_toArray, List.map_cons, List.map_nil]); first | done | rfl | (simp only [List.length_drop, List.length_take]; rfl)) ?_; (with_reducible refine (laws_heldStack.calls kj103 _ _ t482 t469 1 t495 _ ?side1 ?side2 A148.out).mono ?_); (case side1 => repeat (first | exact (Kd.R_reads' HO_472000.out).2.2 | (with_reducible refine Kd.C_alloc ?_ _) | (with_reducible refine Kd.C_drewN ?_ _) | (with_reducible refine Kd.C_drew ?_))); (case side2 => exact (Kd.R_reads' HO_472000.out).2.1); rintro e w162 ⟨rfl, hb⟩; refine ⟨_, rfl, ?_⟩; have n0_ := Aside0.mk (Kd.R_below (by (with_reducible repeat (first | apply Kd.R_alloc | apply Kd.R_drewN | apply Kd.R_drew)); exact HO_461000.out) hb); have n1_ := Aside0.mk (Kd.R_below (by (with_reducible repeat (first | apply Kd.R_alloc | apply Kd.R_drewN | apply Kd.R_drew)); exact HO_466000.out) hb); have n2_ := Aside0.mk (Kd.R_below (by (with_reducible repeat (first | apply Kd.R_alloc | apply Kd.R_drewN | apply Kd.R_drew)); exact HO_472000.out) hb); have n3_ := Aside0.mk (Kd.R_below (by (with_reducible repeat (first | apply Kd.R_alloc | apply Kd.R_drewN | apply Kd.R_drew)); exact HO_494000.out) hb); have n4_ := Aside0.mk (blk_below (g := gb449) (o := .cells #[.slice A0_0 l0_0.length c0_0, .int .i64 a0_1] 24 (0, 0)) (by (with_reducible repeat (first | refine blk_drewN ?_ _ | refine blk_drew ?_ | refine blk_alloc ?_ _)); exact BK449.out) hb); have n5_ := Aside0.mk (blk_below (g := gb460) (o := .cells #[.slice Ao21 t455.length co21, .int .i64 t458] 27 (0, 0)) (by (with_reducible repeat (first | refine blk_drewN ?_ _ | refine blk_drew ?_ | refine blk_alloc ?_ _)); exact BK460.out) hb); have n6_ := Aside0.mk (blk_below (g := gb465) (o := .cells #[.slice Ao27 t479.length co27, .int .i64 t464] 27 (0, 0)) (by (with_reducible repeat (first | refine blk_drewN ?_ _ | refine blk_drew ?_ | refine blk_alloc ?_ _)); exact BK465.out) hb); have n7_ := Aside0.mk (blk_below (g := gb471) (o := .cells #[.slice Ao33 t482.length co33, .int .i64 t469] 27 (0, 0)) (by (with_reducible repeat (first | refine blk_drewN ?_ _ | refine blk_drew ?_ | refine blk_alloc ?_ _)); exact BK471.out) hb); have n8_ := Aside0.mk (blk_below (g := gb493) (o := .cells #[.slice Ao119 t488.length co119, .int .i64 t491] 27 (0, 0)) (by (with_reducible repeat (first | refine blk_drewN ?_ _ | refine blk_drew ?_ | refine blk_alloc ?_ _)); exact BK493.out) hb); have n9_ := Aside0.mk (below_step (by repeat (first | (with_reducible first | exact HB.out | apply below_alloc | apply pw_below_drewN | apply below_drew1 | refine below_set ?_ GE449.out | refine below_set ?_ GE460.out | refine below_set ?_ GE465.out | refine below_set ?_ GE471.out | refine below_set ?_ GE493.out) | exact HB.out)) hb); clear HO_461000; clear HO_466000; clear HO_472000; clear HO_494000; clear BK449; clear BK460; clear BK465; clear BK471; clear BK493; clear HB; have HO_461000 := n0_; have HO_466000 := n1_; have HO_472000 := n2_; have HO_494000 := n3_; have BK449 := n4_; have BK460 := n5_; have BK465 := n6_; have BK471 := n7_; have BK493 := n8_; have HB := n9_; clear n0_ n1_ n2_ n3_ n4_ n5_ n6_ n7_ n8_ n9_; (try clear hb); (try clear hb2); (try clear hk); (try clear hi)))
                                go_ret
                                exact ⟨by first | rfl | (simp [errW_none, errW_some] <;> rfl) | (simp [*, errW_none, errW_some] <;> rfl), by repeat (first | (with_reducible first | exact HB.out | apply below_alloc | apply pw_below_drewN | apply below_drew1 | refine below_set ?_ GE449.out | refine below_set ?_ GE460.out | refine below_set ?_ GE465.out | refine below_set ?_ GE471.out | refine below_set ?_ GE493.out) | exact HB.out)⟩
                              · rw [if_neg c156] at H
                                have c156b0 : (t495 == t481) = false := beq_eq_false_iff_ne.mpr c156
                                have c156b1 : (t495 != t481) = true := bne_iff_ne.mpr c156
                                obtain rfl := Option.some.inj H
                                have hnb163 := NB471_449.out
                                have hnc163 := NB449_471.out
                                have hnb164 := NB471_460.out
                                have hnc164 := NB460_471.out
                                have hnb165 := NB471_465.out
                                have hnc165 := NB465_471.out
                                have hnb166 := NB471_493.out
                                have hnc166 := NB493_471.out
                                have hcz167_0 : wc.cell? ⟨gb471, 0, none⟩ = some (.slice Ao33 t482.length co33) := (blk_cell BK471.out 0).trans rfl
                                have hcz167_1 : wc.cell? ⟨gb471, 1, none⟩ = some (.int .i64 t469) := (blk_cell BK471.out 1).trans rfl
                                have hfz167_0 := blk_frozen BK471.out 0
                                have hfz167_1 := blk_frozen BK471.out 1
                                go_wp2_with (first | ((with_reducible refine gate_callee (f := 33) rfl ?_); refine goesL_ (some 95) rfl rfl Try.func33 (by kernel_rfl) rfl #[.agg #[.slice Ao33 t482.length co33, .int .i64 t469], .int .i64 1] rfl (by (try simp only [List.map_toArray, List.map_cons, List.map_nil]); first | done | rfl | (simp only [List.length_drop, List.length_take]; rfl)) ?_; (with_reducible refine (laws_heldStack.calls kj103 _ _ t482 t469 1 t495 _ ?side1 ?side2 A148.out).mono ?_); (case side1 => repeat (first | exact (Kd.R_reads' HO_472000.out).2.2 | (with_reducible refine Kd.C_alloc ?_ _) | (with_reducible refine Kd.C_drewN ?_ _) | (with_reducible refine Kd.C_drew ?_))); (case side2 => exact (Kd.R_reads' HO_472000.out).2.1); rintro e w168 ⟨rfl, hb⟩; refine ⟨_, rfl, ?_⟩; have n0_ := Aside0.mk (Kd.R_below (by (with_reducible repeat (first | apply Kd.R_alloc | apply Kd.R_drewN | apply Kd.R_drew)); exact HO_461000.out) hb); have n1_ := Aside0.mk (Kd.R_below (by (with_reducible repeat (first | apply Kd.R_alloc | apply Kd.R_drewN | apply Kd.R_drew)); exact HO_466000.out) hb); have n2_ := Aside0.mk (Kd.R_below (by (with_reducible repeat (first | apply Kd.R_alloc | apply Kd.R_drewN | apply Kd.R_drew)); exact HO_472000.out) hb); have n3_ := Aside0.mk (Kd.R_below (by (with_reducible repeat (first | apply Kd.R_alloc | apply Kd.R_drewN | apply Kd.R_drew)); exact HO_494000.out) hb); have n4_ := Aside0.mk (blk_below (g := gb449) (o := .cells #[.slice A0_0 l0_0.length c0_0, .int .i64 a0_1] 24 (0, 0)) (by (with_reducible repeat (first | refine blk_drewN ?_ _ | refine blk_drew ?_ | refine blk_alloc ?_ _)); exact BK449.out) hb); have n5_ := Aside0.mk (blk_below (g := gb460) (o := .cells #[.slice Ao21 t455.length co21, .int .i64 t458] 27 (0, 0)) (by (with_reducible repeat (first | refine blk_drewN ?_ _ | refine blk_drew ?_ | refine blk_alloc ?_ _)); exact BK460.out) hb); have n6_ := Aside0.mk (blk_below (g := gb465) (o := .cells #[.slice Ao27 t479.length co27, .int .i64 t464] 27 (0, 0)) (by (with_reducible repeat (first | refine blk_drewN ?_ _ | refine blk_drew ?_ | refine blk_alloc ?_ _)); exact BK465.out) hb); have n7_ := Aside0.mk (blk_below (g := gb471) (o := .cells #[.slice Ao33 t482.length co33, .int .i64 t469] 27 (0, 0)) (by (with_reducible repeat (first | refine blk_drewN ?_ _ | refine blk_drew ?_ | refine blk_alloc ?_ _)); exact BK471.out) hb); have n8_ := Aside0.mk (blk_below (g := gb493) (o := .cells #[.slice Ao119 t488.length co119, .int .i64 t491] 27 (0, 0)) (by (with_reducible repeat (first | refine blk_drewN ?_ _ | refine blk_drew ?_ | refine blk_alloc ?_ _)); exact BK493.out) hb); have n9_ := Aside0.mk (below_step (by repeat (first | (with_reducible first | exact HB.out | apply below_alloc | apply pw_below_drewN | apply below_drew1 | refine below_set ?_ GE449.out | refine below_set ?_ GE460.out | refine below_set ?_ GE465.out | refine below_set ?_ GE471.out | refine below_set ?_ GE493.out) | exact HB.out)) hb); clear HO_461000; clear HO_466000; clear HO_472000; clear HO_494000; clear BK449; clear BK460; clear BK465; clear BK471; clear BK493; clear HB; have HO_461000 := n0_; have HO_466000 := n1_; have HO_472000 := n2_; have HO_494000 := n3_; have BK449 := n4_; have BK460 := n5_; have BK465 := n6_; have BK471 := n7_; have BK493 := n8_; have HB := n9_; clear n0_ n1_ n2_ n3_ n4_ n5_ n6_ n7_ n8_ n9_; (try clear hb); (try clear hb2); (try clear hk); (try clear hi)))
                                go_ret
                                exact ⟨by first | rfl | (simp [errW_none, errW_some] <;> rfl) | (simp [*, errW_none, errW_some] <;> rfl), by repeat (first | (with_reducible first | exact HB.out | apply below_alloc | apply pw_below_drewN | apply below_drew1 | refine below_set ?_ GE449.out | refine below_set ?_ GE460.out | refine below_set ?_ GE465.out | refine below_set ?_ GE471.out | refine below_set ?_ GE493.out) | exact HB.out)⟩
                    · rw [if_neg c101] at H
                      have c101b0 : (t483 == t481) = false := beq_eq_false_iff_ne.mpr c101
                      have c101b1 : (t483 != t481) = true := bne_iff_ne.mpr c101
                      obtain rfl := Option.some.inj H
                      have hnb169 := NB471_449.out
                      have hnc169 := NB449_471.out
                      have hnb170 := NB471_460.out
                      have hnc170 := NB460_471.out
                      have hnb171 := NB471_465.out
                      have hnc171 := NB465_471.out
                      have hcz172_0 : wc.cell? ⟨gb471, 0, none⟩ = some (.slice Ao33 t466.length co33) := (blk_cell BK471.out 0).trans rfl
                      have hcz172_1 : wc.cell? ⟨gb471, 1, none⟩ = some (.int .i64 t469) := (blk_cell BK471.out 1).trans rfl
                      have hfz172_0 := blk_frozen BK471.out 0
                      have hfz172_1 := blk_frozen BK471.out 1
                      go_wp2_with (first | ((with_reducible refine gate_callee (f := 29) rfl ?_); refine goesL_ (some 68) rfl rfl Try.func29 (by kernel_rfl) rfl #[.agg #[.slice Ao33 t466.length co33, .int .i64 t469], .int .i64 1] rfl (by (try simp only [List.map_toArray, List.map_cons, List.map_nil]); first | done | rfl | (simp only [List.length_drop, List.length_take]; rfl)) ?_; (with_reducible refine (laws_markStack.calls kj60 (fun k_ => some k_ = (.slice Ao33 t466.length co33 : Value).ownBlock) (.slice Ao33 t466.length co33) t466 t469 1 t481 t482 w _ ?side1 ?side2 A91.out).mono ?_); (case side1 => repeat (first | (with_reducible first | exact HB.out | apply below_alloc | apply pw_below_drewN | apply below_drew1 | refine below_set ?_ GE449.out | refine below_set ?_ GE460.out | refine below_set ?_ GE465.out | refine below_set ?_ GE471.out) | exact HB.out)); (case side2 => exact Kd.R_tight rfl HO_472000.out); rintro e w173 ⟨rfl, hy0, hb, hkp⟩; refine ⟨_, rfl, ?_⟩; have n0_ := Aside0.mk (Kd.R_mono (ok' := fun k_ => some k_ ≠ (.slice Ao27 t479.length co27 : Value).ownBlock ∧ some k_ ≠ (.slice Ao33 t466.length co33 : Value).ownBlock) (Kd.R_keptB (HO_461000.out) hkp (fun k_ hk_ hs_ => (hk_.2) hs_)) (fun k_ hk_ => ⟨hk_.1.1, hk_.1.2⟩)); have n1_ := Aside0.mk (Kd.R_mono (ok' := fun k_ => some k_ ≠ (.slice Ao21 t455.length co21 : Value).ownBlock ∧ some k_ ≠ (.slice Ao33 t466.length co33 : Value).ownBlock) (Kd.R_keptB (HO_466000.out) hkp (fun k_ hk_ hs_ => (hk_.2) hs_)) (fun k_ hk_ => ⟨hk_.1.1, hk_.1.2⟩)); have n2_ := Aside0.mk (Kd.R_reok rfl hy0 (fun k_ e_ => HO_472000.out.1 k_ e_)); have n3_ := Aside0.mk (blk_kept (by (with_reducible repeat (first | refine blk_drewN ?_ _ | refine blk_drew ?_ | refine blk_alloc ?_ _)); exact BK449.out) hkp (fun hs_ => (fun e_ => (Kd.R_ne HO_472000.out BK449.out (by decide)) e_) hs_)); have n4_ := Aside0.mk (blk_kept (by (with_reducible repeat (first | refine blk_drewN ?_ _ | refine blk_drew ?_ | refine blk_alloc ?_ _)); exact BK460.out) hkp (fun hs_ => (fun e_ => (Kd.R_ne HO_472000.out BK460.out (by decide)) e_) hs_)); have n5_ := Aside0.mk (blk_kept (by (with_reducible repeat (first | refine blk_drewN ?_ _ | refine blk_drew ?_ | refine blk_alloc ?_ _)); exact BK465.out) hkp (fun hs_ => (fun e_ => (Kd.R_ne HO_472000.out BK465.out (by decide)) e_) hs_)); have n6_ := Aside0.mk (blk_kept (by (with_reducible repeat (first | refine blk_drewN ?_ _ | refine blk_drew ?_ | refine blk_alloc ?_ _)); exact BK471.out) hkp (fun hs_ => (fun e_ => (Kd.R_ne HO_472000.out BK471.out (by decide)) e_) hs_)); have n7_ := Aside0.mk (hb); clear HO_461000; clear HO_466000; clear HO_472000; clear BK449; clear BK460; clear BK465; clear BK471; clear HB; have HO_461000 := n0_; have HO_466000 := n1_; have HO_472000 := n2_; have BK449 := n3_; have BK460 := n4_; have BK465 := n5_; have BK471 := n6_; have HB := n7_; clear n0_ n1_ n2_ n3_ n4_ n5_ n6_ n7_; (try clear hb); (try clear hkp); (try clear hy0); have hcz174_0 : w173.cell? ⟨gb471, 0, none⟩ = some (.slice Ao33 t466.length co33) := (blk_cell BK471.out 0).trans rfl; have hcz174_1 : w173.cell? ⟨gb471, 1, none⟩ = some (.int .i64 t469) := (blk_cell BK471.out 1).trans rfl; have hfz174_0 := blk_frozen BK471.out 0; have hfz174_1 := blk_frozen BK471.out 1) | ((with_reducible refine gate_callee (f := 33) rfl ?_); refine goesL_ (some 71) rfl rfl Try.func33 (by kernel_rfl) rfl #[.agg #[.slice Ao33 t482.length co33, .int .i64 t469], .int .i64 1] rfl (by (try simp only [List.map_toArray, List.map_cons, List.map_nil]); first | done | (rw [show t482.length = t466.length from (Kd.R_reads' HO_472000.out).1.symm] <;> rfl) | rfl | (simp only [List.length_drop, List.length_take]; rfl)) ?_; (with_reducible refine (laws_heldStack.calls kj60 _ _ t482 t469 1 t483 _ ?side1 ?side2 A92.out).mono ?_); (case side1 => repeat (first | exact (Kd.R_reads' HO_472000.out).2.2 | (with_reducible refine Kd.C_alloc ?_ _) | (with_reducible refine Kd.C_drewN ?_ _) | (with_reducible refine Kd.C_drew ?_))); (case side2 => rw [show t482.length = t466.length from (Kd.R_reads' HO_472000.out).1.symm]; exact (Kd.R_reads' HO_472000.out).2.1); rintro e w175 ⟨rfl, hb⟩; refine ⟨_, rfl, ?_⟩; have n0_ := Aside0.mk (Kd.R_below (by (with_reducible repeat (first | apply Kd.R_alloc | apply Kd.R_drewN | apply Kd.R_drew)); exact HO_461000.out) hb); have n1_ := Aside0.mk (Kd.R_below (by (with_reducible repeat (first | apply Kd.R_alloc | apply Kd.R_drewN | apply Kd.R_drew)); exact HO_466000.out) hb); have n2_ := Aside0.mk (Kd.R_below (by (with_reducible repeat (first | apply Kd.R_alloc | apply Kd.R_drewN | apply Kd.R_drew)); exact HO_472000.out) hb); have n3_ := Aside0.mk (blk_below (g := gb449) (o := .cells #[.slice A0_0 l0_0.length c0_0, .int .i64 a0_1] 24 (0, 0)) (by (with_reducible repeat (first | refine blk_drewN ?_ _ | refine blk_drew ?_ | refine blk_alloc ?_ _)); exact BK449.out) hb); have n4_ := Aside0.mk (blk_below (g := gb460) (o := .cells #[.slice Ao21 t455.length co21, .int .i64 t458] 27 (0, 0)) (by (with_reducible repeat (first | refine blk_drewN ?_ _ | refine blk_drew ?_ | refine blk_alloc ?_ _)); exact BK460.out) hb); have n5_ := Aside0.mk (blk_below (g := gb465) (o := .cells #[.slice Ao27 t479.length co27, .int .i64 t464] 27 (0, 0)) (by (with_reducible repeat (first | refine blk_drewN ?_ _ | refine blk_drew ?_ | refine blk_alloc ?_ _)); exact BK465.out) hb); have n6_ := Aside0.mk (blk_below (g := gb471) (o := .cells #[.slice Ao33 t466.length co33, .int .i64 t469] 27 (0, 0)) (by (with_reducible repeat (first | refine blk_drewN ?_ _ | refine blk_drew ?_ | refine blk_alloc ?_ _)); exact BK471.out) hb); have n7_ := Aside0.mk (below_step (by repeat (first | (with_reducible first | exact HB.out | apply below_alloc | apply pw_below_drewN | apply below_drew1 | refine below_set ?_ GE449.out | refine below_set ?_ GE460.out | refine below_set ?_ GE465.out | refine below_set ?_ GE471.out) | exact HB.out)) hb); clear HO_461000; clear HO_466000; clear HO_472000; clear BK449; clear BK460; clear BK465; clear BK471; clear HB; have HO_461000 := n0_; have HO_466000 := n1_; have HO_472000 := n2_; have BK449 := n3_; have BK460 := n4_; have BK465 := n5_; have BK471 := n6_; have HB := n7_; clear n0_ n1_ n2_ n3_ n4_ n5_ n6_ n7_; (try clear hb); (try clear hb2); (try clear hk); (try clear hi)))
                      go_ret
                      exact ⟨by first | rfl | (simp [errW_none, errW_some] <;> rfl) | (simp [*, errW_none, errW_some] <;> rfl), by repeat (first | (with_reducible first | exact HB.out | apply below_alloc | apply pw_below_drewN | apply below_drew1 | refine below_set ?_ GE449.out | refine below_set ?_ GE460.out | refine below_set ?_ GE465.out | refine below_set ?_ GE471.out) | exact HB.out)⟩
          · replace c59 := Bool.eq_false_iff.mpr c59
            subst c59
            have H1 : (some false) = some r := by rw [if_neg (show ¬ (false = true) by decide)] at H; exact H
            clear H
            have H := H1
            clear H1
            obtain rfl := Option.some.inj H
            try go_wp2
            have n0_ := Aside0.mk (Kd.R_drew HO_461000.out)
            have n1_ := Aside0.mk (Kd.R_drew HO_466000.out)
            have n2_ := Aside0.mk (Kd.R_drew HO_472000.out)
            have n3_ := Aside0.mk (blk_drew BK449.out)
            have n4_ := Aside0.mk (blk_drew BK460.out)
            have n5_ := Aside0.mk (blk_drew BK465.out)
            have n6_ := Aside0.mk (blk_drew BK471.out)
            have n7_ := Aside0.mk (below_drew1 HB.out)
            clear HO_461000
            clear HO_466000
            clear HO_472000
            clear BK449
            clear BK460
            clear BK465
            clear BK471
            clear HB
            have HO_461000 := n0_
            have HO_466000 := n1_
            have HO_472000 := n2_
            have BK449 := n3_
            have BK460 := n4_
            have BK465 := n5_
            have BK471 := n6_
            have HB := n7_
            clear n0_ n1_ n2_ n3_ n4_ n5_ n6_ n7_
            refine start_ (n := 5) (S := fun w' => w'.cell? ⟨gb465, 0, none⟩ = some (.slice Ao27 t461.length co27) ∧ w'.cell? ⟨gb465, 1, none⟩ = some (.int .i64 t464) ∧ w'.cell? ⟨gb449, 0, none⟩ = some (.slice A0_0 l0_0.length c0_0) ∧ w'.cell? ⟨gb449, 1, none⟩ = some (.int .i64 a0_1)) (ds := []) #[false, false, false, false, false] (by kernel_rfl) rfl rfl ⟨(blk_cell BK465.out 0).trans rfl, (blk_cell BK465.out 1).trans rfl, (blk_cell BK449.out 0).trans rfl, (blk_cell BK449.out 1).trans rfl⟩ (fun hHeld => ?_)
            generalize wc.drew = w176 at HO_461000 HO_466000 HO_472000 BK449 BK460 BK465 BK471 HB hHeld ⊢
            refine take_ (i := 0) (N := some 45) (v := ?_) (a' := ?_) #[true, false, false, false, false] rfl rfl (by kernel_rfl) (fun _ _ _ h => h) (Or.inl ⟨by rfl, ?_⟩) hHeld ?_ ?_
            rotate_left
            · rintro w' ⟨s0, s1, s2, s3⟩
              go_simp
              with_reducible rfl
            rotate_left
            · simp only [Act.put, List.setIfInBounds_toArray, List.set_cons_zero, List.set_cons_succ, i64_w, i32_w]
              rfl
            refine take_ (i := 1) (N := some 46) (v := ?_) (a' := ?_) #[true, true, false, false, false] rfl rfl (by kernel_rfl) (fun _ _ _ h => h) (Or.inl ⟨by rfl, ?_⟩) hHeld ?_ ?_
            rotate_left
            · rintro w' ⟨s0, s1, s2, s3⟩
              go_simp
              with_reducible rfl
            rotate_left
            · simp only [Act.put, List.setIfInBounds_toArray, List.set_cons_zero, List.set_cons_succ, i64_w, i32_w]
              rfl
            refine one_ (i := 2) (N := some 47) #[true, true, true, false, false] rfl rfl (by kernel_rfl) (by decide) (fun K hK => ?_)
            refine goes_ Try.func17 (by kernel_rfl) rfl #[.agg #[.slice A0_0 l0_0.length c0_0, .int .i64 a0_1]] (by rfl) rfl rfl (by (try simp only [List.map_toArray, List.map_cons, List.map_nil]); first | done | rfl | (simp only [List.length_drop, List.length_take]; rfl)) ?_
            with_reducible refine (laws_toStack.calls kj11 _ _ l0_0 a0_1 t473 t476 _ ?side1 ?side2 A57.out).mono ?_
            (case side1 => repeat (first | exact (Kd.C_below HR0_0.out HB.out) | (with_reducible refine Kd.C_alloc ?_ _) | (with_reducible refine Kd.C_drewN ?_ _) | (with_reducible refine Kd.C_drew ?_)))
            (case side2 => exact HC0_0.out)
            rintro e w177 ⟨v474, rfl, ho0, hb⟩
            refine ⟨_, rfl, ?_⟩
            have n0_ := Aside0.mk (Kd.R_elder' (by (with_reducible repeat (first | apply Kd.R_alloc | apply Kd.R_drewN | apply Kd.R_drew)); exact HO_461000.out) (Kd.R_base ho0) hb)
            have n1_ := Aside0.mk (Kd.R_elder' (by (with_reducible repeat (first | apply Kd.R_alloc | apply Kd.R_drewN | apply Kd.R_drew)); exact HO_466000.out) (Kd.R_base ho0) hb)
            have n2_ := Aside0.mk (Kd.R_elder' (by (with_reducible repeat (first | apply Kd.R_alloc | apply Kd.R_drewN | apply Kd.R_drew)); exact HO_472000.out) (Kd.R_base ho0) hb)
            have n3_ := Aside0.mk (Kd.R_lower (Kd.R_new' (Kd.R_new' (Kd.R_new' ho0 (Kd.R_lt (by (with_reducible repeat (first | apply Kd.R_alloc | apply Kd.R_drewN | apply Kd.R_drew)); exact HO_461000.out))) (Kd.R_lt (by (with_reducible repeat (first | apply Kd.R_alloc | apply Kd.R_drewN | apply Kd.R_drew)); exact HO_466000.out))) (Kd.R_lt (by (with_reducible repeat (first | apply Kd.R_alloc | apply Kd.R_drewN | apply Kd.R_drew)); exact HO_472000.out))) (below_size (by repeat (first | (with_reducible first | exact HB.out | apply below_alloc | apply pw_below_drewN | apply below_drew1 | refine below_set ?_ GE449.out | refine below_set ?_ GE460.out | refine below_set ?_ GE465.out | refine below_set ?_ GE471.out) | exact HB.out))))
            have n4_ := Aside0.mk (blk_below (g := gb449) (o := .cells #[.slice A0_0 l0_0.length c0_0, .int .i64 a0_1] 24 (0, 0)) (by (with_reducible repeat (first | refine blk_drewN ?_ _ | refine blk_drew ?_ | refine blk_alloc ?_ _)); exact BK449.out) hb)
            have n5_ := Aside0.mk (blk_below (g := gb460) (o := .cells #[.slice Ao21 t455.length co21, .int .i64 t458] 27 (0, 0)) (by (with_reducible repeat (first | refine blk_drewN ?_ _ | refine blk_drew ?_ | refine blk_alloc ?_ _)); exact BK460.out) hb)
            have n6_ := Aside0.mk (blk_below (g := gb465) (o := .cells #[.slice Ao27 t461.length co27, .int .i64 t464] 27 (0, 0)) (by (with_reducible repeat (first | refine blk_drewN ?_ _ | refine blk_drew ?_ | refine blk_alloc ?_ _)); exact BK465.out) hb)
            have n7_ := Aside0.mk (blk_below (g := gb471) (o := .cells #[.slice Ao33 t466.length co33, .int .i64 t469] 27 (0, 0)) (by (with_reducible repeat (first | refine blk_drewN ?_ _ | refine blk_drew ?_ | refine blk_alloc ?_ _)); exact BK471.out) hb)
            have n8_ := Aside0.mk (below_step (by repeat (first | (with_reducible first | exact HB.out | apply below_alloc | apply pw_below_drewN | apply below_drew1 | refine below_set ?_ GE449.out | refine below_set ?_ GE460.out | refine below_set ?_ GE465.out | refine below_set ?_ GE471.out) | exact HB.out)) hb)
            clear HO_461000
            clear HO_466000
            clear HO_472000
            clear BK449
            clear BK460
            clear BK465
            clear BK471
            clear HB
            have HO_461000 := n0_
            have HO_466000 := n1_
            have HO_472000 := n2_
            have HO475 := n3_
            have BK449 := n4_
            have BK460 := n5_
            have BK465 := n6_
            have BK471 := n7_
            have HB := n8_
            clear n0_ n1_ n2_ n3_ n4_ n5_ n6_ n7_ n8_
            (try clear hb)
            (try clear hb2)
            (try clear hk)
            (try clear hi)
            (try clear ho0)
            obtain ⟨Ao178, co178, eo178⟩ := Kd.R_slice HO475.out
            (first | subst eo178 | (injection eo178 with f1_ f2_ f3_; have f4_ := f1_.symm; have f5_ := f3_.symm; clear f1_ f2_ f3_; subst f4_; subst f5_))
            refine hK.out _ _ ⟨(blk_cell BK465.out 0).trans rfl, (blk_cell BK465.out 1).trans rfl, (blk_cell BK449.out 0).trans rfl, (blk_cell BK449.out 1).trans rfl⟩ (fun hHeld => ?_)
            clear hK K
            refine norm_ (a' := ?_) ?_ ?_
            rotate_left
            · show Act.put _ (some 47) _ = _
              simp only [Act.put, List.setIfInBounds_toArray, List.set_cons_zero, List.set_cons_succ, i64_w, i32_w]
              rfl
            refine one_ (i := 3) (N := some 48) #[true, true, true, true, false] rfl rfl (by kernel_rfl) (by decide) (fun K hK => ?_)
            refine goes_ Try.func19 (by kernel_rfl) rfl #[.agg #[.slice Ao27 t461.length co27, .int .i64 t464], .agg #[.slice Ao178 t473.length co178, .int .i64 t476]] (by rfl) rfl rfl (by (try simp only [List.map_toArray, List.map_cons, List.map_nil]); first | done | rfl | (simp only [List.length_drop, List.length_take]; rfl)) ?_
            with_reducible refine (laws_eqStack.calls kj11 _ _ t461 t464 _ _ t473 t476 false _ ?side1 ?side2 ?side3 ?side4 A58.out).mono ?_
            (case side1 => repeat (first | exact (Kd.R_reads' HO_466000.out).2.2 | (with_reducible refine Kd.C_alloc ?_ _) | (with_reducible refine Kd.C_drewN ?_ _) | (with_reducible refine Kd.C_drew ?_)))
            (case side2 => exact (Kd.R_reads' HO_466000.out).2.1)
            (case side3 => repeat (first | exact (Kd.R_reads' HO475.out).2.2 | (with_reducible refine Kd.C_alloc ?_ _) | (with_reducible refine Kd.C_drewN ?_ _) | (with_reducible refine Kd.C_drew ?_)))
            (case side4 => exact (Kd.R_reads' HO475.out).2.1)
            rintro e w179 ⟨rfl, hb⟩
            refine ⟨_, rfl, ?_⟩
            have n0_ := Aside0.mk (Kd.R_below (by (with_reducible repeat (first | apply Kd.R_alloc | apply Kd.R_drewN | apply Kd.R_drew)); exact HO_461000.out) hb)
            have n1_ := Aside0.mk (Kd.R_below (by (with_reducible repeat (first | apply Kd.R_alloc | apply Kd.R_drewN | apply Kd.R_drew)); exact HO_466000.out) hb)
            have n2_ := Aside0.mk (Kd.R_below (by (with_reducible repeat (first | apply Kd.R_alloc | apply Kd.R_drewN | apply Kd.R_drew)); exact HO_472000.out) hb)
            have n3_ := Aside0.mk (Kd.R_below (by (with_reducible repeat (first | apply Kd.R_alloc | apply Kd.R_drewN | apply Kd.R_drew)); exact HO475.out) hb)
            have n4_ := Aside0.mk (blk_below (g := gb449) (o := .cells #[.slice A0_0 l0_0.length c0_0, .int .i64 a0_1] 24 (0, 0)) (by (with_reducible repeat (first | refine blk_drewN ?_ _ | refine blk_drew ?_ | refine blk_alloc ?_ _)); exact BK449.out) hb)
            have n5_ := Aside0.mk (blk_below (g := gb460) (o := .cells #[.slice Ao21 t455.length co21, .int .i64 t458] 27 (0, 0)) (by (with_reducible repeat (first | refine blk_drewN ?_ _ | refine blk_drew ?_ | refine blk_alloc ?_ _)); exact BK460.out) hb)
            have n6_ := Aside0.mk (blk_below (g := gb465) (o := .cells #[.slice Ao27 t461.length co27, .int .i64 t464] 27 (0, 0)) (by (with_reducible repeat (first | refine blk_drewN ?_ _ | refine blk_drew ?_ | refine blk_alloc ?_ _)); exact BK465.out) hb)
            have n7_ := Aside0.mk (blk_below (g := gb471) (o := .cells #[.slice Ao33 t466.length co33, .int .i64 t469] 27 (0, 0)) (by (with_reducible repeat (first | refine blk_drewN ?_ _ | refine blk_drew ?_ | refine blk_alloc ?_ _)); exact BK471.out) hb)
            have n8_ := Aside0.mk (below_step (by repeat (first | (with_reducible first | exact HB.out | apply below_alloc | apply pw_below_drewN | apply below_drew1 | refine below_set ?_ GE449.out | refine below_set ?_ GE460.out | refine below_set ?_ GE465.out | refine below_set ?_ GE471.out) | exact HB.out)) hb)
            clear HO_461000
            clear HO_466000
            clear HO_472000
            clear HO475
            clear BK449
            clear BK460
            clear BK465
            clear BK471
            clear HB
            have HO_461000 := n0_
            have HO_466000 := n1_
            have HO_472000 := n2_
            have HO475 := n3_
            have BK449 := n4_
            have BK460 := n5_
            have BK465 := n6_
            have BK471 := n7_
            have HB := n8_
            clear n0_ n1_ n2_ n3_ n4_ n5_ n6_ n7_ n8_
            (try clear hb)
            (try clear hb2)
            (try clear hk)
            (try clear hi)
            refine hK.out _ _ ⟨(blk_cell BK465.out 0).trans rfl, (blk_cell BK465.out 1).trans rfl, (blk_cell BK449.out 0).trans rfl, (blk_cell BK449.out 1).trans rfl⟩ (fun hHeld => ?_)
            clear hK K
            refine norm_ (a' := ?_) ?_ ?_
            rotate_left
            · show Act.put _ (some 48) _ = _
              simp only [Act.put, List.setIfInBounds_toArray, List.set_cons_zero, List.set_cons_succ, i64_w, i32_w]
              rfl
            refine pure_ (i := 4) (N := some 49) (v := ?_) (a' := ?_) #[true, true, true, true, true] rfl rfl (by kernel_rfl) (fun _ _ _ h => h) (Or.inl ⟨by rfl, ?_⟩) ?_ ?_
            rotate_left
            · intro w'
              go_simp
              with_reducible rfl
            rotate_left
            · simp only [Act.put, List.setIfInBounds_toArray, List.set_cons_zero, List.set_cons_succ, i64_w, i32_w]
              rfl
            refine done_ (by kernel_rfl) ?_
            try go_wp2
            go_ret
            exact ⟨by first | rfl | (simp [errW_none, errW_some] <;> rfl) | (simp [*, errW_none, errW_some] <;> rfl), by repeat (first | (with_reducible first | exact HB.out | apply below_alloc | apply pw_below_drewN | apply below_drew1 | refine below_set ?_ GE449.out | refine below_set ?_ GE460.out | refine below_set ?_ GE465.out | refine below_set ?_ GE471.out) | exact HB.out)⟩
end Go.Proofs.Ytpmkgeemopcahaa.F
end
