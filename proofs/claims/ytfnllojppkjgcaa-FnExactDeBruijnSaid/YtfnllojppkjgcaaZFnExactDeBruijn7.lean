import Derived.Test.YtfnllojppkjgcaaZFnExactDeBruijn4
import Derived.Test.YtfnllojppkjgcaaZFnExactDeBruijn5
import Derived.Test.YtfnllojppkjgcaaZFnExactDeBruijn6
section
/- Laid by a program of this claim's own. What the Go function does, as a Lean function, and the proof that the Go code does just that; Lean checks it. -/
namespace Go.Proofs.Ytfnllojppkjgcaa.F
open Go.RowKit Go.Proofs.YtfnllojppkjgcaaW.PrintWords Go.Proofs.YtfnllojppkjgcaaW.PrintLast Go.Proofs.YtfnllojppkjgcaaW.PrintMore
attribute [local go_sem] max2_int min2_int max_two min_two max_three min_three max_four min_four   -- for this text's walks alone
set_option linter.unusedVariables false
set_option linter.unusedSimpArgs false
/-! ### laws_FnExactDeBruijn: function 8 -/
mutual
def laws_FnExactDeBruijn.j0 : Nat → Int → Bool → Bool → List Int → Int → List Int → Int → Option (Bool)
  | 0, _, _, _, _, _, _, _ => none
  | k + 1, x0, x4, x29, x646000, x646001, x652000, x652001 => if x29 = true then (some false) else ((laws_markStack.f k x652000 x652001 1).bind fun bt653 => ((laws_heldStack.f k bt653.2 x652001 1).bind fun t655 => (if t655 < 0 then (some false) else (if t655 = bt653.1 then ((impl_DeBruijn.f k x0).bind fun bt656 => ((laws_eqStack.f k bt656.1 bt656.2.1 x646000 x646001).bind fun t662 => (if t662 = true then (laws_FnExactDeBruijn.j1 k bt653.1 (bt656.2.2 != x4) bt653.2 x652001) else (laws_FnExactDeBruijn.j1 k bt653.1 true bt653.2 x652001)))) else (some false)))))
def laws_FnExactDeBruijn.j1 : Nat → Int → Bool → List Int → Int → Option (Bool)
  | 0, _, _, _, _ => none
  | k + 1, x7, x54, x652000, x652001 => if x54 = true then (some false) else ((laws_heldStack.f k x652000 x652001 1).bind fun t663 => (if t663 < 0 then (some false) else (if t663 = x7 then (some true) else (some false))))
end
def laws_FnExactDeBruijn.f (k : Nat) (a0 : Int) : Option (Bool) := (spec_DeBruijn.f k a0).bind fun bt640 => ((impl_DeBruijn.f k a0).bind fun bt646 => ((laws_eqStack.f k bt646.1 bt646.2.1 bt640.1 bt640.2.1).bind fun t652 => (if t652 = true then (laws_FnExactDeBruijn.j0 k a0 bt640.2.2 (bt646.2.2 != bt640.2.2) bt640.1 bt640.2.1 bt646.1 bt646.2.1) else (laws_FnExactDeBruijn.j0 k a0 bt640.2.2 true bt640.1 bt640.2.1 bt646.1 bt646.2.1))))
set_option maxHeartbeats 8000000 in
set_option maxRecDepth 100000 in
theorem laws_FnExactDeBruijn.calls (k : Nat) (a0 : Int) (r : Bool) (w : World) (h : laws_FnExactDeBruijn.f k a0 = some r) :
    Calls Try.prog 8 #[.int .i64 a0] w fun e w' => e = .returned (.bool r) ∧ Below w.heap.size w w' := by
  have hu43 := Try.underlying43
  have HB := Aside0.mk (Below.refl w.heap.size w)
  have H : ((spec_DeBruijn.f k a0).bind fun bt640 => ((impl_DeBruijn.f k a0).bind fun bt646 => ((laws_eqStack.f k bt646.1 bt646.2.1 bt640.1 bt640.2.1).bind fun t652 => (if t652 = true then (laws_FnExactDeBruijn.j0 k a0 bt640.2.2 (bt646.2.2 != bt640.2.2) bt640.1 bt640.2.1 bt646.1 bt646.2.1) else (laws_FnExactDeBruijn.j0 k a0 bt640.2.2 true bt640.1 bt640.2.1 bt646.1 bt646.2.1))))) = some r := h
  clear h
  replace H := Option.bind_eq_some_iff.mp H
  obtain ⟨⟨t640, t643, t644⟩, A20, H⟩ := H
  replace H : ((impl_DeBruijn.f k a0).bind fun bt646 => ((laws_eqStack.f k bt646.1 bt646.2.1 t640 t643).bind fun t652 => (if t652 = true then (laws_FnExactDeBruijn.j0 k a0 t644 (bt646.2.2 != t644) t640 t643 bt646.1 bt646.2.1) else (laws_FnExactDeBruijn.j0 k a0 t644 true t640 t643 bt646.1 bt646.2.1)))) = some r := H
  have A2 := Aside0.mk A20
  clear A20
  replace H := Option.bind_eq_some_iff.mp H
  obtain ⟨⟨t646, t649, t650⟩, A30, H⟩ := H
  replace H : ((laws_eqStack.f k t646 t649 t640 t643).bind fun t652 => (if t652 = true then (laws_FnExactDeBruijn.j0 k a0 t644 (t650 != t644) t640 t643 t646 t649) else (laws_FnExactDeBruijn.j0 k a0 t644 true t640 t643 t646 t649))) = some r := H
  have A3 := Aside0.mk A30
  clear A30
  have HC4 := Aside0.mk H
  clear H
  go_enter Try.func8, Try.ntmps8
  go_upto_region 3 with (first | ((with_reducible refine gate_callee (f := 35) rfl ?_); refine goesL_ (some 13) rfl rfl Try.func35 (by kernel_rfl) rfl #[.int .i64 a0] rfl (by (try simp only [List.map_toArray, List.map_cons, List.map_nil]); first | done | rfl | (simp only [List.length_drop, List.length_take]; rfl)) ?_; (with_reducible refine (spec_DeBruijn.calls k a0 t640 t643 t644 _ A2.out).mono ?_); rintro e w5 ⟨v641, rfl, ho0, hb⟩; refine ⟨_, rfl, ?_⟩; have n0_ := Aside0.mk (Kd.R_lower ho0 (below_size (by repeat (first | (with_reducible first | exact HB.out | apply below_alloc | apply pw_below_drewN | apply below_drew1) | exact HB.out)))); have n1_ := Aside0.mk (below_step (by repeat (first | (with_reducible first | exact HB.out | apply below_alloc | apply pw_below_drewN | apply below_drew1) | exact HB.out)) hb); clear HB; have HO642 := n0_; have HB := n1_; clear n0_ n1_; (try clear hb); (try clear hb2); (try clear hk); (try clear hi); (try clear ho0)) | ((with_reducible refine gate_dst (N := 3) rfl ?_); refine box_event ?hg (N := 3) ?hd (cs := #[.slice none 0 0, .int .i64 0]) (t := 43) ?hr ?_; (case hd => rfl); (case hg => rfl); (case hr => first | (go_simp; done) | (go_simp; rfl)); intro gb645 hg w6 hbox hb; have n0_ := Aside0.mk (Kd.R_below (by (with_reducible repeat (first | apply Kd.R_alloc | apply Kd.R_drewN | apply Kd.R_drew)); exact HO642.out) hb); have n1_ := Aside0.mk (below_step (by repeat (first | (with_reducible first | exact HB.out | apply below_alloc | apply pw_below_drewN | apply below_drew1) | exact HB.out)) hb); have n2_ := Aside0.mk (hbox); have n3_ := Aside0.mk ((by rw [hg]; exact (below_size (by repeat (first | (with_reducible first | exact HB.out | apply below_alloc | apply pw_below_drewN | apply below_drew1) | exact HB.out))) : w.heap.size ≤ gb645)); have n4_ := Aside0.mk ((by rw [hg]; exact (below_size (by repeat (first | (with_reducible first | exact HB.out | apply below_alloc | apply pw_below_drewN | apply below_drew1) | exact HB.out))) : w.heap.size ≤ gb645)); clear HO642; clear HB; have HO642 := n0_; have HB := n1_; have BK645 := n2_; have GW645 := n3_; have GE645 := n4_; clear n0_ n1_ n2_ n3_ n4_; clear hb hbox hg; obtain ⟨Ao7, co7, eo7⟩ := Kd.R_slice HO642.out; subst eo7; have hcz8_0 : w6.cell? ⟨gb645, 0, none⟩ = some (.slice none 0 0) := (blk_cell BK645.out 0).trans rfl; have hcz8_1 : w6.cell? ⟨gb645, 1, none⟩ = some (.int .i64 0) := (blk_cell BK645.out 1).trans rfl; have hfz8_0 := blk_frozen BK645.out 0; have hfz8_1 := blk_frozen BK645.out 1) | ((with_reducible refine gate_callee (f := 32) rfl ?_); refine goesL_ (some 18) rfl rfl Try.func32 (by kernel_rfl) rfl #[.int .i64 a0] rfl (by (try simp only [List.map_toArray, List.map_cons, List.map_nil]); first | done | rfl | (simp only [List.length_drop, List.length_take]; rfl)) ?_; (with_reducible refine (impl_DeBruijn.calls k a0 t646 t649 t650 _ A3.out).mono ?_); rintro e w9 ⟨v647, rfl, ho0, hb⟩; refine ⟨_, rfl, ?_⟩; have n0_ := Aside0.mk (Kd.R_elder' (by (with_reducible repeat (first | apply Kd.R_alloc | apply Kd.R_drewN | apply Kd.R_drew)); exact (Kd.R_mono (Kd.R_far (p := ⟨gb645, 1, none⟩) (Kd.R_far (p := ⟨gb645, 0, none⟩) (Kd.R_types HO642.out BK645.out (by decide)) (fun _ hk => hk.2) (.slice Ao7 t640.length co7)) (fun _ hk => hk.2) (.int .i64 t643)) (fun _ h_ => h_.1))) (Kd.R_base ho0) hb); have n1_ := Aside0.mk (Kd.R_lower (Kd.R_new' ho0 (Kd.R_lt (by (with_reducible repeat (first | apply Kd.R_alloc | apply Kd.R_drewN | apply Kd.R_drew)); exact (Kd.R_mono (Kd.R_far (p := ⟨gb645, 1, none⟩) (Kd.R_far (p := ⟨gb645, 0, none⟩) (Kd.R_types HO642.out BK645.out (by decide)) (fun _ hk => hk.2) (.slice Ao7 t640.length co7)) (fun _ hk => hk.2) (.int .i64 t643)) (fun _ h_ => h_.1))))) (below_size (by repeat (first | (with_reducible first | exact HB.out | apply below_alloc | apply pw_below_drewN | apply below_drew1 | refine below_set ?_ GE645.out) | exact HB.out)))); have n2_ := Aside0.mk (blk_below (g := gb645) (o := .cells #[.slice Ao7 t640.length co7, .int .i64 t643] 43 (0, 0)) (by (with_reducible repeat (first | refine blk_drewN ?_ _ | refine blk_drew ?_ | refine blk_alloc ?_ _)); refine blk_put (cs := #[.slice Ao7 t640.length co7, .int .i64 0]) ?_ 1 _ rfl; (with_reducible repeat (first | refine blk_drewN ?_ _ | refine blk_drew ?_ | refine blk_alloc ?_ _)); refine blk_put (cs := #[.slice none 0 0, .int .i64 0]) ?_ 0 _ rfl; (with_reducible repeat (first | refine blk_drewN ?_ _ | refine blk_drew ?_ | refine blk_alloc ?_ _)); exact BK645.out) hb); have n3_ := Aside0.mk (below_step (by repeat (first | (with_reducible first | exact HB.out | apply below_alloc | apply pw_below_drewN | apply below_drew1 | refine below_set ?_ GE645.out) | exact HB.out)) hb); clear HO642; clear BK645; clear HB; have HO642 := n0_; have HO648 := n1_; have BK645 := n2_; have HB := n3_; clear n0_ n1_ n2_ n3_; (try clear hb); (try clear hb2); (try clear hk); (try clear hi); (try clear ho0)) | ((with_reducible refine gate_dst (N := 5) rfl ?_); refine box_event ?hg (N := 5) ?hd (cs := #[.slice none 0 0, .int .i64 0]) (t := 43) ?hr ?_; (case hd => rfl); (case hg => rfl); (case hr => first | (go_simp; done) | (go_simp; rfl)); intro gb651 hg w10 hbox hb; have n0_ := Aside0.mk (Kd.R_below (by (with_reducible repeat (first | apply Kd.R_alloc | apply Kd.R_drewN | apply Kd.R_drew)); exact HO642.out) hb); have n1_ := Aside0.mk (Kd.R_below (by (with_reducible repeat (first | apply Kd.R_alloc | apply Kd.R_drewN | apply Kd.R_drew)); exact HO648.out) hb); have n2_ := Aside0.mk (blk_below (g := gb645) (o := .cells #[.slice Ao7 t640.length co7, .int .i64 t643] 43 (0, 0)) (by (with_reducible repeat (first | refine blk_drewN ?_ _ | refine blk_drew ?_ | refine blk_alloc ?_ _)); exact BK645.out) hb); have n3_ := Aside0.mk (below_step (by repeat (first | (with_reducible first | exact HB.out | apply below_alloc | apply pw_below_drewN | apply below_drew1 | refine below_set ?_ GE645.out) | exact HB.out)) hb); have n4_ := Aside0.mk (hbox); have n5_ := Aside0.mk ((by rw [hg]; exact (below_size (by repeat (first | (with_reducible first | exact HB.out | apply below_alloc | apply pw_below_drewN | apply below_drew1 | refine below_set ?_ GE645.out) | exact HB.out))) : w.heap.size ≤ gb651)); have n6_ := Aside0.mk ((by rw [hg]; exact (below_size (by repeat (first | (with_reducible first | exact HB.out | apply below_alloc | apply pw_below_drewN | apply below_drew1 | refine below_set ?_ GE645.out) | exact HB.out))) : w.heap.size ≤ gb651)); have n7_ := Aside0.mk ((by rw [hg]; exact Nat.ne_of_lt (blk_lt (g := gb645) (o := .cells #[.slice Ao7 t640.length co7, .int .i64 t643] 43 (0, 0)) (by (with_reducible repeat (first | refine blk_drewN ?_ _ | refine blk_drew ?_ | refine blk_alloc ?_ _)); exact BK645.out)) : gb645 ≠ gb651)); have n8_ := Aside0.mk ((by rw [hg]; exact Nat.ne_of_gt (blk_lt (g := gb645) (o := .cells #[.slice Ao7 t640.length co7, .int .i64 t643] 43 (0, 0)) (by (with_reducible repeat (first | refine blk_drewN ?_ _ | refine blk_drew ?_ | refine blk_alloc ?_ _)); exact BK645.out)) : gb651 ≠ gb645)); clear HO642; clear HO648; clear BK645; clear HB; have HO642 := n0_; have HO648 := n1_; have BK645 := n2_; have HB := n3_; have BK651 := n4_; have GW651 := n5_; have GE651 := n6_; have NB645_651 := n7_; have NB651_645 := n8_; clear n0_ n1_ n2_ n3_ n4_ n5_ n6_ n7_ n8_; clear hb hbox hg; obtain ⟨Ao11, co11, eo11⟩ := Kd.R_slice HO648.out; subst eo11; have hnb12 := NB651_645.out; have hnc12 := NB645_651.out; have hcz13_0 : w10.cell? ⟨gb651, 0, none⟩ = some (.slice none 0 0) := (blk_cell BK651.out 0).trans rfl; have hcz13_1 : w10.cell? ⟨gb651, 1, none⟩ = some (.int .i64 0) := (blk_cell BK651.out 1).trans rfl; have hfz13_0 := blk_frozen BK651.out 0; have hfz13_1 := blk_frozen BK651.out 1))
  (try simp only [Act.put, List.setIfInBounds_toArray, List.set_cons_zero, List.set_cons_succ])
  go_cut [29] (fun v29 wc => ∃ (kq : Nat) (x29_3 : Bool), v29 = .bool x29_3 ∧ Aside0 (laws_FnExactDeBruijn.j0 kq a0 t644 x29_3 t640 t643 t646 t649 = some r) ∧ Aside0 (kq ≤ k) ∧ Aside0 (Kd.R (Kd.int .i64) 3 wc w.heap.size (fun k_ => some k_ ≠ ((.slice Ao11 t646.length co11) : Value).ownBlock) (.slice Ao7 t640.length co7) t640) ∧ Aside0 (Kd.R (Kd.int .i64) 3 wc w.heap.size (fun k_ => some k_ ≠ ((.slice Ao7 t640.length co7) : Value).ownBlock) (.slice Ao11 t646.length co11) t646) ∧ Aside0 (wc.heap[gb645]? = some (.cells #[(.slice Ao7 t640.length co7), .int .i64 t643] 43 (0, 0))) ∧ Aside0 (wc.heap[gb651]? = some (.cells #[(.slice Ao11 t646.length co11), .int .i64 t649] 43 (0, 0))) ∧ Aside0 (Below w.heap.size w wc))
  case first =>
    have H := HC4.out
    clear HC4
    replace H := Option.bind_eq_some_iff.mp H
    obtain ⟨t652, A140, H⟩ := H
    replace H : (if t652 = true then (laws_FnExactDeBruijn.j0 k a0 t644 (t650 != t644) t640 t643 t646 t649) else (laws_FnExactDeBruijn.j0 k a0 t644 true t640 t643 t646 t649)) = some r := H
    have A14 := Aside0.mk A140
    clear A140
    by_cases c15 : t652 = true
    · subst c15
      have H1 : (laws_FnExactDeBruijn.j0 k a0 t644 (t650 != t644) t640 t643 t646 t649) = some r := by rw [if_pos rfl] at H; exact H
      clear H
      have H := H1
      clear H1
      have H' := Aside0.mk H
      clear H
      have hnb16 := NB651_645.out
      have hnc16 := NB645_651.out
      have hcz17_0 : w10.cell? ⟨gb651, 0, none⟩ = some (.slice none 0 0) := (blk_cell BK651.out 0).trans rfl
      have hcz17_1 : w10.cell? ⟨gb651, 1, none⟩ = some (.int .i64 0) := (blk_cell BK651.out 1).trans rfl
      have hfz17_0 := blk_frozen BK651.out 0
      have hfz17_1 := blk_frozen BK651.out 1
      have hcz18_0 : w10.cell? ⟨gb645, 0, none⟩ = some (.slice Ao7 t640.length co7) := (blk_cell BK645.out 0).trans rfl
      have hcz18_1 : w10.cell? ⟨gb645, 1, none⟩ = some (.int .i64 t643) := (blk_cell BK645.out 1).trans rfl
      have hfz18_0 := blk_frozen BK645.out 0
      have hfz18_1 := blk_frozen BK645.out 1
      go_wp2_with (first | ((with_reducible refine gate_callee (f := 36) rfl ?_); refine goesL_ (some 23) rfl rfl Try.func36 (by kernel_rfl) rfl #[.agg #[.slice Ao11 t646.length co11, .int .i64 t649], .agg #[.slice Ao7 t640.length co7, .int .i64 t643]] rfl (by (try simp only [List.map_toArray, List.map_cons, List.map_nil]); first | done | rfl | (simp only [List.length_drop, List.length_take]; rfl)) ?_; (with_reducible refine (laws_eqStack.calls k _ _ t646 t649 _ _ t640 t643 true _ ?side1 ?side2 ?side3 ?side4 A14.out).mono ?_); (case side1 => refine (Kd.R_reads' (e := 3) (base := w.heap.size) (ok := fun k_ => (True ∧ some k_ ≠ (.slice Ao7 t640.length co7 : Value).ownBlock)) (n := t646.length) (c := co11) ?_).2.2; exact (by (with_reducible repeat (first | apply Kd.R_alloc | apply Kd.R_drewN | apply Kd.R_drew)); exact (Kd.R_mono (Kd.R_far (p := ⟨gb651, 1, none⟩) (Kd.R_far (p := ⟨gb651, 0, none⟩) (Kd.R_types HO648.out BK651.out (by decide)) (fun _ hk => hk.2) (.slice Ao11 t646.length co11)) (fun _ hk => hk.2) (.int .i64 t649)) (fun _ h_ => h_.1)))); (case side2 => exact (Kd.R_reads' HO648.out).2.1); (case side3 => refine (Kd.R_reads' (e := 3) (base := w.heap.size) (ok := fun k_ => (True ∧ some k_ ≠ (.slice Ao11 t646.length co11 : Value).ownBlock)) (n := t640.length) (c := co7) ?_).2.2; exact (by (with_reducible repeat (first | apply Kd.R_alloc | apply Kd.R_drewN | apply Kd.R_drew)); exact (Kd.R_mono (Kd.R_far (p := ⟨gb651, 1, none⟩) (Kd.R_far (p := ⟨gb651, 0, none⟩) (Kd.R_types HO642.out BK651.out (by decide)) (fun _ hk => hk.2) (.slice Ao11 t646.length co11)) (fun _ hk => hk.2) (.int .i64 t649)) (fun _ h_ => h_.1)))); (case side4 => exact (Kd.R_reads' HO642.out).2.1); rintro e w19 ⟨rfl, hb⟩; refine ⟨_, rfl, ?_⟩; have n0_ := Aside0.mk (Kd.R_below (by (with_reducible repeat (first | apply Kd.R_alloc | apply Kd.R_drewN | apply Kd.R_drew)); exact (Kd.R_mono (Kd.R_far (p := ⟨gb651, 1, none⟩) (Kd.R_far (p := ⟨gb651, 0, none⟩) (Kd.R_types HO642.out BK651.out (by decide)) (fun _ hk => hk.2) (.slice Ao11 t646.length co11)) (fun _ hk => hk.2) (.int .i64 t649)) (fun _ h_ => h_.1))) hb); have n1_ := Aside0.mk (Kd.R_below (by (with_reducible repeat (first | apply Kd.R_alloc | apply Kd.R_drewN | apply Kd.R_drew)); exact (Kd.R_mono (Kd.R_far (p := ⟨gb651, 1, none⟩) (Kd.R_far (p := ⟨gb651, 0, none⟩) (Kd.R_types HO648.out BK651.out (by decide)) (fun _ hk => hk.2) (.slice Ao11 t646.length co11)) (fun _ hk => hk.2) (.int .i64 t649)) (fun _ h_ => h_.1))) hb); have n2_ := Aside0.mk (blk_below (g := gb645) (o := .cells #[.slice Ao7 t640.length co7, .int .i64 t643] 43 (0, 0)) (by (with_reducible repeat (first | refine blk_drewN ?_ _ | refine blk_drew ?_ | refine blk_alloc ?_ _)); refine blk_far ?_ NB645_651.out _; (with_reducible repeat (first | refine blk_drewN ?_ _ | refine blk_drew ?_ | refine blk_alloc ?_ _)); refine blk_far ?_ NB645_651.out _; (with_reducible repeat (first | refine blk_drewN ?_ _ | refine blk_drew ?_ | refine blk_alloc ?_ _)); exact BK645.out) hb); have n3_ := Aside0.mk (blk_below (g := gb651) (o := .cells #[.slice Ao11 t646.length co11, .int .i64 t649] 43 (0, 0)) (by (with_reducible repeat (first | refine blk_drewN ?_ _ | refine blk_drew ?_ | refine blk_alloc ?_ _)); refine blk_put (cs := #[.slice Ao11 t646.length co11, .int .i64 0]) ?_ 1 _ rfl; (with_reducible repeat (first | refine blk_drewN ?_ _ | refine blk_drew ?_ | refine blk_alloc ?_ _)); refine blk_put (cs := #[.slice none 0 0, .int .i64 0]) ?_ 0 _ rfl; (with_reducible repeat (first | refine blk_drewN ?_ _ | refine blk_drew ?_ | refine blk_alloc ?_ _)); exact BK651.out) hb); have n4_ := Aside0.mk (below_step (by repeat (first | (with_reducible first | exact HB.out | apply below_alloc | apply pw_below_drewN | apply below_drew1 | refine below_set ?_ GE645.out | refine below_set ?_ GE651.out) | exact HB.out)) hb); clear HO642; clear HO648; clear BK645; clear BK651; clear HB; have HO642 := n0_; have HO648 := n1_; have BK645 := n2_; have BK651 := n3_; have HB := n4_; clear n0_ n1_ n2_ n3_ n4_; (try clear hb); (try clear hb2); (try clear hk); (try clear hi)))
      go_meet
      case rel => exact ⟨_, ((t650 != t644)), (by first | rfl | (simp; done) | (simp [*]; done)), H', ⟨by first | omega | exact Nat.le_refl _⟩, ⟨by (with_reducible repeat (first | apply Kd.R_alloc | apply Kd.R_drewN | apply Kd.R_drew)); exact Kd.R_mono HO642.out (fun _ hk => hk.2)⟩, ⟨by (with_reducible repeat (first | apply Kd.R_alloc | apply Kd.R_drewN | apply Kd.R_drew)); exact Kd.R_mono HO648.out (fun _ hk => hk.2)⟩, ⟨by (with_reducible repeat (first | refine blk_drewN ?_ _ | refine blk_drew ?_ | refine blk_alloc ?_ _)); exact BK645.out⟩, ⟨by (with_reducible repeat (first | refine blk_drewN ?_ _ | refine blk_drew ?_ | refine blk_alloc ?_ _)); exact BK651.out⟩, ⟨by repeat (first | (with_reducible first | exact HB.out | apply below_alloc | apply pw_below_drewN | apply below_drew1 | refine below_set ?_ GE645.out | refine below_set ?_ GE651.out) | exact HB.out)⟩⟩
    · replace c15 := Bool.eq_false_iff.mpr c15
      subst c15
      have H1 : (laws_FnExactDeBruijn.j0 k a0 t644 true t640 t643 t646 t649) = some r := by rw [if_neg (show ¬ (false = true) by decide)] at H; exact H
      clear H
      have H := H1
      clear H1
      have H' := Aside0.mk H
      clear H
      have hnb20 := NB651_645.out
      have hnc20 := NB645_651.out
      have hcz21_0 : w10.cell? ⟨gb651, 0, none⟩ = some (.slice none 0 0) := (blk_cell BK651.out 0).trans rfl
      have hcz21_1 : w10.cell? ⟨gb651, 1, none⟩ = some (.int .i64 0) := (blk_cell BK651.out 1).trans rfl
      have hfz21_0 := blk_frozen BK651.out 0
      have hfz21_1 := blk_frozen BK651.out 1
      have hcz22_0 : w10.cell? ⟨gb645, 0, none⟩ = some (.slice Ao7 t640.length co7) := (blk_cell BK645.out 0).trans rfl
      have hcz22_1 : w10.cell? ⟨gb645, 1, none⟩ = some (.int .i64 t643) := (blk_cell BK645.out 1).trans rfl
      have hfz22_0 := blk_frozen BK645.out 0
      have hfz22_1 := blk_frozen BK645.out 1
      go_wp2_with (first | ((with_reducible refine gate_callee (f := 36) rfl ?_); refine goesL_ (some 23) rfl rfl Try.func36 (by kernel_rfl) rfl #[.agg #[.slice Ao11 t646.length co11, .int .i64 t649], .agg #[.slice Ao7 t640.length co7, .int .i64 t643]] rfl (by (try simp only [List.map_toArray, List.map_cons, List.map_nil]); first | done | rfl | (simp only [List.length_drop, List.length_take]; rfl)) ?_; (with_reducible refine (laws_eqStack.calls k _ _ t646 t649 _ _ t640 t643 false _ ?side1 ?side2 ?side3 ?side4 A14.out).mono ?_); (case side1 => refine (Kd.R_reads' (e := 3) (base := w.heap.size) (ok := fun k_ => (True ∧ some k_ ≠ (.slice Ao7 t640.length co7 : Value).ownBlock)) (n := t646.length) (c := co11) ?_).2.2; exact (by (with_reducible repeat (first | apply Kd.R_alloc | apply Kd.R_drewN | apply Kd.R_drew)); exact (Kd.R_mono (Kd.R_far (p := ⟨gb651, 1, none⟩) (Kd.R_far (p := ⟨gb651, 0, none⟩) (Kd.R_types HO648.out BK651.out (by decide)) (fun _ hk => hk.2) (.slice Ao11 t646.length co11)) (fun _ hk => hk.2) (.int .i64 t649)) (fun _ h_ => h_.1)))); (case side2 => exact (Kd.R_reads' HO648.out).2.1); (case side3 => refine (Kd.R_reads' (e := 3) (base := w.heap.size) (ok := fun k_ => (True ∧ some k_ ≠ (.slice Ao11 t646.length co11 : Value).ownBlock)) (n := t640.length) (c := co7) ?_).2.2; exact (by (with_reducible repeat (first | apply Kd.R_alloc | apply Kd.R_drewN | apply Kd.R_drew)); exact (Kd.R_mono (Kd.R_far (p := ⟨gb651, 1, none⟩) (Kd.R_far (p := ⟨gb651, 0, none⟩) (Kd.R_types HO642.out BK651.out (by decide)) (fun _ hk => hk.2) (.slice Ao11 t646.length co11)) (fun _ hk => hk.2) (.int .i64 t649)) (fun _ h_ => h_.1)))); (case side4 => exact (Kd.R_reads' HO642.out).2.1); rintro e w23 ⟨rfl, hb⟩; refine ⟨_, rfl, ?_⟩; have n0_ := Aside0.mk (Kd.R_below (by (with_reducible repeat (first | apply Kd.R_alloc | apply Kd.R_drewN | apply Kd.R_drew)); exact (Kd.R_mono (Kd.R_far (p := ⟨gb651, 1, none⟩) (Kd.R_far (p := ⟨gb651, 0, none⟩) (Kd.R_types HO642.out BK651.out (by decide)) (fun _ hk => hk.2) (.slice Ao11 t646.length co11)) (fun _ hk => hk.2) (.int .i64 t649)) (fun _ h_ => h_.1))) hb); have n1_ := Aside0.mk (Kd.R_below (by (with_reducible repeat (first | apply Kd.R_alloc | apply Kd.R_drewN | apply Kd.R_drew)); exact (Kd.R_mono (Kd.R_far (p := ⟨gb651, 1, none⟩) (Kd.R_far (p := ⟨gb651, 0, none⟩) (Kd.R_types HO648.out BK651.out (by decide)) (fun _ hk => hk.2) (.slice Ao11 t646.length co11)) (fun _ hk => hk.2) (.int .i64 t649)) (fun _ h_ => h_.1))) hb); have n2_ := Aside0.mk (blk_below (g := gb645) (o := .cells #[.slice Ao7 t640.length co7, .int .i64 t643] 43 (0, 0)) (by (with_reducible repeat (first | refine blk_drewN ?_ _ | refine blk_drew ?_ | refine blk_alloc ?_ _)); refine blk_far ?_ NB645_651.out _; (with_reducible repeat (first | refine blk_drewN ?_ _ | refine blk_drew ?_ | refine blk_alloc ?_ _)); refine blk_far ?_ NB645_651.out _; (with_reducible repeat (first | refine blk_drewN ?_ _ | refine blk_drew ?_ | refine blk_alloc ?_ _)); exact BK645.out) hb); have n3_ := Aside0.mk (blk_below (g := gb651) (o := .cells #[.slice Ao11 t646.length co11, .int .i64 t649] 43 (0, 0)) (by (with_reducible repeat (first | refine blk_drewN ?_ _ | refine blk_drew ?_ | refine blk_alloc ?_ _)); refine blk_put (cs := #[.slice Ao11 t646.length co11, .int .i64 0]) ?_ 1 _ rfl; (with_reducible repeat (first | refine blk_drewN ?_ _ | refine blk_drew ?_ | refine blk_alloc ?_ _)); refine blk_put (cs := #[.slice none 0 0, .int .i64 0]) ?_ 0 _ rfl; (with_reducible repeat (first | refine blk_drewN ?_ _ | refine blk_drew ?_ | refine blk_alloc ?_ _)); exact BK651.out) hb); have n4_ := Aside0.mk (below_step (by repeat (first | (with_reducible first | exact HB.out | apply below_alloc | apply pw_below_drewN | apply below_drew1 | refine below_set ?_ GE645.out | refine below_set ?_ GE651.out) | exact HB.out)) hb); clear HO642; clear HO648; clear BK645; clear BK651; clear HB; have HO642 := n0_; have HO648 := n1_; have BK645 := n2_; have BK651 := n3_; have HB := n4_; clear n0_ n1_ n2_ n3_ n4_; (try clear hb); (try clear hb2); (try clear hk); (try clear hi)))
      go_meet
      case rel => exact ⟨_, (true), (by first | rfl | (simp; done) | (simp [*]; done)), H', ⟨by first | omega | exact Nat.le_refl _⟩, ⟨by (with_reducible repeat (first | apply Kd.R_alloc | apply Kd.R_drewN | apply Kd.R_drew)); exact Kd.R_mono HO642.out (fun _ hk => hk.2)⟩, ⟨by (with_reducible repeat (first | apply Kd.R_alloc | apply Kd.R_drewN | apply Kd.R_drew)); exact Kd.R_mono HO648.out (fun _ hk => hk.2)⟩, ⟨by (with_reducible repeat (first | refine blk_drewN ?_ _ | refine blk_drew ?_ | refine blk_alloc ?_ _)); exact BK645.out⟩, ⟨by (with_reducible repeat (first | refine blk_drewN ?_ _ | refine blk_drew ?_ | refine blk_alloc ?_ _)); exact BK651.out⟩, ⟨by repeat (first | (with_reducible first | exact HB.out | apply below_alloc | apply pw_below_drewN | apply below_drew1 | refine below_set ?_ GE645.out | refine below_set ?_ GE651.out) | exact HB.out)⟩⟩
  case rest =>
    clear HC4
    try clear c1
    try clear c2
    try clear p2
    try clear c3
    try clear c8
    try clear c12
    try clear c15
    try clear c16
    try clear c20
    try clear hcz13_0
    try clear hcz13_1
    try clear hcz17_0
    try clear hcz17_1
    try clear hcz18_0
    try clear hcz18_1
    try clear hcz21_0
    try clear hcz21_1
    try clear hcz22_0
    try clear hcz22_1
    try clear hcz8_0
    try clear hcz8_1
    try clear hfz13_0
    try clear hfz13_1
    try clear hfz17_0
    try clear hfz17_1
    try clear hfz18_0
    try clear hfz18_1
    try clear hfz21_0
    try clear hfz21_1
    try clear hfz22_0
    try clear hfz22_1
    try clear hfz8_0
    try clear hfz8_1
    obtain ⟨kq, x29_3, rfl, HA, HJ3, HO_646000, HO_652000, BK645, BK651, HB⟩ := hcut
    cases kq with
    | zero => exact absurd HA.out (by simp [laws_FnExactDeBruijn.j0])
    | succ kj3 =>
      have H := HA.out
      clear HA
      simp only [laws_FnExactDeBruijn.j0] at H
      by_cases c24 : x29_3 = true
      · subst c24
        have H1 : (some false) = some r := by rw [if_pos rfl] at H; exact H
        clear H
        have H := H1
        clear H1
        obtain rfl := Option.some.inj H
        go_wp2
        go_ret
        exact ⟨by first | rfl | (simp [errW_none, errW_some] <;> rfl) | (simp [*, errW_none, errW_some] <;> rfl), by repeat (first | (with_reducible first | exact HB.out | apply below_alloc | apply pw_below_drewN | apply below_drew1 | refine below_set ?_ GE645.out | refine below_set ?_ GE651.out) | exact HB.out)⟩
      · replace c24 := Bool.eq_false_iff.mpr c24
        subst c24
        have H1 : ((laws_markStack.f kj3 t646 t649 1).bind fun bt653 => ((laws_heldStack.f kj3 bt653.2 t649 1).bind fun t655 => (if t655 < 0 then (some false) else (if t655 = bt653.1 then ((impl_DeBruijn.f kj3 a0).bind fun bt656 => ((laws_eqStack.f kj3 bt656.1 bt656.2.1 t640 t643).bind fun t662 => (if t662 = true then (laws_FnExactDeBruijn.j1 kj3 bt653.1 (bt656.2.2 != t644) bt653.2 t649) else (laws_FnExactDeBruijn.j1 kj3 bt653.1 true bt653.2 t649)))) else (some false))))) = some r := by rw [if_neg (show ¬ (false = true) by decide)] at H; exact H
        clear H
        have H := H1
        clear H1
        replace H := Option.bind_eq_some_iff.mp H
        obtain ⟨⟨t653, t654⟩, A250, H⟩ := H
        replace H : ((laws_heldStack.f kj3 t654 t649 1).bind fun t655 => (if t655 < 0 then (some false) else (if t655 = t653 then ((impl_DeBruijn.f kj3 a0).bind fun bt656 => ((laws_eqStack.f kj3 bt656.1 bt656.2.1 t640 t643).bind fun t662 => (if t662 = true then (laws_FnExactDeBruijn.j1 kj3 t653 (bt656.2.2 != t644) t654 t649) else (laws_FnExactDeBruijn.j1 kj3 t653 true t654 t649)))) else (some false)))) = some r := H
        have A25 := Aside0.mk A250
        clear A250
        replace H := Option.bind_eq_some_iff.mp H
        obtain ⟨t655, A260, H⟩ := H
        replace H : (if t655 < 0 then (some false) else (if t655 = t653 then ((impl_DeBruijn.f kj3 a0).bind fun bt656 => ((laws_eqStack.f kj3 bt656.1 bt656.2.1 t640 t643).bind fun t662 => (if t662 = true then (laws_FnExactDeBruijn.j1 kj3 t653 (bt656.2.2 != t644) t654 t649) else (laws_FnExactDeBruijn.j1 kj3 t653 true t654 t649)))) else (some false))) = some r := H
        have A26 := Aside0.mk A260
        clear A260
        by_cases c27 : t655 < 0
        · rw [if_pos c27] at H
          have c27b0 : decide (t655 < 0) = true := decide_eq_true c27
          clear c27
          obtain rfl := Option.some.inj H
          have hnb28 := NB651_645.out
          have hnc28 := NB645_651.out
          have hcz29_0 : wc.cell? ⟨gb651, 0, none⟩ = some (.slice Ao11 t646.length co11) := (blk_cell BK651.out 0).trans rfl
          have hcz29_1 : wc.cell? ⟨gb651, 1, none⟩ = some (.int .i64 t649) := (blk_cell BK651.out 1).trans rfl
          have hfz29_0 := blk_frozen BK651.out 0
          have hfz29_1 := blk_frozen BK651.out 1
          go_wp2_with (first | ((with_reducible refine gate_callee (f := 37) rfl ?_); refine goesL_ (some 32) rfl rfl Try.func37 (by kernel_rfl) rfl #[.agg #[.slice Ao11 t646.length co11, .int .i64 t649], .int .i64 1] rfl (by (try simp only [List.map_toArray, List.map_cons, List.map_nil]); first | done | rfl | (simp only [List.length_drop, List.length_take]; rfl)) ?_; (with_reducible refine (laws_markStack.calls kj3 (fun k_ => some k_ = (.slice Ao11 t646.length co11 : Value).ownBlock) (.slice Ao11 t646.length co11) t646 t649 1 t653 t654 w _ ?side1 ?side2 A25.out).mono ?_); (case side1 => repeat (first | (with_reducible first | exact HB.out | apply below_alloc | apply pw_below_drewN | apply below_drew1 | refine below_set ?_ GE645.out | refine below_set ?_ GE651.out) | exact HB.out)); (case side2 => exact Kd.R_tight rfl HO_652000.out); rintro e w30 ⟨rfl, hy0, hb, hkp⟩; refine ⟨_, rfl, ?_⟩; have n0_ := Aside0.mk (Kd.R_mono (ok' := fun k_ => some k_ ≠ (.slice Ao11 t646.length co11 : Value).ownBlock) (Kd.R_keptB (HO_646000.out) hkp (fun k_ hk_ hs_ => (hk_) hs_)) (fun k_ hk_ => hk_.1)); have n1_ := Aside0.mk (Kd.R_reok rfl hy0 (fun k_ e_ => HO_652000.out.1 k_ e_)); have n2_ := Aside0.mk (blk_kept (by (with_reducible repeat (first | refine blk_drewN ?_ _ | refine blk_drew ?_ | refine blk_alloc ?_ _)); exact BK645.out) hkp (fun hs_ => (fun e_ => (Kd.R_ne HO_652000.out BK645.out (by decide)) e_) hs_)); have n3_ := Aside0.mk (blk_kept (by (with_reducible repeat (first | refine blk_drewN ?_ _ | refine blk_drew ?_ | refine blk_alloc ?_ _)); exact BK651.out) hkp (fun hs_ => (fun e_ => (Kd.R_ne HO_652000.out BK651.out (by decide)) e_) hs_)); have n4_ := Aside0.mk (hb); clear HO_646000; clear HO_652000; clear BK645; clear BK651; clear HB; have HO_646000 := n0_; have HO_652000 := n1_; have BK645 := n2_; have BK651 := n3_; have HB := n4_; clear n0_ n1_ n2_ n3_ n4_; (try clear hb); (try clear hkp); (try clear hy0); have hcz31_0 : w30.cell? ⟨gb651, 0, none⟩ = some (.slice Ao11 t646.length co11) := (blk_cell BK651.out 0).trans rfl; have hcz31_1 : w30.cell? ⟨gb651, 1, none⟩ = some (.int .i64 t649) := (blk_cell BK651.out 1).trans rfl; have hfz31_0 := blk_frozen BK651.out 0; have hfz31_1 := blk_frozen BK651.out 1) | ((with_reducible refine gate_callee (f := 38) rfl ?_); refine goesL_ (some 35) rfl rfl Try.func38 (by kernel_rfl) rfl #[.agg #[.slice Ao11 t654.length co11, .int .i64 t649], .int .i64 1] rfl (by (try simp only [List.map_toArray, List.map_cons, List.map_nil]); first | done | (rw [show t654.length = t646.length from (Kd.R_reads' HO_652000.out).1.symm] <;> rfl) | rfl | (simp only [List.length_drop, List.length_take]; rfl)) ?_; (with_reducible refine (laws_heldStack.calls kj3 _ _ t654 t649 1 t655 _ ?side1 ?side2 A26.out).mono ?_); (case side1 => repeat (first | exact (Kd.R_reads' HO_652000.out).2.2 | (with_reducible refine Kd.C_alloc ?_ _) | (with_reducible refine Kd.C_drewN ?_ _) | (with_reducible refine Kd.C_drew ?_))); (case side2 => rw [show t654.length = t646.length from (Kd.R_reads' HO_652000.out).1.symm]; exact (Kd.R_reads' HO_652000.out).2.1); rintro e w32 ⟨rfl, hb⟩; refine ⟨_, rfl, ?_⟩; have n0_ := Aside0.mk (Kd.R_below (by (with_reducible repeat (first | apply Kd.R_alloc | apply Kd.R_drewN | apply Kd.R_drew)); exact HO_646000.out) hb); have n1_ := Aside0.mk (Kd.R_below (by (with_reducible repeat (first | apply Kd.R_alloc | apply Kd.R_drewN | apply Kd.R_drew)); exact HO_652000.out) hb); have n2_ := Aside0.mk (blk_below (g := gb645) (o := .cells #[.slice Ao7 t640.length co7, .int .i64 t643] 43 (0, 0)) (by (with_reducible repeat (first | refine blk_drewN ?_ _ | refine blk_drew ?_ | refine blk_alloc ?_ _)); exact BK645.out) hb); have n3_ := Aside0.mk (blk_below (g := gb651) (o := .cells #[.slice Ao11 t646.length co11, .int .i64 t649] 43 (0, 0)) (by (with_reducible repeat (first | refine blk_drewN ?_ _ | refine blk_drew ?_ | refine blk_alloc ?_ _)); exact BK651.out) hb); have n4_ := Aside0.mk (below_step (by repeat (first | (with_reducible first | exact HB.out | apply below_alloc | apply pw_below_drewN | apply below_drew1 | refine below_set ?_ GE645.out | refine below_set ?_ GE651.out) | exact HB.out)) hb); clear HO_646000; clear HO_652000; clear BK645; clear BK651; clear HB; have HO_646000 := n0_; have HO_652000 := n1_; have BK645 := n2_; have BK651 := n3_; have HB := n4_; clear n0_ n1_ n2_ n3_ n4_; (try clear hb); (try clear hb2); (try clear hk); (try clear hi)))
          go_ret
          exact ⟨by first | rfl | (simp [errW_none, errW_some] <;> rfl) | (simp [*, errW_none, errW_some] <;> rfl), by repeat (first | (with_reducible first | exact HB.out | apply below_alloc | apply pw_below_drewN | apply below_drew1 | refine below_set ?_ GE645.out | refine below_set ?_ GE651.out) | exact HB.out)⟩
        · rw [if_neg c27] at H
          have c27b0 : decide (t655 < 0) = false := decide_eq_false c27
          clear c27
          by_cases c33 : t655 = t653
          · rw [if_pos c33] at H
            have c33b0 : (t655 == t653) = true := beq_iff_eq.mpr c33
            have c33b1 : (t655 != t653) = false := bne_eq_false_iff_eq.mpr c33
            clear c33
            replace H := Option.bind_eq_some_iff.mp H
            obtain ⟨⟨t656, t659, t660⟩, A340, H⟩ := H
            replace H : ((laws_eqStack.f kj3 t656 t659 t640 t643).bind fun t662 => (if t662 = true then (laws_FnExactDeBruijn.j1 kj3 t653 (t660 != t644) t654 t649) else (laws_FnExactDeBruijn.j1 kj3 t653 true t654 t649))) = some r := H
            have A34 := Aside0.mk A340
            clear A340
            have HC35 := Aside0.mk H
            clear H
            have hnb36 := NB651_645.out
            have hnc36 := NB645_651.out
            have hcz37_0 : wc.cell? ⟨gb651, 0, none⟩ = some (.slice Ao11 t646.length co11) := (blk_cell BK651.out 0).trans rfl
            have hcz37_1 : wc.cell? ⟨gb651, 1, none⟩ = some (.int .i64 t649) := (blk_cell BK651.out 1).trans rfl
            have hfz37_0 := blk_frozen BK651.out 0
            have hfz37_1 := blk_frozen BK651.out 1
            go_upto_region 14 with (first | ((with_reducible refine gate_callee (f := 37) rfl ?_); refine goesL_ (some 32) rfl rfl Try.func37 (by kernel_rfl) rfl #[.agg #[.slice Ao11 t646.length co11, .int .i64 t649], .int .i64 1] rfl (by (try simp only [List.map_toArray, List.map_cons, List.map_nil]); first | done | rfl | (simp only [List.length_drop, List.length_take]; rfl)) ?_; (with_reducible refine (laws_markStack.calls kj3 (fun k_ => some k_ = (.slice Ao11 t646.length co11 : Value).ownBlock) (.slice Ao11 t646.length co11) t646 t649 1 t653 t654 w _ ?side1 ?side2 A25.out).mono ?_); (case side1 => repeat (first | (with_reducible first | exact HB.out | apply below_alloc | apply pw_below_drewN | apply below_drew1 | refine below_set ?_ GE645.out | refine below_set ?_ GE651.out) | exact HB.out)); (case side2 => exact Kd.R_tight rfl HO_652000.out); rintro e w38 ⟨rfl, hy0, hb, hkp⟩; refine ⟨_, rfl, ?_⟩; have n0_ := Aside0.mk (Kd.R_mono (ok' := fun k_ => some k_ ≠ (.slice Ao11 t646.length co11 : Value).ownBlock) (Kd.R_keptB (HO_646000.out) hkp (fun k_ hk_ hs_ => (hk_) hs_)) (fun k_ hk_ => hk_.1)); have n1_ := Aside0.mk (Kd.R_reok rfl hy0 (fun k_ e_ => HO_652000.out.1 k_ e_)); have n2_ := Aside0.mk (blk_kept (by (with_reducible repeat (first | refine blk_drewN ?_ _ | refine blk_drew ?_ | refine blk_alloc ?_ _)); exact BK645.out) hkp (fun hs_ => (fun e_ => (Kd.R_ne HO_652000.out BK645.out (by decide)) e_) hs_)); have n3_ := Aside0.mk (blk_kept (by (with_reducible repeat (first | refine blk_drewN ?_ _ | refine blk_drew ?_ | refine blk_alloc ?_ _)); exact BK651.out) hkp (fun hs_ => (fun e_ => (Kd.R_ne HO_652000.out BK651.out (by decide)) e_) hs_)); have n4_ := Aside0.mk (hb); clear HO_646000; clear HO_652000; clear BK645; clear BK651; clear HB; have HO_646000 := n0_; have HO_652000 := n1_; have BK645 := n2_; have BK651 := n3_; have HB := n4_; clear n0_ n1_ n2_ n3_ n4_; (try clear hb); (try clear hkp); (try clear hy0); have hcz39_0 : w38.cell? ⟨gb651, 0, none⟩ = some (.slice Ao11 t646.length co11) := (blk_cell BK651.out 0).trans rfl; have hcz39_1 : w38.cell? ⟨gb651, 1, none⟩ = some (.int .i64 t649) := (blk_cell BK651.out 1).trans rfl; have hfz39_0 := blk_frozen BK651.out 0; have hfz39_1 := blk_frozen BK651.out 1) | ((with_reducible refine gate_callee (f := 38) rfl ?_); refine goesL_ (some 35) rfl rfl Try.func38 (by kernel_rfl) rfl #[.agg #[.slice Ao11 t654.length co11, .int .i64 t649], .int .i64 1] rfl (by (try simp only [List.map_toArray, List.map_cons, List.map_nil]); first | done | (rw [show t654.length = t646.length from (Kd.R_reads' HO_652000.out).1.symm] <;> rfl) | rfl | (simp only [List.length_drop, List.length_take]; rfl)) ?_; (with_reducible refine (laws_heldStack.calls kj3 _ _ t654 t649 1 t655 _ ?side1 ?side2 A26.out).mono ?_); (case side1 => repeat (first | exact (Kd.R_reads' HO_652000.out).2.2 | (with_reducible refine Kd.C_alloc ?_ _) | (with_reducible refine Kd.C_drewN ?_ _) | (with_reducible refine Kd.C_drew ?_))); (case side2 => rw [show t654.length = t646.length from (Kd.R_reads' HO_652000.out).1.symm]; exact (Kd.R_reads' HO_652000.out).2.1); rintro e w40 ⟨rfl, hb⟩; refine ⟨_, rfl, ?_⟩; have n0_ := Aside0.mk (Kd.R_below (by (with_reducible repeat (first | apply Kd.R_alloc | apply Kd.R_drewN | apply Kd.R_drew)); exact HO_646000.out) hb); have n1_ := Aside0.mk (Kd.R_below (by (with_reducible repeat (first | apply Kd.R_alloc | apply Kd.R_drewN | apply Kd.R_drew)); exact HO_652000.out) hb); have n2_ := Aside0.mk (blk_below (g := gb645) (o := .cells #[.slice Ao7 t640.length co7, .int .i64 t643] 43 (0, 0)) (by (with_reducible repeat (first | refine blk_drewN ?_ _ | refine blk_drew ?_ | refine blk_alloc ?_ _)); exact BK645.out) hb); have n3_ := Aside0.mk (blk_below (g := gb651) (o := .cells #[.slice Ao11 t646.length co11, .int .i64 t649] 43 (0, 0)) (by (with_reducible repeat (first | refine blk_drewN ?_ _ | refine blk_drew ?_ | refine blk_alloc ?_ _)); exact BK651.out) hb); have n4_ := Aside0.mk (below_step (by repeat (first | (with_reducible first | exact HB.out | apply below_alloc | apply pw_below_drewN | apply below_drew1 | refine below_set ?_ GE645.out | refine below_set ?_ GE651.out) | exact HB.out)) hb); clear HO_646000; clear HO_652000; clear BK645; clear BK651; clear HB; have HO_646000 := n0_; have HO_652000 := n1_; have BK645 := n2_; have BK651 := n3_; have HB := n4_; clear n0_ n1_ n2_ n3_ n4_; (try clear hb); (try clear hb2); (try clear hk); (try clear hi)) | ((with_reducible refine gate_callee (f := 32) rfl ?_); refine goesL_ (some 43) rfl rfl Try.func32 (by kernel_rfl) rfl #[.int .i64 a0] rfl (by (try simp only [List.map_toArray, List.map_cons, List.map_nil]); first | done | rfl | (simp only [List.length_drop, List.length_take]; rfl)) ?_; (with_reducible refine (impl_DeBruijn.calls kj3 a0 t656 t659 t660 _ A34.out).mono ?_); rintro e w41 ⟨v657, rfl, ho0, hb⟩; refine ⟨_, rfl, ?_⟩; have n0_ := Aside0.mk (Kd.R_elder' (by (with_reducible repeat (first | apply Kd.R_alloc | apply Kd.R_drewN | apply Kd.R_drew)); exact HO_646000.out) (Kd.R_base ho0) hb); have n1_ := Aside0.mk (Kd.R_elder' (by (with_reducible repeat (first | apply Kd.R_alloc | apply Kd.R_drewN | apply Kd.R_drew)); exact HO_652000.out) (Kd.R_base ho0) hb); have n2_ := Aside0.mk (Kd.R_lower (Kd.R_new' (Kd.R_new' ho0 (Kd.R_lt (by (with_reducible repeat (first | apply Kd.R_alloc | apply Kd.R_drewN | apply Kd.R_drew)); exact HO_646000.out))) (Kd.R_lt (by (with_reducible repeat (first | apply Kd.R_alloc | apply Kd.R_drewN | apply Kd.R_drew)); exact HO_652000.out))) (below_size (by repeat (first | (with_reducible first | exact HB.out | apply below_alloc | apply pw_below_drewN | apply below_drew1 | refine below_set ?_ GE645.out | refine below_set ?_ GE651.out) | exact HB.out)))); have n3_ := Aside0.mk (blk_below (g := gb645) (o := .cells #[.slice Ao7 t640.length co7, .int .i64 t643] 43 (0, 0)) (by (with_reducible repeat (first | refine blk_drewN ?_ _ | refine blk_drew ?_ | refine blk_alloc ?_ _)); exact BK645.out) hb); have n4_ := Aside0.mk (blk_below (g := gb651) (o := .cells #[.slice Ao11 t646.length co11, .int .i64 t649] 43 (0, 0)) (by (with_reducible repeat (first | refine blk_drewN ?_ _ | refine blk_drew ?_ | refine blk_alloc ?_ _)); exact BK651.out) hb); have n5_ := Aside0.mk (below_step (by repeat (first | (with_reducible first | exact HB.out | apply below_alloc | apply pw_below_drewN | apply below_drew1 | refine below_set ?_ GE645.out | refine below_set ?_ GE651.out) | exact HB.out)) hb); clear HO_646000; clear HO_652000; clear BK645; clear BK651; clear HB; have HO_646000 := n0_; have HO_652000 := n1_; have HO658 := n2_; have BK645 := n3_; have BK651 := n4_; have HB := n5_; clear n0_ n1_ n2_ n3_ n4_ n5_; (try clear hb); (try clear hb2); (try clear hk); (try clear hi); (try clear ho0)) | ((with_reducible refine gate_dst (N := 9) rfl ?_); refine box_event ?hg (N := 9) ?hd (cs := #[.slice none 0 0, .int .i64 0]) (t := 43) ?hr ?_; (case hd => rfl); (case hg => rfl); (case hr => first | (go_simp; done) | (go_simp; rfl)); intro gb661 hg w42 hbox hb; have n0_ := Aside0.mk (Kd.R_below (by (with_reducible repeat (first | apply Kd.R_alloc | apply Kd.R_drewN | apply Kd.R_drew)); exact HO_646000.out) hb); have n1_ := Aside0.mk (Kd.R_below (by (with_reducible repeat (first | apply Kd.R_alloc | apply Kd.R_drewN | apply Kd.R_drew)); exact HO_652000.out) hb); have n2_ := Aside0.mk (Kd.R_below (by (with_reducible repeat (first | apply Kd.R_alloc | apply Kd.R_drewN | apply Kd.R_drew)); exact HO658.out) hb); have n3_ := Aside0.mk (blk_below (g := gb645) (o := .cells #[.slice Ao7 t640.length co7, .int .i64 t643] 43 (0, 0)) (by (with_reducible repeat (first | refine blk_drewN ?_ _ | refine blk_drew ?_ | refine blk_alloc ?_ _)); exact BK645.out) hb); have n4_ := Aside0.mk (blk_below (g := gb651) (o := .cells #[.slice Ao11 t646.length co11, .int .i64 t649] 43 (0, 0)) (by (with_reducible repeat (first | refine blk_drewN ?_ _ | refine blk_drew ?_ | refine blk_alloc ?_ _)); exact BK651.out) hb); have n5_ := Aside0.mk (below_step (by repeat (first | (with_reducible first | exact HB.out | apply below_alloc | apply pw_below_drewN | apply below_drew1 | refine below_set ?_ GE645.out | refine below_set ?_ GE651.out) | exact HB.out)) hb); have n6_ := Aside0.mk (hbox); have n7_ := Aside0.mk ((by rw [hg]; exact (below_size (by repeat (first | (with_reducible first | exact HB.out | apply below_alloc | apply pw_below_drewN | apply below_drew1 | refine below_set ?_ GE645.out | refine below_set ?_ GE651.out) | exact HB.out))) : w.heap.size ≤ gb661)); have n8_ := Aside0.mk ((by rw [hg]; exact (below_size (by repeat (first | (with_reducible first | exact HB.out | apply below_alloc | apply pw_below_drewN | apply below_drew1 | refine below_set ?_ GE645.out | refine below_set ?_ GE651.out) | exact HB.out))) : w.heap.size ≤ gb661)); have n9_ := Aside0.mk ((by rw [hg]; exact Nat.ne_of_lt (blk_lt (g := gb645) (o := .cells #[.slice Ao7 t640.length co7, .int .i64 t643] 43 (0, 0)) (by (with_reducible repeat (first | refine blk_drewN ?_ _ | refine blk_drew ?_ | refine blk_alloc ?_ _)); exact BK645.out)) : gb645 ≠ gb661)); have n10_ := Aside0.mk ((by rw [hg]; exact Nat.ne_of_gt (blk_lt (g := gb645) (o := .cells #[.slice Ao7 t640.length co7, .int .i64 t643] 43 (0, 0)) (by (with_reducible repeat (first | refine blk_drewN ?_ _ | refine blk_drew ?_ | refine blk_alloc ?_ _)); exact BK645.out)) : gb661 ≠ gb645)); have n11_ := Aside0.mk ((by rw [hg]; exact Nat.ne_of_lt (blk_lt (g := gb651) (o := .cells #[.slice Ao11 t646.length co11, .int .i64 t649] 43 (0, 0)) (by (with_reducible repeat (first | refine blk_drewN ?_ _ | refine blk_drew ?_ | refine blk_alloc ?_ _)); exact BK651.out)) : gb651 ≠ gb661)); have n12_ := Aside0.mk ((by rw [hg]; exact Nat.ne_of_gt (blk_lt (g := gb651) (o := .cells #[.slice Ao11 t646.length co11, .int .i64 t649] 43 (0, 0)) (by (with_reducible repeat (first | refine blk_drewN ?_ _ | refine blk_drew ?_ | refine blk_alloc ?_ _)); exact BK651.out)) : gb661 ≠ gb651)); clear HO_646000; clear HO_652000; clear HO658; clear BK645; clear BK651; clear HB; have HO_646000 := n0_; have HO_652000 := n1_; have HO658 := n2_; have BK645 := n3_; have BK651 := n4_; have HB := n5_; have BK661 := n6_; have GW661 := n7_; have GE661 := n8_; have NB645_661 := n9_; have NB661_645 := n10_; have NB651_661 := n11_; have NB661_651 := n12_; clear n0_ n1_ n2_ n3_ n4_ n5_ n6_ n7_ n8_ n9_ n10_ n11_ n12_; clear hb hbox hg; obtain ⟨Ao43, co43, eo43⟩ := Kd.R_slice HO658.out; subst eo43; have hnb44 := NB661_645.out; have hnc44 := NB645_661.out; have hnb45 := NB661_651.out; have hnc45 := NB651_661.out; have hcz46_0 : w42.cell? ⟨gb661, 0, none⟩ = some (.slice none 0 0) := (blk_cell BK661.out 0).trans rfl; have hcz46_1 : w42.cell? ⟨gb661, 1, none⟩ = some (.int .i64 0) := (blk_cell BK661.out 1).trans rfl; have hfz46_0 := blk_frozen BK661.out 0; have hfz46_1 := blk_frozen BK661.out 1))
            (try simp only [Act.put, List.setIfInBounds_toArray, List.set_cons_zero, List.set_cons_succ])
            go_cut [54] (fun v54 wc => ∃ (kq : Nat) (x54_34 : Bool), v54 = .bool x54_34 ∧ Aside0 (laws_FnExactDeBruijn.j1 kq t653 x54_34 t654 t649 = some r) ∧ Aside0 (kq ≤ kj3) ∧ Aside0 (Kd.R (Kd.int .i64) 3 wc w.heap.size (fun k_ => some k_ ≠ ((.slice Ao11 t646.length co11) : Value).ownBlock ∧ some k_ ≠ ((.slice Ao43 t656.length co43) : Value).ownBlock) (.slice Ao7 t640.length co7) t640) ∧ Aside0 (Kd.R (Kd.int .i64) 3 wc w.heap.size (fun k_ => some k_ ≠ ((.slice Ao7 t640.length co7) : Value).ownBlock ∧ some k_ ≠ ((.slice Ao43 t656.length co43) : Value).ownBlock) (.slice Ao11 t646.length co11) t654) ∧ Aside0 (Kd.R (Kd.int .i64) 3 wc w.heap.size (fun k_ => some k_ ≠ ((.slice Ao7 t640.length co7) : Value).ownBlock ∧ some k_ ≠ ((.slice Ao11 t646.length co11) : Value).ownBlock) (.slice Ao43 t656.length co43) t656) ∧ Aside0 (wc.heap[gb645]? = some (.cells #[(.slice Ao7 t640.length co7), .int .i64 t643] 43 (0, 0))) ∧ Aside0 (wc.heap[gb651]? = some (.cells #[(.slice Ao11 t646.length co11), .int .i64 t649] 43 (0, 0))) ∧ Aside0 (wc.heap[gb661]? = some (.cells #[(.slice Ao43 t656.length co43), .int .i64 t659] 43 (0, 0))) ∧ Aside0 (Below w.heap.size w wc))
            case first =>
              have H := HC35.out
              clear HC35
              replace H := Option.bind_eq_some_iff.mp H
              obtain ⟨t662, A470, H⟩ := H
              replace H : (if t662 = true then (laws_FnExactDeBruijn.j1 kj3 t653 (t660 != t644) t654 t649) else (laws_FnExactDeBruijn.j1 kj3 t653 true t654 t649)) = some r := H
              have A47 := Aside0.mk A470
              clear A470
              by_cases c48 : t662 = true
              · subst c48
                have H1 : (laws_FnExactDeBruijn.j1 kj3 t653 (t660 != t644) t654 t649) = some r := by rw [if_pos rfl] at H; exact H
                clear H
                have H := H1
                clear H1
                have H' := Aside0.mk H
                clear H
                have hnb49 := NB661_645.out
                have hnc49 := NB645_661.out
                have hnb50 := NB661_651.out
                have hnc50 := NB651_661.out
                have hcz51_0 : w42.cell? ⟨gb661, 0, none⟩ = some (.slice none 0 0) := (blk_cell BK661.out 0).trans rfl
                have hcz51_1 : w42.cell? ⟨gb661, 1, none⟩ = some (.int .i64 0) := (blk_cell BK661.out 1).trans rfl
                have hfz51_0 := blk_frozen BK661.out 0
                have hfz51_1 := blk_frozen BK661.out 1
                have hnb52 := NB645_651.out
                have hnc52 := NB651_645.out
                have hcz53_0 : w42.cell? ⟨gb645, 0, none⟩ = some (.slice Ao7 t640.length co7) := (blk_cell BK645.out 0).trans rfl
                have hcz53_1 : w42.cell? ⟨gb645, 1, none⟩ = some (.int .i64 t643) := (blk_cell BK645.out 1).trans rfl
                have hfz53_0 := blk_frozen BK645.out 0
                have hfz53_1 := blk_frozen BK645.out 1
                go_wp2_with (first | ((with_reducible refine gate_callee (f := 36) rfl ?_); refine goesL_ (some 48) rfl rfl Try.func36 (by kernel_rfl) rfl #[.agg #[.slice Ao43 t656.length co43, .int .i64 t659], .agg #[.slice Ao7 t640.length co7, .int .i64 t643]] rfl (by (try simp only [List.map_toArray, List.map_cons, List.map_nil]); first | done | rfl | (simp only [List.length_drop, List.length_take]; rfl)) ?_; (with_reducible refine (laws_eqStack.calls kj3 _ _ t656 t659 _ _ t640 t643 true _ ?side1 ?side2 ?side3 ?side4 A47.out).mono ?_); (case side1 => refine (Kd.R_reads' (e := 3) (base := w.heap.size) (ok := fun k_ => ((True ∧ some k_ ≠ (.slice Ao7 t640.length co7 : Value).ownBlock) ∧ some k_ ≠ (.slice Ao11 t646.length co11 : Value).ownBlock)) (n := t656.length) (c := co43) ?_).2.2; exact (by (with_reducible repeat (first | apply Kd.R_alloc | apply Kd.R_drewN | apply Kd.R_drew)); exact (Kd.R_mono (Kd.R_far (p := ⟨gb661, 1, none⟩) (Kd.R_far (p := ⟨gb661, 0, none⟩) (Kd.R_types HO658.out BK661.out (by decide)) (fun _ hk => hk.2) (.slice Ao43 t656.length co43)) (fun _ hk => hk.2) (.int .i64 t659)) (fun _ h_ => h_.1)))); (case side2 => exact (Kd.R_reads' HO658.out).2.1); (case side3 => refine (Kd.R_reads' (e := 3) (base := w.heap.size) (ok := fun k_ => (some k_ ≠ (.slice Ao11 t646.length co11 : Value).ownBlock ∧ some k_ ≠ (.slice Ao43 t656.length co43 : Value).ownBlock)) (n := t640.length) (c := co7) ?_).2.2; exact (by (with_reducible repeat (first | apply Kd.R_alloc | apply Kd.R_drewN | apply Kd.R_drew)); exact (Kd.R_mono (Kd.R_far (p := ⟨gb661, 1, none⟩) (Kd.R_far (p := ⟨gb661, 0, none⟩) (Kd.R_types HO_646000.out BK661.out (by decide)) (fun _ hk => hk.2) (.slice Ao43 t656.length co43)) (fun _ hk => hk.2) (.int .i64 t659)) (fun _ h_ => h_.1)))); (case side4 => exact (Kd.R_reads' HO_646000.out).2.1); rintro e w54 ⟨rfl, hb⟩; refine ⟨_, rfl, ?_⟩; have n0_ := Aside0.mk (Kd.R_below (by (with_reducible repeat (first | apply Kd.R_alloc | apply Kd.R_drewN | apply Kd.R_drew)); exact (Kd.R_mono (Kd.R_far (p := ⟨gb661, 1, none⟩) (Kd.R_far (p := ⟨gb661, 0, none⟩) (Kd.R_types HO_646000.out BK661.out (by decide)) (fun _ hk => hk.2) (.slice Ao43 t656.length co43)) (fun _ hk => hk.2) (.int .i64 t659)) (fun _ h_ => h_.1))) hb); have n1_ := Aside0.mk (Kd.R_below (by (with_reducible repeat (first | apply Kd.R_alloc | apply Kd.R_drewN | apply Kd.R_drew)); exact (Kd.R_mono (Kd.R_far (p := ⟨gb661, 1, none⟩) (Kd.R_far (p := ⟨gb661, 0, none⟩) (Kd.R_types HO_652000.out BK661.out (by decide)) (fun _ hk => hk.2) (.slice Ao43 t656.length co43)) (fun _ hk => hk.2) (.int .i64 t659)) (fun _ h_ => h_.1))) hb); have n2_ := Aside0.mk (Kd.R_below (by (with_reducible repeat (first | apply Kd.R_alloc | apply Kd.R_drewN | apply Kd.R_drew)); exact (Kd.R_mono (Kd.R_far (p := ⟨gb661, 1, none⟩) (Kd.R_far (p := ⟨gb661, 0, none⟩) (Kd.R_types HO658.out BK661.out (by decide)) (fun _ hk => hk.2) (.slice Ao43 t656.length co43)) (fun _ hk => hk.2) (.int .i64 t659)) (fun _ h_ => h_.1))) hb); have n3_ := Aside0.mk (blk_below (g := gb645) (o := .cells #[.slice Ao7 t640.length co7, .int .i64 t643] 43 (0, 0)) (by (with_reducible repeat (first | refine blk_drewN ?_ _ | refine blk_drew ?_ | refine blk_alloc ?_ _)); refine blk_far ?_ NB645_661.out _; (with_reducible repeat (first | refine blk_drewN ?_ _ | refine blk_drew ?_ | refine blk_alloc ?_ _)); refine blk_far ?_ NB645_661.out _; (with_reducible repeat (first | refine blk_drewN ?_ _ | refine blk_drew ?_ | refine blk_alloc ?_ _)); exact BK645.out) hb); have n4_ := Aside0.mk (blk_below (g := gb651) (o := .cells #[.slice Ao11 t646.length co11, .int .i64 t649] 43 (0, 0)) (by (with_reducible repeat (first | refine blk_drewN ?_ _ | refine blk_drew ?_ | refine blk_alloc ?_ _)); refine blk_far ?_ NB651_661.out _; (with_reducible repeat (first | refine blk_drewN ?_ _ | refine blk_drew ?_ | refine blk_alloc ?_ _)); refine blk_far ?_ NB651_661.out _; (with_reducible repeat (first | refine blk_drewN ?_ _ | refine blk_drew ?_ | refine blk_alloc ?_ _)); exact BK651.out) hb); have n5_ := Aside0.mk (blk_below (g := gb661) (o := .cells #[.slice Ao43 t656.length co43, .int .i64 t659] 43 (0, 0)) (by (with_reducible repeat (first | refine blk_drewN ?_ _ | refine blk_drew ?_ | refine blk_alloc ?_ _)); refine blk_put (cs := #[.slice Ao43 t656.length co43, .int .i64 0]) ?_ 1 _ rfl; (with_reducible repeat (first | refine blk_drewN ?_ _ | refine blk_drew ?_ | refine blk_alloc ?_ _)); refine blk_put (cs := #[.slice none 0 0, .int .i64 0]) ?_ 0 _ rfl; (with_reducible repeat (first | refine blk_drewN ?_ _ | refine blk_drew ?_ | refine blk_alloc ?_ _)); exact BK661.out) hb); have n6_ := Aside0.mk (below_step (by repeat (first | (with_reducible first | exact HB.out | apply below_alloc | apply pw_below_drewN | apply below_drew1 | refine below_set ?_ GE645.out | refine below_set ?_ GE651.out | refine below_set ?_ GE661.out) | exact HB.out)) hb); clear HO_646000; clear HO_652000; clear HO658; clear BK645; clear BK651; clear BK661; clear HB; have HO_646000 := n0_; have HO_652000 := n1_; have HO658 := n2_; have BK645 := n3_; have BK651 := n4_; have BK661 := n5_; have HB := n6_; clear n0_ n1_ n2_ n3_ n4_ n5_ n6_; (try clear hb); (try clear hb2); (try clear hk); (try clear hi)))
                go_meet
                case rel => exact ⟨_, ((t660 != t644)), (by first | rfl | (simp; done) | (simp [*]; done)), H', ⟨by have := HJ3.out; first | omega | exact Nat.le_refl _⟩, ⟨by (with_reducible repeat (first | apply Kd.R_alloc | apply Kd.R_drewN | apply Kd.R_drew)); exact HO_646000.out⟩, ⟨by (with_reducible repeat (first | apply Kd.R_alloc | apply Kd.R_drewN | apply Kd.R_drew)); exact HO_652000.out⟩, ⟨by (with_reducible repeat (first | apply Kd.R_alloc | apply Kd.R_drewN | apply Kd.R_drew)); exact Kd.R_mono HO658.out (fun _ hk => ⟨hk.1.2, hk.2⟩)⟩, ⟨by (with_reducible repeat (first | refine blk_drewN ?_ _ | refine blk_drew ?_ | refine blk_alloc ?_ _)); exact BK645.out⟩, ⟨by (with_reducible repeat (first | refine blk_drewN ?_ _ | refine blk_drew ?_ | refine blk_alloc ?_ _)); exact BK651.out⟩, ⟨by (with_reducible repeat (first | refine blk_drewN ?_ _ | refine blk_drew ?_ | refine blk_alloc ?_ _)); exact BK661.out⟩, ⟨by repeat (first | (with_reducible first | exact HB.out | apply below_alloc | apply pw_below_drewN | apply below_drew1 | refine below_set ?_ GE645.out | refine below_set ?_ GE651.out | refine below_set ?_ GE661.out) | exact HB.out)⟩⟩
              · replace c48 := Bool.eq_false_iff.mpr c48
                subst c48
                have H1 : (laws_FnExactDeBruijn.j1 kj3 t653 true t654 t649) = some r := by rw [if_neg (show ¬ (false = true) by decide)] at H; exact H
                clear H
                have H := H1
                clear H1
                have H' := Aside0.mk H
                clear H
                have hnb55 := NB661_645.out
                have hnc55 := NB645_661.out
                have hnb56 := NB661_651.out
                have hnc56 := NB651_661.out
                have hcz57_0 : w42.cell? ⟨gb661, 0, none⟩ = some (.slice none 0 0) := (blk_cell BK661.out 0).trans rfl
                have hcz57_1 : w42.cell? ⟨gb661, 1, none⟩ = some (.int .i64 0) := (blk_cell BK661.out 1).trans rfl
                have hfz57_0 := blk_frozen BK661.out 0
                have hfz57_1 := blk_frozen BK661.out 1
                have hnb58 := NB645_651.out
                have hnc58 := NB651_645.out
                have hcz59_0 : w42.cell? ⟨gb645, 0, none⟩ = some (.slice Ao7 t640.length co7) := (blk_cell BK645.out 0).trans rfl
                have hcz59_1 : w42.cell? ⟨gb645, 1, none⟩ = some (.int .i64 t643) := (blk_cell BK645.out 1).trans rfl
                have hfz59_0 := blk_frozen BK645.out 0
                have hfz59_1 := blk_frozen BK645.out 1
                go_wp2_with (first | ((with_reducible refine gate_callee (f := 36) rfl ?_); refine goesL_ (some 48) rfl rfl Try.func36 (by kernel_rfl) rfl #[.agg #[.slice Ao43 t656.length co43, .int .i64 t659], .agg #[.slice Ao7 t640.length co7, .int .i64 t643]] rfl (by (try simp only [List.map_toArray, List.map_cons, List.map_nil]); first | done | rfl | (simp only [List.length_drop, List.length_take]; rfl)) ?_; (with_reducible refine (laws_eqStack.calls kj3 _ _ t656 t659 _ _ t640 t643 false _ ?side1 ?side2 ?side3 ?side4 A47.out).mono ?_); (case side1 => refine (Kd.R_reads' (e := 3) (base := w.heap.size) (ok := fun k_ => ((True ∧ some k_ ≠ (.slice Ao7 t640.length co7 : Value).ownBlock) ∧ some k_ ≠ (.slice Ao11 t646.length co11 : Value).ownBlock)) (n := t656.length) (c := co43) ?_).2.2; exact (by (with_reducible repeat (first | apply Kd.R_alloc | apply Kd.R_drewN | apply Kd.R_drew)); exact (Kd.R_mono (Kd.R_far (p := ⟨gb661, 1, none⟩) (Kd.R_far (p := ⟨gb661, 0, none⟩) (Kd.R_types HO658.out BK661.out (by decide)) (fun _ hk => hk.2) (.slice Ao43 t656.length co43)) (fun _ hk => hk.2) (.int .i64 t659)) (fun _ h_ => h_.1)))); (case side2 => exact (Kd.R_reads' HO658.out).2.1); (case side3 => refine (Kd.R_reads' (e := 3) (base := w.heap.size) (ok := fun k_ => (some k_ ≠ (.slice Ao11 t646.length co11 : Value).ownBlock ∧ some k_ ≠ (.slice Ao43 t656.length co43 : Value).ownBlock)) (n := t640.length) (c := co7) ?_).2.2; exact (by (with_reducible repeat (first | apply Kd.R_alloc | apply Kd.R_drewN | apply Kd.R_drew)); exact (Kd.R_mono (Kd.R_far (p := ⟨gb661, 1, none⟩) (Kd.R_far (p := ⟨gb661, 0, none⟩) (Kd.R_types HO_646000.out BK661.out (by decide)) (fun _ hk => hk.2) (.slice Ao43 t656.length co43)) (fun _ hk => hk.2) (.int .i64 t659)) (fun _ h_ => h_.1)))); (case side4 => exact (Kd.R_reads' HO_646000.out).2.1); rintro e w60 ⟨rfl, hb⟩; refine ⟨_, rfl, ?_⟩; have n0_ := Aside0.mk (Kd.R_below (by (with_reducible repeat (first | apply Kd.R_alloc | apply Kd.R_drewN | apply Kd.R_drew)); exact (Kd.R_mono (Kd.R_far (p := ⟨gb661, 1, none⟩) (Kd.R_far (p := ⟨gb661, 0, none⟩) (Kd.R_types HO_646000.out BK661.out (by decide)) (fun _ hk => hk.2) (.slice Ao43 t656.length co43)) (fun _ hk => hk.2) (.int .i64 t659)) (fun _ h_ => h_.1))) hb); have n1_ := Aside0.mk (Kd.R_below (by (with_reducible repeat (first | apply Kd.R_alloc | apply Kd.R_drewN | apply Kd.R_drew)); exact (Kd.R_mono (Kd.R_far (p := ⟨gb661, 1, none⟩) (Kd.R_far (p := ⟨gb661, 0, none⟩) (Kd.R_types HO_652000.out BK661.out (by decide)) (fun _ hk => hk.2) (.slice Ao43 t656.length co43)) (fun _ hk => hk.2) (.int .i64 t659)) (fun _ h_ => h_.1))) hb); have n2_ := Aside0.mk (Kd.R_below (by (with_reducible repeat (first | apply Kd.R_alloc | apply Kd.R_drewN | apply Kd.R_drew)); exact (Kd.R_mono (Kd.R_far (p := ⟨gb661, 1, none⟩) (Kd.R_far (p := ⟨gb661, 0, none⟩) (Kd.R_types HO658.out BK661.out (by decide)) (fun _ hk => hk.2) (.slice Ao43 t656.length co43)) (fun _ hk => hk.2) (.int .i64 t659)) (fun _ h_ => h_.1))) hb); have n3_ := Aside0.mk (blk_below (g := gb645) (o := .cells #[.slice Ao7 t640.length co7, .int .i64 t643] 43 (0, 0)) (by (with_reducible repeat (first | refine blk_drewN ?_ _ | refine blk_drew ?_ | refine blk_alloc ?_ _)); refine blk_far ?_ NB645_661.out _; (with_reducible repeat (first | refine blk_drewN ?_ _ | refine blk_drew ?_ | refine blk_alloc ?_ _)); refine blk_far ?_ NB645_661.out _; (with_reducible repeat (first | refine blk_drewN ?_ _ | refine blk_drew ?_ | refine blk_alloc ?_ _)); exact BK645.out) hb); have n4_ := Aside0.mk (blk_below (g := gb651) (o := .cells #[.slice Ao11 t646.length co11, .int .i64 t649] 43 (0, 0)) (by (with_reducible repeat (first | refine blk_drewN ?_ _ | refine blk_drew ?_ | refine blk_alloc ?_ _)); refine blk_far ?_ NB651_661.out _; (with_reducible repeat (first | refine blk_drewN ?_ _ | refine blk_drew ?_ | refine blk_alloc ?_ _)); refine blk_far ?_ NB651_661.out _; (with_reducible repeat (first | refine blk_drewN ?_ _ | refine blk_drew ?_ | refine blk_alloc ?_ _)); exact BK651.out) hb); have n5_ := Aside0.mk (blk_below (g := gb661) (o := .cells #[.slice Ao43 t656.length co43, .int .i64 t659] 43 (0, 0)) (by (with_reducible repeat (first | refine blk_drewN ?_ _ | refine blk_drew ?_ | refine blk_alloc ?_ _)); refine blk_put (cs := #[.slice Ao43 t656.length co43, .int .i64 0]) ?_ 1 _ rfl; (with_reducible repeat (first | refine blk_drewN ?_ _ | refine blk_drew ?_ | refine blk_alloc ?_ _)); refine blk_put (cs := #[.slice none 0 0, .int .i64 0]) ?_ 0 _ rfl; (with_reducible repeat (first | refine blk_drewN ?_ _ | refine blk_drew ?_ | refine blk_alloc ?_ _)); exact BK661.out) hb); have n6_ := Aside0.mk (below_step (by repeat (first | (with_reducible first | exact HB.out | apply below_alloc | apply pw_below_drewN | apply below_drew1 | refine below_set ?_ GE645.out | refine below_set ?_ GE651.out | refine below_set ?_ GE661.out) | exact HB.out)) hb); clear HO_646000; clear HO_652000; clear HO658; clear BK645; clear BK651; clear BK661; clear HB; have HO_646000 := n0_; have HO_652000 := n1_; have HO658 := n2_; have BK645 := n3_; have BK651 := n4_; have BK661 := n5_; have HB := n6_; clear n0_ n1_ n2_ n3_ n4_ n5_ n6_; (try clear hb); (try clear hb2); (try clear hk); (try clear hi)))
                go_meet
                case rel => exact ⟨_, (true), (by first | rfl | (simp; done) | (simp [*]; done)), H', ⟨by have := HJ3.out; first | omega | exact Nat.le_refl _⟩, ⟨by (with_reducible repeat (first | apply Kd.R_alloc | apply Kd.R_drewN | apply Kd.R_drew)); exact HO_646000.out⟩, ⟨by (with_reducible repeat (first | apply Kd.R_alloc | apply Kd.R_drewN | apply Kd.R_drew)); exact HO_652000.out⟩, ⟨by (with_reducible repeat (first | apply Kd.R_alloc | apply Kd.R_drewN | apply Kd.R_drew)); exact Kd.R_mono HO658.out (fun _ hk => ⟨hk.1.2, hk.2⟩)⟩, ⟨by (with_reducible repeat (first | refine blk_drewN ?_ _ | refine blk_drew ?_ | refine blk_alloc ?_ _)); exact BK645.out⟩, ⟨by (with_reducible repeat (first | refine blk_drewN ?_ _ | refine blk_drew ?_ | refine blk_alloc ?_ _)); exact BK651.out⟩, ⟨by (with_reducible repeat (first | refine blk_drewN ?_ _ | refine blk_drew ?_ | refine blk_alloc ?_ _)); exact BK661.out⟩, ⟨by repeat (first | (with_reducible first | exact HB.out | apply below_alloc | apply pw_below_drewN | apply below_drew1 | refine below_set ?_ GE645.out | refine below_set ?_ GE651.out | refine below_set ?_ GE661.out) | exact HB.out)⟩⟩
            case rest =>
              clear HC35
              try clear c1
              try clear c2
              try clear p2
              try clear c3
              try clear c4
              try clear c5
              try clear c8
              try clear c12
              try clear c15
              try clear c16
              try clear c20
              try clear c24
              try clear c27
              try clear c27b0
              try clear c28
              try clear c32
              try clear c33
              try clear c33b0
              try clear c33b1
              try clear c35
              try clear c36
              try clear c37
              try clear c38
              try clear c44
              try clear c45
              try clear c48
              try clear c49
              try clear c50
              try clear c52
              try clear c55
              try clear c56
              try clear c58
              try clear hcz13_0
              try clear hcz13_1
              try clear hcz17_0
              try clear hcz17_1
              try clear hcz18_0
              try clear hcz18_1
              try clear hcz21_0
              try clear hcz21_1
              try clear hcz22_0
              try clear hcz22_1
              try clear hcz29_0
              try clear hcz29_1
              try clear hcz31_0
              try clear hcz31_1
              try clear hcz37_0
              try clear hcz37_1
              try clear hcz39_0
              try clear hcz39_1
              try clear hcz46_0
              try clear hcz46_1
              try clear hcz51_0
              try clear hcz51_1
              try clear hcz53_0
              try clear hcz53_1
              try clear hcz57_0
              try clear hcz57_1
              try clear hcz59_0
              try clear hcz59_1
              try clear hcz8_0
              try clear hcz8_1
              try clear hfz13_0
              try clear hfz13_1
              try clear hfz17_0
              try clear hfz17_1
              try clear hfz18_0
              try clear hfz18_1
              try clear hfz21_0
              try clear hfz21_1
              try clear hfz22_0
              try clear hfz22_1
              try clear hfz29_0
              try clear hfz29_1
              try clear hfz31_0
              try clear hfz31_1
              try clear hfz37_0
              try clear hfz37_1
              try clear hfz39_0
              try clear hfz39_1
              try clear hfz46_0
              try clear hfz46_1
              try clear hfz51_0
              try clear hfz51_1
              try clear hfz53_0
              try clear hfz53_1
              try clear hfz57_0
              try clear hfz57_1
              try clear hfz59_0
              try clear hfz59_1
              try clear hfz8_0
              try clear hfz8_1
              try clear p2
              obtain ⟨kq, x54_34, rfl, HA, HJ34, HO_646000, HO_652000, HO_662000, BK645, BK651, BK661, HB⟩ := hcut
              have hl652000_34 := (Kd.R_reads' HO_652000.out).1
              rw [hl652000_34] at HO_652000
              (try simp only [hl652000_34])
              (try simp only [hl652000_34] at BK645)
              (try simp only [hl652000_34] at BK651)
              (try simp only [hl652000_34] at BK661)
              (try simp only [hl652000_34] at HO_646000)
              (try simp only [hl652000_34] at HO_662000)
              cases kq with
              | zero => exact absurd HA.out (by simp [laws_FnExactDeBruijn.j1])
              | succ kj34 =>
                have H := HA.out
                clear HA
                simp only [laws_FnExactDeBruijn.j1] at H
                by_cases c61 : x54_34 = true
                · subst c61
                  have H1 : (some false) = some r := by rw [if_pos rfl] at H; exact H
                  clear H
                  have H := H1
                  clear H1
                  obtain rfl := Option.some.inj H
                  go_wp2
                  go_ret
                  exact ⟨by first | rfl | (simp [errW_none, errW_some] <;> rfl) | (simp [*, errW_none, errW_some] <;> rfl), by repeat (first | (with_reducible first | exact HB.out | apply below_alloc | apply pw_below_drewN | apply below_drew1 | refine below_set ?_ GE645.out | refine below_set ?_ GE651.out | refine below_set ?_ GE661.out) | exact HB.out)⟩
                · replace c61 := Bool.eq_false_iff.mpr c61
                  subst c61
                  have H1 : ((laws_heldStack.f kj34 t654 t649 1).bind fun t663 => (if t663 < 0 then (some false) else (if t663 = t653 then (some true) else (some false)))) = some r := by rw [if_neg (show ¬ (false = true) by decide)] at H; exact H
                  clear H
                  have H := H1
                  clear H1
                  replace H := Option.bind_eq_some_iff.mp H
                  obtain ⟨t663, A620, H⟩ := H
                  replace H : (if t663 < 0 then (some false) else (if t663 = t653 then (some true) else (some false))) = some r := H
                  have A62 := Aside0.mk A620
                  clear A620
                  by_cases c63 : t663 < 0
                  · rw [if_pos c63] at H
                    have c63b0 : decide (t663 < 0) = true := decide_eq_true c63
                    clear c63
                    obtain rfl := Option.some.inj H
                    have hnb64 := NB651_645.out
                    have hnc64 := NB645_651.out
                    have hnb65 := NB651_661.out
                    have hnc65 := NB661_651.out
                    have hcz66_0 : wc.cell? ⟨gb651, 0, none⟩ = some (.slice Ao11 t654.length co11) := (blk_cell BK651.out 0).trans rfl
                    have hcz66_1 : wc.cell? ⟨gb651, 1, none⟩ = some (.int .i64 t649) := (blk_cell BK651.out 1).trans rfl
                    have hfz66_0 := blk_frozen BK651.out 0
                    have hfz66_1 := blk_frozen BK651.out 1
                    go_wp2_with (first | ((with_reducible refine gate_callee (f := 38) rfl ?_); refine goesL_ (some 57) rfl rfl Try.func38 (by kernel_rfl) rfl #[.agg #[.slice Ao11 t654.length co11, .int .i64 t649], .int .i64 1] rfl (by (try simp only [List.map_toArray, List.map_cons, List.map_nil]); first | done | rfl | (simp only [List.length_drop, List.length_take]; rfl)) ?_; (with_reducible refine (laws_heldStack.calls kj34 _ _ t654 t649 1 t663 _ ?side1 ?side2 A62.out).mono ?_); (case side1 => repeat (first | exact (Kd.R_reads' HO_652000.out).2.2 | (with_reducible refine Kd.C_alloc ?_ _) | (with_reducible refine Kd.C_drewN ?_ _) | (with_reducible refine Kd.C_drew ?_))); (case side2 => exact (Kd.R_reads' HO_652000.out).2.1); rintro e w67 ⟨rfl, hb⟩; refine ⟨_, rfl, ?_⟩; have n0_ := Aside0.mk (Kd.R_below (by (with_reducible repeat (first | apply Kd.R_alloc | apply Kd.R_drewN | apply Kd.R_drew)); exact HO_646000.out) hb); have n1_ := Aside0.mk (Kd.R_below (by (with_reducible repeat (first | apply Kd.R_alloc | apply Kd.R_drewN | apply Kd.R_drew)); exact HO_652000.out) hb); have n2_ := Aside0.mk (Kd.R_below (by (with_reducible repeat (first | apply Kd.R_alloc | apply Kd.R_drewN | apply Kd.R_drew)); exact HO_662000.out) hb); have n3_ := Aside0.mk (blk_below (g := gb645) (o := .cells #[.slice Ao7 t640.length co7, .int .i64 t643] 43 (0, 0)) (by (with_reducible repeat (first | refine blk_drewN ?_ _ | refine blk_drew ?_ | refine blk_alloc ?_ _)); exact BK645.out) hb); have n4_ := Aside0.mk (blk_below (g := gb651) (o := .cells #[.slice Ao11 t654.length co11, .int .i64 t649] 43 (0, 0)) (by (with_reducible repeat (first | refine blk_drewN ?_ _ | refine blk_drew ?_ | refine blk_alloc ?_ _)); exact BK651.out) hb); have n5_ := Aside0.mk (blk_below (g := gb661) (o := .cells #[.slice Ao43 t656.length co43, .int .i64 t659] 43 (0, 0)) (by (with_reducible repeat (first | refine blk_drewN ?_ _ | refine blk_drew ?_ | refine blk_alloc ?_ _)); exact BK661.out) hb); have n6_ := Aside0.mk (below_step (by repeat (first | (with_reducible first | exact HB.out | apply below_alloc | apply pw_below_drewN | apply below_drew1 | refine below_set ?_ GE645.out | refine below_set ?_ GE651.out | refine below_set ?_ GE661.out) | exact HB.out)) hb); clear HO_646000; clear HO_652000; clear HO_662000; clear BK645; clear BK651; clear BK661; clear HB; have HO_646000 := n0_; have HO_652000 := n1_; have HO_662000 := n2_; have BK645 := n3_; have BK651 := n4_; have BK661 := n5_; have HB := n6_; clear n0_ n1_ n2_ n3_ n4_ n5_ n6_; (try clear hb); (try clear hb2); (try clear hk); (try clear hi)))
                    go_ret
                    exact ⟨by first | rfl | (simp [errW_none, errW_some] <;> rfl) | (simp [*, errW_none, errW_some] <;> rfl), by repeat (first | (with_reducible first | exact HB.out | apply below_alloc | apply pw_below_drewN | apply below_drew1 | refine below_set ?_ GE645.out | refine below_set ?_ GE651.out | refine below_set ?_ GE661.out) | exact HB.out)⟩
                  · rw [if_neg c63] at H
                    have c63b0 : decide (t663 < 0) = false := decide_eq_false c63
                    clear c63
                    by_cases c68 : t663 = t653
                    · rw [if_pos c68] at H
                      have c68b0 : (t663 == t653) = true := beq_iff_eq.mpr c68
                      have c68b1 : (t663 != t653) = false := bne_eq_false_iff_eq.mpr c68
                      clear c68
                      obtain rfl := Option.some.inj H
                      have hnb69 := NB651_645.out
                      have hnc69 := NB645_651.out
                      have hnb70 := NB651_661.out
                      have hnc70 := NB661_651.out
                      have hcz71_0 : wc.cell? ⟨gb651, 0, none⟩ = some (.slice Ao11 t654.length co11) := (blk_cell BK651.out 0).trans rfl
                      have hcz71_1 : wc.cell? ⟨gb651, 1, none⟩ = some (.int .i64 t649) := (blk_cell BK651.out 1).trans rfl
                      have hfz71_0 := blk_frozen BK651.out 0
                      have hfz71_1 := blk_frozen BK651.out 1
                      go_wp2_with (first | ((with_reducible refine gate_callee (f := 38) rfl ?_); refine goesL_ (some 57) rfl rfl Try.func38 (by kernel_rfl) rfl #[.agg #[.slice Ao11 t654.length co11, .int .i64 t649], .int .i64 1] rfl (by (try simp only [List.map_toArray, List.map_cons, List.map_nil]); first | done | rfl | (simp only [List.length_drop, List.length_take]; rfl)) ?_; (with_reducible refine (laws_heldStack.calls kj34 _ _ t654 t649 1 t663 _ ?side1 ?side2 A62.out).mono ?_); (case side1 => repeat (first | exact (Kd.R_reads' HO_652000.out).2.2 | (with_reducible refine Kd.C_alloc ?_ _) | (with_reducible refine Kd.C_drewN ?_ _) | (with_reducible refine Kd.C_drew ?_))); (case side2 => exact (Kd.R_reads' HO_652000.out).2.1); rintro e w72 ⟨rfl, hb⟩; refine ⟨_, rfl, ?_⟩; have n0_ := Aside0.mk (Kd.R_below (by (with_reducible repeat (first | apply Kd.R_alloc | apply Kd.R_drewN | apply Kd.R_drew)); exact HO_646000.out) hb); have n1_ := Aside0.mk (Kd.R_below (by (with_reducible repeat (first | apply Kd.R_alloc | apply Kd.R_drewN | apply Kd.R_drew)); exact HO_652000.out) hb); have n2_ := Aside0.mk (Kd.R_below (by (with_reducible repeat (first | apply Kd.R_alloc | apply Kd.R_drewN | apply Kd.R_drew)); exact HO_662000.out) hb); have n3_ := Aside0.mk (blk_below (g := gb645) (o := .cells #[.slice Ao7 t640.length co7, .int .i64 t643] 43 (0, 0)) (by (with_reducible repeat (first | refine blk_drewN ?_ _ | refine blk_drew ?_ | refine blk_alloc ?_ _)); exact BK645.out) hb); have n4_ := Aside0.mk (blk_below (g := gb651) (o := .cells #[.slice Ao11 t654.length co11, .int .i64 t649] 43 (0, 0)) (by (with_reducible repeat (first | refine blk_drewN ?_ _ | refine blk_drew ?_ | refine blk_alloc ?_ _)); exact BK651.out) hb); have n5_ := Aside0.mk (blk_below (g := gb661) (o := .cells #[.slice Ao43 t656.length co43, .int .i64 t659] 43 (0, 0)) (by (with_reducible repeat (first | refine blk_drewN ?_ _ | refine blk_drew ?_ | refine blk_alloc ?_ _)); exact BK661.out) hb); have n6_ := Aside0.mk (below_step (by repeat (first | (with_reducible first | exact HB.out | apply below_alloc | apply pw_below_drewN | apply below_drew1 | refine below_set ?_ GE645.out | refine below_set ?_ GE651.out | refine below_set ?_ GE661.out) | exact HB.out)) hb); clear HO_646000; clear HO_652000; clear HO_662000; clear BK645; clear BK651; clear BK661; clear HB; have HO_646000 := n0_; have HO_652000 := n1_; have HO_662000 := n2_; have BK645 := n3_; have BK651 := n4_; have BK661 := n5_; have HB := n6_; clear n0_ n1_ n2_ n3_ n4_ n5_ n6_; (try clear hb); (try clear hb2); (try clear hk); (try clear hi)))
                      go_ret
                      exact ⟨by first | rfl | (simp [errW_none, errW_some] <;> rfl) | (simp [*, errW_none, errW_some] <;> rfl), by repeat (first | (with_reducible first | exact HB.out | apply below_alloc | apply pw_below_drewN | apply below_drew1 | refine below_set ?_ GE645.out | refine below_set ?_ GE651.out | refine below_set ?_ GE661.out) | exact HB.out)⟩
                    · rw [if_neg c68] at H
                      have c68b0 : (t663 == t653) = false := beq_eq_false_iff_ne.mpr c68
                      have c68b1 : (t663 != t653) = true := bne_iff_ne.mpr c68
                      obtain rfl := Option.some.inj H
                      have hnb73 := NB651_645.out
                      have hnc73 := NB645_651.out
                      have hnb74 := NB651_661.out
                      have hnc74 := NB661_651.out
                      have hcz75_0 : wc.cell? ⟨gb651, 0, none⟩ = some (.slice Ao11 t654.length co11) := (blk_cell BK651.out 0).trans rfl
                      have hcz75_1 : wc.cell? ⟨gb651, 1, none⟩ = some (.int .i64 t649) := (blk_cell BK651.out 1).trans rfl
                      have hfz75_0 := blk_frozen BK651.out 0
                      have hfz75_1 := blk_frozen BK651.out 1
                      go_wp2_with (first | ((with_reducible refine gate_callee (f := 38) rfl ?_); refine goesL_ (some 57) rfl rfl Try.func38 (by kernel_rfl) rfl #[.agg #[.slice Ao11 t654.length co11, .int .i64 t649], .int .i64 1] rfl (by (try simp only [List.map_toArray, List.map_cons, List.map_nil]); first | done | rfl | (simp only [List.length_drop, List.length_take]; rfl)) ?_; (with_reducible refine (laws_heldStack.calls kj34 _ _ t654 t649 1 t663 _ ?side1 ?side2 A62.out).mono ?_); (case side1 => repeat (first | exact (Kd.R_reads' HO_652000.out).2.2 | (with_reducible refine Kd.C_alloc ?_ _) | (with_reducible refine Kd.C_drewN ?_ _) | (with_reducible refine Kd.C_drew ?_))); (case side2 => exact (Kd.R_reads' HO_652000.out).2.1); rintro e w76 ⟨rfl, hb⟩; refine ⟨_, rfl, ?_⟩; have n0_ := Aside0.mk (Kd.R_below (by (with_reducible repeat (first | apply Kd.R_alloc | apply Kd.R_drewN | apply Kd.R_drew)); exact HO_646000.out) hb); have n1_ := Aside0.mk (Kd.R_below (by (with_reducible repeat (first | apply Kd.R_alloc | apply Kd.R_drewN | apply Kd.R_drew)); exact HO_652000.out) hb); have n2_ := Aside0.mk (Kd.R_below (by (with_reducible repeat (first | apply Kd.R_alloc | apply Kd.R_drewN | apply Kd.R_drew)); exact HO_662000.out) hb); have n3_ := Aside0.mk (blk_below (g := gb645) (o := .cells #[.slice Ao7 t640.length co7, .int .i64 t643] 43 (0, 0)) (by (with_reducible repeat (first | refine blk_drewN ?_ _ | refine blk_drew ?_ | refine blk_alloc ?_ _)); exact BK645.out) hb); have n4_ := Aside0.mk (blk_below (g := gb651) (o := .cells #[.slice Ao11 t654.length co11, .int .i64 t649] 43 (0, 0)) (by (with_reducible repeat (first | refine blk_drewN ?_ _ | refine blk_drew ?_ | refine blk_alloc ?_ _)); exact BK651.out) hb); have n5_ := Aside0.mk (blk_below (g := gb661) (o := .cells #[.slice Ao43 t656.length co43, .int .i64 t659] 43 (0, 0)) (by (with_reducible repeat (first | refine blk_drewN ?_ _ | refine blk_drew ?_ | refine blk_alloc ?_ _)); exact BK661.out) hb); have n6_ := Aside0.mk (below_step (by repeat (first | (with_reducible first | exact HB.out | apply below_alloc | apply pw_below_drewN | apply below_drew1 | refine below_set ?_ GE645.out | refine below_set ?_ GE651.out | refine below_set ?_ GE661.out) | exact HB.out)) hb); clear HO_646000; clear HO_652000; clear HO_662000; clear BK645; clear BK651; clear BK661; clear HB; have HO_646000 := n0_; have HO_652000 := n1_; have HO_662000 := n2_; have BK645 := n3_; have BK651 := n4_; have BK661 := n5_; have HB := n6_; clear n0_ n1_ n2_ n3_ n4_ n5_ n6_; (try clear hb); (try clear hb2); (try clear hk); (try clear hi)))
                      go_ret
                      exact ⟨by first | rfl | (simp [errW_none, errW_some] <;> rfl) | (simp [*, errW_none, errW_some] <;> rfl), by repeat (first | (with_reducible first | exact HB.out | apply below_alloc | apply pw_below_drewN | apply below_drew1 | refine below_set ?_ GE645.out | refine below_set ?_ GE651.out | refine below_set ?_ GE661.out) | exact HB.out)⟩
          · rw [if_neg c33] at H
            have c33b0 : (t655 == t653) = false := beq_eq_false_iff_ne.mpr c33
            have c33b1 : (t655 != t653) = true := bne_iff_ne.mpr c33
            obtain rfl := Option.some.inj H
            have hnb77 := NB651_645.out
            have hnc77 := NB645_651.out
            have hcz78_0 : wc.cell? ⟨gb651, 0, none⟩ = some (.slice Ao11 t646.length co11) := (blk_cell BK651.out 0).trans rfl
            have hcz78_1 : wc.cell? ⟨gb651, 1, none⟩ = some (.int .i64 t649) := (blk_cell BK651.out 1).trans rfl
            have hfz78_0 := blk_frozen BK651.out 0
            have hfz78_1 := blk_frozen BK651.out 1
            go_wp2_with (first | ((with_reducible refine gate_callee (f := 37) rfl ?_); refine goesL_ (some 32) rfl rfl Try.func37 (by kernel_rfl) rfl #[.agg #[.slice Ao11 t646.length co11, .int .i64 t649], .int .i64 1] rfl (by (try simp only [List.map_toArray, List.map_cons, List.map_nil]); first | done | rfl | (simp only [List.length_drop, List.length_take]; rfl)) ?_; (with_reducible refine (laws_markStack.calls kj3 (fun k_ => some k_ = (.slice Ao11 t646.length co11 : Value).ownBlock) (.slice Ao11 t646.length co11) t646 t649 1 t653 t654 w _ ?side1 ?side2 A25.out).mono ?_); (case side1 => repeat (first | (with_reducible first | exact HB.out | apply below_alloc | apply pw_below_drewN | apply below_drew1 | refine below_set ?_ GE645.out | refine below_set ?_ GE651.out) | exact HB.out)); (case side2 => exact Kd.R_tight rfl HO_652000.out); rintro e w79 ⟨rfl, hy0, hb, hkp⟩; refine ⟨_, rfl, ?_⟩; have n0_ := Aside0.mk (Kd.R_mono (ok' := fun k_ => some k_ ≠ (.slice Ao11 t646.length co11 : Value).ownBlock) (Kd.R_keptB (HO_646000.out) hkp (fun k_ hk_ hs_ => (hk_) hs_)) (fun k_ hk_ => hk_.1)); have n1_ := Aside0.mk (Kd.R_reok rfl hy0 (fun k_ e_ => HO_652000.out.1 k_ e_)); have n2_ := Aside0.mk (blk_kept (by (with_reducible repeat (first | refine blk_drewN ?_ _ | refine blk_drew ?_ | refine blk_alloc ?_ _)); exact BK645.out) hkp (fun hs_ => (fun e_ => (Kd.R_ne HO_652000.out BK645.out (by decide)) e_) hs_)); have n3_ := Aside0.mk (blk_kept (by (with_reducible repeat (first | refine blk_drewN ?_ _ | refine blk_drew ?_ | refine blk_alloc ?_ _)); exact BK651.out) hkp (fun hs_ => (fun e_ => (Kd.R_ne HO_652000.out BK651.out (by decide)) e_) hs_)); have n4_ := Aside0.mk (hb); clear HO_646000; clear HO_652000; clear BK645; clear BK651; clear HB; have HO_646000 := n0_; have HO_652000 := n1_; have BK645 := n2_; have BK651 := n3_; have HB := n4_; clear n0_ n1_ n2_ n3_ n4_; (try clear hb); (try clear hkp); (try clear hy0); have hcz80_0 : w79.cell? ⟨gb651, 0, none⟩ = some (.slice Ao11 t646.length co11) := (blk_cell BK651.out 0).trans rfl; have hcz80_1 : w79.cell? ⟨gb651, 1, none⟩ = some (.int .i64 t649) := (blk_cell BK651.out 1).trans rfl; have hfz80_0 := blk_frozen BK651.out 0; have hfz80_1 := blk_frozen BK651.out 1) | ((with_reducible refine gate_callee (f := 38) rfl ?_); refine goesL_ (some 35) rfl rfl Try.func38 (by kernel_rfl) rfl #[.agg #[.slice Ao11 t654.length co11, .int .i64 t649], .int .i64 1] rfl (by (try simp only [List.map_toArray, List.map_cons, List.map_nil]); first | done | (rw [show t654.length = t646.length from (Kd.R_reads' HO_652000.out).1.symm] <;> rfl) | rfl | (simp only [List.length_drop, List.length_take]; rfl)) ?_; (with_reducible refine (laws_heldStack.calls kj3 _ _ t654 t649 1 t655 _ ?side1 ?side2 A26.out).mono ?_); (case side1 => repeat (first | exact (Kd.R_reads' HO_652000.out).2.2 | (with_reducible refine Kd.C_alloc ?_ _) | (with_reducible refine Kd.C_drewN ?_ _) | (with_reducible refine Kd.C_drew ?_))); (case side2 => rw [show t654.length = t646.length from (Kd.R_reads' HO_652000.out).1.symm]; exact (Kd.R_reads' HO_652000.out).2.1); rintro e w81 ⟨rfl, hb⟩; refine ⟨_, rfl, ?_⟩; have n0_ := Aside0.mk (Kd.R_below (by (with_reducible repeat (first | apply Kd.R_alloc | apply Kd.R_drewN | apply Kd.R_drew)); exact HO_646000.out) hb); have n1_ := Aside0.mk (Kd.R_below (by (with_reducible repeat (first | apply Kd.R_alloc | apply Kd.R_drewN | apply Kd.R_drew)); exact HO_652000.out) hb); have n2_ := Aside0.mk (blk_below (g := gb645) (o := .cells #[.slice Ao7 t640.length co7, .int .i64 t643] 43 (0, 0)) (by (with_reducible repeat (first | refine blk_drewN ?_ _ | refine blk_drew ?_ | refine blk_alloc ?_ _)); exact BK645.out) hb); have n3_ := Aside0.mk (blk_below (g := gb651) (o := .cells #[.slice Ao11 t646.length co11, .int .i64 t649] 43 (0, 0)) (by (with_reducible repeat (first | refine blk_drewN ?_ _ | refine blk_drew ?_ | refine blk_alloc ?_ _)); exact BK651.out) hb); have n4_ := Aside0.mk (below_step (by repeat (first | (with_reducible first | exact HB.out | apply below_alloc | apply pw_below_drewN | apply below_drew1 | refine below_set ?_ GE645.out | refine below_set ?_ GE651.out) | exact HB.out)) hb); clear HO_646000; clear HO_652000; clear BK645; clear BK651; clear HB; have HO_646000 := n0_; have HO_652000 := n1_; have BK645 := n2_; have BK651 := n3_; have HB := n4_; clear n0_ n1_ n2_ n3_ n4_; (try clear hb); (try clear hb2); (try clear hk); (try clear hi)))
            go_ret
            exact ⟨by first | rfl | (simp [errW_none, errW_some] <;> rfl) | (simp [*, errW_none, errW_some] <;> rfl), by repeat (first | (with_reducible first | exact HB.out | apply below_alloc | apply pw_below_drewN | apply below_drew1 | refine below_set ?_ GE645.out | refine below_set ?_ GE651.out) | exact HB.out)⟩
/-- THE ONE PURE STATEMENT of laws_FnExactDeBruijn: yours. -/
def laws_FnExactDeBruijn.Pure : Prop := ∀ (a0 : Int), (Lit.int .i64 a0).wf = true → ∃ k, laws_FnExactDeBruijn.f k a0 = some true
theorem laws_FnExactDeBruijn.walk (P : laws_FnExactDeBruijn.Pure) (a0 : Int) (w : World) (w0 : (Lit.int .i64 a0).wf = true) :
    Calls Try.prog 8 #[.int .i64 a0] w fun e w' => e = .returned (.bool true) ∧ Below w.heap.size w w' := by
  obtain ⟨k, h⟩ := P a0 w0
  refine (laws_FnExactDeBruijn.calls k a0 true w h).mono ?_
  rintro e w' ⟨rfl, hd⟩
  exact ⟨rfl, hd⟩
end Go.Proofs.Ytfnllojppkjgcaa.F
end
