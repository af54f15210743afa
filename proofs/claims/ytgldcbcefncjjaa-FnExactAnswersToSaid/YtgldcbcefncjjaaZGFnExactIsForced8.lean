import Derived.Test.YtgldcbcefncjjaaZGFnExactIsForced7
import Derived.Test.YtgldcbcefncjjaaZGFnExactIsForced4
import Derived.Test.YtgldcbcefncjjaaZGFnExactIsForced3
import Derived.Deep.Slices
import Derived.Deep.Strs
import Derived.ChangeArms
import Derived.SizedLaws
import Derived.Test.YtgldcbcefncjjaaZGFnExactIsForced5
import Derived.Test.YtgldcbcefncjjaaZGFnExactIsForced6
section
/- Laid by a program of this claim's own. What the Go function does, as a Lean function, and the proof that the Go code does just that; Lean checks it. -/
namespace Go.Proofs.Ytgldcbcefncjjaa.F
open Go.RowKit Go.Proofs.YtgldcbcefncjjaaW.PrintWords Go.Proofs.YtgldcbcefncjjaaW.PrintLast Go.Proofs.YtgldcbcefncjjaaW.PrintMore
attribute [local go_sem] max2_int min2_int max_two min_two max_three min_three max_four min_four   -- for this text's walks alone
set_option linter.unusedVariables false
set_option linter.unusedSimpArgs false
theorem slices_Sort_Lint_int.onR (w : World) (base : Nat) (ok : Nat → Prop) (v : Value) (xs : List Int) (hR : (Kd.int .i64).R 3 w base ok v xs) (hlen : xs.length < 4611686018427387904) :
    Calls Try.prog 63 #[v] w fun e' w' => e' = .returned (.tuple #[]) ∧ w.grownBy w' v.ownBlock ∧ (Kd.int .i64).R 3 w' base ok v (sortI xs) :=
  sort_R sortIJ 3 w base ok v xs hR hlen
theorem slices_Compact_Lint_int.onR (w : World) (base : Nat) (ok : Nat → Prop) (v : Value) (xs : List Int) (hR : (Kd.int .i64).R 3 w base ok v xs) :
    Calls Try.prog 64 #[v] w fun e' w' => ∃ v' : Value, e' = .returned v' ∧ w.grownBy w' v.ownBlock ∧ (Kd.int .i64).R 3 w' base ok v' (Go.Lib.compact xs) :=
  compact_R compactIJ 3 w base ok v xs hR
/-! ### impl_EndsOf: function 29 -/
def impl_EndsOf.l0 : Nat → List Int → List (S49) → Int → Int → Option (List Int)
  | 0, _, _, _, _ => none
  | k + 1, x3, x9, x10, x11 => if x11 < x10 then (if 0 ≤ x11 then (if x11 < (x9.length : Int) then (if (((rd_T49 x9 x11).f1).length : Int) = 0 then (if x3.length < 17592186044416 then (impl_EndsOf.l0 k (x3 ++ [(rd_T49 x9 x11).f2]) x9 x10 (wrap64 (x11 + 1))) else (none)) else (impl_EndsOf.l0 k x3 x9 x10 (wrap64 (x11 + 1)))) else (none)) else (none)) else (if x3.length < 4611686018427387904 then (some (Go.Lib.compact (sortI x3))) else (none))
def impl_EndsOf.f (k : Nat) (l0 : List (S49)) : Option (List Int) := (impl_ForceOk.f k l0).bind fun t487 => (if t487 = true then (impl_EndsOf.l0 k ([] : List Int) l0 (l0.length : Int) 0) else (some ([] : List Int)))
set_option maxHeartbeats 8000000 in
set_option maxRecDepth 100000 in
theorem impl_EndsOf.calls (k : Nat) (A0 : Option Addr) (c0 : Nat) (l0 : List (S49)) (r : List Int) (w : World) (hr0 : Kd.C k49 w A0 l0.length l0) (hc0 : l0.length ≤ c0) (h : impl_EndsOf.f k l0 = some r) :
    Calls Try.prog 29 #[.slice A0 l0.length c0] w fun e w' => ∃ v0_ : Value, e = .returned (v0_) ∧ Kd.R (Kd.int .i64) 3 w' w.heap.size (fun _ => True) v0_ r ∧ Below w.heap.size w w' := by
  have hu49 := Try.underlying49
  have HR0 := Aside0.mk hr0
  have HC0 := Aside0.mk hc0
  clear hr0 hc0
  have HB := Aside0.mk (Below.refl w.heap.size w)
  have H : ((impl_ForceOk.f k l0).bind fun t487 => (if t487 = true then (impl_EndsOf.l0 k ([] : List Int) l0 (l0.length : Int) 0) else (some ([] : List Int)))) = some r := h
  clear h
  replace H := Option.bind_eq_some_iff.mp H
  obtain ⟨t487, A20, H⟩ := H
  replace H : (if t487 = true then (impl_EndsOf.l0 k ([] : List Int) l0 (l0.length : Int) 0) else (some ([] : List Int))) = some r := H
  have A2 := Aside0.mk A20
  clear A20
  by_cases c3 : t487 = true
  · subst c3
    have H1 : (impl_EndsOf.l0 k ([] : List Int) l0 (l0.length : Int) 0) = some r := by rw [if_pos rfl] at H; exact H
    clear H
    have H := H1
    clear H1
    have H' := Aside0.mk H
    clear H
    go_enter Try.func29, Try.ntmps29
    go_wp2_with (first | ((with_reducible refine gate_callee (f := 34) rfl ?_); refine goesL_ (some 7) rfl rfl Try.func34 (by kernel_rfl) rfl #[.slice A0 l0.length c0] rfl (by (try simp only [List.map_toArray, List.map_cons, List.map_nil]); first | done | rfl | (simp only [List.length_drop, List.length_take]; rfl)) ?_; (with_reducible refine (impl_ForceOk.calls k _ _ l0 true _ ?side1 ?side2 A2.out).mono ?_); (case side1 => repeat (first | exact HR0.out | (with_reducible refine Kd.C_alloc ?_ _) | (with_reducible refine Kd.C_drewN ?_ _) | (with_reducible refine Kd.C_drew ?_))); (case side2 => exact HC0.out); rintro e w4 ⟨rfl, hb⟩; refine ⟨_, rfl, ?_⟩; have n0_ := Aside0.mk (below_step (by repeat (first | (with_reducible first | exact HB.out | apply below_alloc | apply pw_below_drewN | apply below_drew1) | exact HB.out)) hb); clear HB; have HB := n0_; clear n0_; (try clear hb); (try clear hb2); (try clear hk); (try clear hi)))
    go_loopg [3, 11] k (fun kq v3 v11 w' => ∃ (x3_1 : List Int) (x11_1 : Int), v11 = .int .i64 x11_1 ∧ Aside0 (impl_EndsOf.l0 kq x3_1 l0 (l0.length : Int) x11_1 = some r) ∧ Aside0 (kq ≤ k) ∧ Aside0 (Kd.R (Kd.int .i64) 3 w' w.heap.size (fun _ => True) v3 x3_1) ∧ Aside0 (Below w.heap.size w w'))
    case atStart => exact ⟨(([] : List Int)), (0), (by first | rfl | (simp; done) | (simp [*]; done)), H', ⟨Nat.le_refl _⟩, ⟨by first | exact Kd.R_nil _ _ _ _ _ | exact Kd.N_nil _ _ _ _ _ | exact Kd.V_nil _ _ _ _ _ | exact Kd.Q_nil _ _ _ _ _ | exact Kd.S_nil _ _ _ _ _⟩, ⟨by repeat (first | (with_reducible first | exact HB.out | apply below_alloc | apply pw_below_drewN | apply below_drew1) | exact HB.out)⟩⟩
    case round =>
      clear H'
      try clear c2
      try clear p2
      try clear c3
      obtain ⟨x3_1, x11_1, rfl, HA, HK1, HO_3, HB⟩ := hrel
      cases gk with
      | zero => exact absurd HA.out (by simp [impl_EndsOf.l0])
      | succ k1 =>
        have H := HA.out
        clear HA
        simp only [impl_EndsOf.l0] at H
        by_cases c5 : x11_1 < (l0.length : Int)
        · rw [if_pos c5] at H
          have c5b0 : decide (x11_1 < (l0.length : Int)) = true := decide_eq_true c5
          clear c5
          by_cases c6 : 0 ≤ x11_1
          · rw [if_pos c6] at H
            have c6b0 : decide (0 ≤ x11_1) = true := decide_eq_true c6
            clear c6
            by_cases c7 : x11_1 < (l0.length : Int)
            · rw [if_pos c7] at H
              have c7b0 : decide (x11_1 < (l0.length : Int)) = true := decide_eq_true c7
              clear c7
              by_cases c8 : (((rd_T49 l0 x11_1).f1).length : Int) = 0
              · rw [if_pos c8] at H
                have c8b0 : ((((rd_T49 l0 x11_1).f1).length : Int) == 0) = true := beq_iff_eq.mpr c8
                have c8b1 : ((((rd_T49 l0 x11_1).f1).length : Int) != 0) = false := bne_eq_false_iff_eq.mpr c8
                clear c8
                by_cases c9 : x3_1.length < 17592186044416
                · rw [if_pos c9] at H
                  have LMc9 := Aside0.mk c9
                  clear c9
                  obtain ⟨y490, hy490⟩ : ∃ y_ : List Int, y_ = (x3_1 ++ [(rd_T49 l0 x11_1).f2]) := ⟨_, rfl⟩
                  replace H : (impl_EndsOf.l0 k1 y490 l0 (l0.length : Int) (wrap64 (x11_1 + 1))) = some r := by first | (rw [hy490]; with_reducible exact H) | (have H2_ := (Option.bind_some _ _).symm.trans H; rw [hy490]; with_reducible exact H2_) | (have H2_ := (Option.bind_some _ _).symm.trans H; with_reducible exact H2_) | with_reducible exact H | (rw [hy490]; exact H) | exact H
                  have Ny490 := Aside0.mk hy490
                  clear hy490
                  have H' := Aside0.mk H
                  clear H
                  have p488 : 0 ≤ (x11_1 : Int) := of_decide_eq_true (by first | (with_reducible assumption) | assumption)
                  have q488 : x11_1 < (l0.length : Int) := of_decide_eq_true (by first | (with_reducible assumption) | assumption)
                  obtain ⟨ad488, A488_1, c488_1, e488, hx488_0, hx488_1, hx488_2, hl488_1, hi488_1⟩ := at_T49 HR0.out x11_1 p488 q488
                  cases e488
                  replace hx488_0 := (HB.out.cell (World.block_lt_of_cell? w _ hx488_0)).trans hx488_0
                  replace hx488_1 := (HB.out.cell (World.block_lt_of_cell? w _ hx488_1)).trans hx488_1
                  replace hx488_2 := (HB.out.cell (World.block_lt_of_cell? w _ hx488_2)).trans hx488_2
                  have HR488_1 := Aside0.mk hi488_1
                  have HC488_1 := Aside0.mk hl488_1
                  clear hi488_1 hl488_1
                  replace p488 := eq_true p488
                  replace q488 := eq_true q488
                  go_wp2_with (first | ((with_reducible refine gate_dst (N := 5) rfl ?_); refine box_event ?hg (N := 5) ?hd (cs := #[.string (⟨#[]⟩ : ByteArray), .slice none 0 0, .int .i64 0]) (t := 49) ?hr ?_; (case hd => rfl); (case hg => rfl); (case hr => first | (go_simp; done) | (go_simp; rfl)); intro gb489 hg w10 hbox hb; have n0_ := Aside0.mk (Kd.R_below (by (with_reducible repeat (first | apply Kd.R_alloc | apply Kd.R_drewN | apply Kd.R_drew)); exact HO_3.out) hb); have n1_ := Aside0.mk (below_step (by repeat (first | (with_reducible first | exact HB.out | apply below_alloc | apply pw_below_drewN | apply below_drew1) | exact HB.out)) hb); have n2_ := Aside0.mk (hbox); have n3_ := Aside0.mk ((by rw [hg]; exact (below_size (by repeat (first | (with_reducible first | exact HB.out | apply below_alloc | apply pw_below_drewN | apply below_drew1) | exact HB.out))) : w.heap.size ≤ gb489)); have n4_ := Aside0.mk ((by rw [hg]; exact (below_size (by repeat (first | (with_reducible first | exact HB.out | apply below_alloc | apply pw_below_drewN | apply below_drew1) | exact HB.out))) : w.heap.size ≤ gb489)); clear HO_3; clear HB; have HO_3 := n0_; have HB := n1_; have BK489 := n2_; have GW489 := n3_; have GE489 := n4_; clear n0_ n1_ n2_ n3_ n4_; clear hb hbox hg; have hcz11_0 : w10.cell? ⟨gb489, 0, none⟩ = some (.string (⟨#[]⟩ : ByteArray)) := (blk_cell BK489.out 0).trans rfl; have hcz11_1 : w10.cell? ⟨gb489, 1, none⟩ = some (.slice none 0 0) := (blk_cell BK489.out 1).trans rfl; have hcz11_2 : w10.cell? ⟨gb489, 2, none⟩ = some (.int .i64 0) := (blk_cell BK489.out 2).trans rfl; have hfz11_0 := blk_frozen BK489.out 0; have hfz11_1 := blk_frozen BK489.out 1; have hfz11_2 := blk_frozen BK489.out 2) | ((with_reducible refine gate_builtin (b := .append) (xs := #[.tmp 19, .tmp 22]) rfl ?_); at_builtin; refine Kd.R_append (Kd.int .i64) (w0 := w) w.heap.size rfl (.tmp 19) (.tmp 22) 22 3 (.int .i64 0) 8 rfl Try.underlying22 info3 rfl (by decide) (by omega) u3 x3_1 ((rd_T49 l0 x11_1).f2) [.int .i64 ((rd_T49 l0 x11_1).f2)] (fun _ => True) (fun _ => False) rfl (by first | (go_simp; done) | (go_simp; rfl)) ?aP (fun _ hk => hk.elim) ?aF ?aO ?aB ?aS ?aL ?_; (case aP => exact rfl); (case aB => exact (by repeat (first | (with_reducible first | exact HB.out | apply below_alloc | apply pw_below_drewN | apply below_drew1 | refine below_set ?_ GE489.out) | exact HB.out))); (case aF => exact (fun _ _ => trivial)); (case aO => exact (by (with_reducible repeat (first | apply Kd.R_alloc | apply Kd.R_drewN | apply Kd.R_drew)); exact Kd.R_mono (Kd.R_far (p := ⟨gb489, 2, none⟩) (Kd.R_far (p := ⟨gb489, 1, none⟩) (Kd.R_far (p := ⟨gb489, 0, none⟩) (Kd.R_types HO_3.out BK489.out (by decide)) (fun _ hk => hk.2) (.string ((rd_T49 l0 x11_1).f0))) (fun _ hk => hk.2) (.slice A488_1 ((rd_T49 l0 x11_1).f1).length c488_1)) (fun _ hk => hk.2) (.int .i64 ((rd_T49 l0 x11_1).f2))) (fun _ hk => trivial))); (case aS => exact (below_size (by repeat (first | (with_reducible first | exact HB.out | apply below_alloc | apply pw_below_drewN | apply below_drew1 | refine below_set ?_ GE489.out) | exact HB.out)))); (case aL => have := LMc9.out; omega); intro v491 w12 ho hb hg hat; rw [← Ny490.out] at ho; have n0_ := Aside0.mk (blk_grown (g := gb489) (o := .cells #[.string ((rd_T49 l0 x11_1).f0), .slice A488_1 ((rd_T49 l0 x11_1).f1).length c488_1, .int .i64 ((rd_T49 l0 x11_1).f2)] 49 (0, 0)) (by (with_reducible repeat (first | refine blk_drewN ?_ _ | refine blk_drew ?_ | refine blk_alloc ?_ _)); refine blk_put (cs := #[.string ((rd_T49 l0 x11_1).f0), .slice A488_1 ((rd_T49 l0 x11_1).f1).length c488_1, .int .i64 0]) ?_ 2 _ rfl; (with_reducible repeat (first | refine blk_drewN ?_ _ | refine blk_drew ?_ | refine blk_alloc ?_ _)); refine blk_put (cs := #[.string ((rd_T49 l0 x11_1).f0), .slice none 0 0, .int .i64 0]) ?_ 1 _ rfl; (with_reducible repeat (first | refine blk_drewN ?_ _ | refine blk_drew ?_ | refine blk_alloc ?_ _)); refine blk_put (cs := #[.string (⟨#[]⟩ : ByteArray), .slice none 0 0, .int .i64 0]) ?_ 0 _ rfl; (with_reducible repeat (first | refine blk_drewN ?_ _ | refine blk_drew ?_ | refine blk_alloc ?_ _)); exact BK489.out) hg (Kd.R_ne HO_3.out BK489.out (by decide))); have n1_ := Aside0.mk (hb); have n2_ := Aside0.mk (ho); clear BK489; clear HB; clear HO_3; have BK489 := n0_; have HB := n1_; have HO492 := n2_; clear n0_ n1_ n2_; clear ho hb hg hat))
                  go_roundg k1
                  case measure => have := HK1.out; omega
                  case rel => exact ⟨(y490), (wrap64 (x11_1 + 1)), (by first | rfl | (simp; done) | (simp [*]; done)), H', ⟨by have := HK1.out; omega⟩, ⟨by (with_reducible repeat (first | apply Kd.R_alloc | apply Kd.R_drewN | apply Kd.R_drew)); exact HO492.out⟩, ⟨by repeat (first | (with_reducible first | exact HB.out | apply below_alloc | apply pw_below_drewN | apply below_drew1 | refine below_set ?_ GE489.out) | exact HB.out)⟩⟩
                · rw [if_neg c9] at H
                  exact absurd H (by simp)
              · rw [if_neg c8] at H
                have c8b0 : ((((rd_T49 l0 x11_1).f1).length : Int) == 0) = false := beq_eq_false_iff_ne.mpr c8
                have c8b1 : ((((rd_T49 l0 x11_1).f1).length : Int) != 0) = true := bne_iff_ne.mpr c8
                have c8b2 : ¬ (((rd_T49 l0 x11_1).f1) = []) := fun h_ => c8 (by rw [h_]; rfl)
                have H' := Aside0.mk H
                clear H
                have p488 : 0 ≤ (x11_1 : Int) := of_decide_eq_true (by first | (with_reducible assumption) | assumption)
                have q488 : x11_1 < (l0.length : Int) := of_decide_eq_true (by first | (with_reducible assumption) | assumption)
                obtain ⟨ad488, A488_1, c488_1, e488, hx488_0, hx488_1, hx488_2, hl488_1, hi488_1⟩ := at_T49 HR0.out x11_1 p488 q488
                cases e488
                replace hx488_0 := (HB.out.cell (World.block_lt_of_cell? w _ hx488_0)).trans hx488_0
                replace hx488_1 := (HB.out.cell (World.block_lt_of_cell? w _ hx488_1)).trans hx488_1
                replace hx488_2 := (HB.out.cell (World.block_lt_of_cell? w _ hx488_2)).trans hx488_2
                have HR488_1 := Aside0.mk hi488_1
                have HC488_1 := Aside0.mk hl488_1
                clear hi488_1 hl488_1
                replace p488 := eq_true p488
                replace q488 := eq_true q488
                go_wp2_with (first | ((with_reducible refine gate_dst (N := 5) rfl ?_); refine box_event ?hg (N := 5) ?hd (cs := #[.string (⟨#[]⟩ : ByteArray), .slice none 0 0, .int .i64 0]) (t := 49) ?hr ?_; (case hd => rfl); (case hg => rfl); (case hr => first | (go_simp; done) | (go_simp; rfl)); intro gb489 hg w13 hbox hb; have n0_ := Aside0.mk (Kd.R_below (by (with_reducible repeat (first | apply Kd.R_alloc | apply Kd.R_drewN | apply Kd.R_drew)); exact HO_3.out) hb); have n1_ := Aside0.mk (below_step (by repeat (first | (with_reducible first | exact HB.out | apply below_alloc | apply pw_below_drewN | apply below_drew1) | exact HB.out)) hb); have n2_ := Aside0.mk (hbox); have n3_ := Aside0.mk ((by rw [hg]; exact (below_size (by repeat (first | (with_reducible first | exact HB.out | apply below_alloc | apply pw_below_drewN | apply below_drew1) | exact HB.out))) : w.heap.size ≤ gb489)); have n4_ := Aside0.mk ((by rw [hg]; exact (below_size (by repeat (first | (with_reducible first | exact HB.out | apply below_alloc | apply pw_below_drewN | apply below_drew1) | exact HB.out))) : w.heap.size ≤ gb489)); clear HO_3; clear HB; have HO_3 := n0_; have HB := n1_; have BK489 := n2_; have GW489 := n3_; have GE489 := n4_; clear n0_ n1_ n2_ n3_ n4_; clear hb hbox hg; have hcz14_0 : w13.cell? ⟨gb489, 0, none⟩ = some (.string (⟨#[]⟩ : ByteArray)) := (blk_cell BK489.out 0).trans rfl; have hcz14_1 : w13.cell? ⟨gb489, 1, none⟩ = some (.slice none 0 0) := (blk_cell BK489.out 1).trans rfl; have hcz14_2 : w13.cell? ⟨gb489, 2, none⟩ = some (.int .i64 0) := (blk_cell BK489.out 2).trans rfl; have hfz14_0 := blk_frozen BK489.out 0; have hfz14_1 := blk_frozen BK489.out 1; have hfz14_2 := blk_frozen BK489.out 2))
                go_roundg k1
                case measure => have := HK1.out; omega
                case rel => exact ⟨(x3_1), (wrap64 (x11_1 + 1)), (by first | rfl | (simp; done) | (simp [*]; done)), H', ⟨by have := HK1.out; omega⟩, ⟨by (with_reducible repeat (first | apply Kd.R_alloc | apply Kd.R_drewN | apply Kd.R_drew)); exact Kd.R_mono (Kd.R_far (p := ⟨gb489, 2, none⟩) (Kd.R_far (p := ⟨gb489, 1, none⟩) (Kd.R_far (p := ⟨gb489, 0, none⟩) (Kd.R_types HO_3.out BK489.out (by decide)) (fun _ hk => hk.2) (.string ((rd_T49 l0 x11_1).f0))) (fun _ hk => hk.2) (.slice A488_1 ((rd_T49 l0 x11_1).f1).length c488_1)) (fun _ hk => hk.2) (.int .i64 ((rd_T49 l0 x11_1).f2))) (fun _ hk => trivial)⟩, ⟨by repeat (first | (with_reducible first | exact HB.out | apply below_alloc | apply pw_below_drewN | apply below_drew1 | refine below_set ?_ GE489.out) | exact HB.out)⟩⟩
            · rw [if_neg c7] at H
              exact absurd H (by simp)
          · rw [if_neg c6] at H
            exact absurd H (by simp)
        · rw [if_neg c5] at H
          have c5b0 : decide (x11_1 < (l0.length : Int)) = false := decide_eq_false c5
          clear c5
          by_cases c9 : x3_1.length < 4611686018427387904
          · rw [if_pos c9] at H
            obtain rfl := Option.some.inj H
            have LM9 := Aside0.mk c9
            clear H c9
            go_wp2_with (first | (go_at_call 63; refine (slices_Sort_Lint_int.onR _ w.heap.size (fun _ => True) u3 x3_1 HO_3.out LM9.out).mono ?_; rintro e w9 ⟨rfl, hg, hS⟩; have HB9 := Aside0.mk (pw_below_grown HB.out _ (below_size HB.out) hg (Kd.R_base HO_3.out)); have HO9 := Aside0.mk hS; clear hg hS HB HO_3) | (go_at_call 64; refine (slices_Compact_Lint_int.onR _ w.heap.size (fun _ => True) u3 (sortI x3_1) HO9.out).mono ?_; rintro e w10 ⟨v10, rfl, hg, hS⟩; have HB10 := Aside0.mk (pw_below_grown HB9.out _ (below_size HB9.out) hg (Kd.R_base HO9.out)); have HO10 := Aside0.mk hS; clear hg hS HB9 HO9))
            go_ret
            exact ⟨_, rfl, HO10.out, HB10.out⟩
          · rw [if_neg c9] at H
            exact absurd H (by simp)
  · replace c3 := Bool.eq_false_iff.mpr c3
    subst c3
    have H1 : (some ([] : List Int)) = some r := by rw [if_neg (show ¬ (false = true) by decide)] at H; exact H
    clear H
    have H := H1
    clear H1
    obtain rfl := Option.some.inj H
    go_enter Try.func29, Try.ntmps29
    go_wp2_with (first | ((with_reducible refine gate_callee (f := 34) rfl ?_); refine goesL_ (some 7) rfl rfl Try.func34 (by kernel_rfl) rfl #[.slice A0 l0.length c0] rfl (by (try simp only [List.map_toArray, List.map_cons, List.map_nil]); first | done | rfl | (simp only [List.length_drop, List.length_take]; rfl)) ?_; (with_reducible refine (impl_ForceOk.calls k _ _ l0 false _ ?side1 ?side2 A2.out).mono ?_); (case side1 => repeat (first | exact HR0.out | (with_reducible refine Kd.C_alloc ?_ _) | (with_reducible refine Kd.C_drewN ?_ _) | (with_reducible refine Kd.C_drew ?_))); (case side2 => exact HC0.out); rintro e w15 ⟨rfl, hb⟩; refine ⟨_, rfl, ?_⟩; have n0_ := Aside0.mk (below_step (by repeat (first | (with_reducible first | exact HB.out | apply below_alloc | apply pw_below_drewN | apply below_drew1) | exact HB.out)) hb); clear HB; have HB := n0_; clear n0_; (try clear hb); (try clear hb2); (try clear hk); (try clear hi)))
    go_ret
    exact ⟨_, by first | rfl | (simp [errW_none, errW_some] <;> rfl) | (simp [*, errW_none, errW_some] <;> rfl), by first | exact Kd.R_nil _ _ _ _ _ | exact Kd.N_nil _ _ _ _ _ | exact Kd.V_nil _ _ _ _ _ | exact Kd.Q_nil _ _ _ _ _ | exact Kd.S_nil _ _ _ _ _, by repeat (first | (with_reducible first | exact HB.out | apply below_alloc | apply pw_below_drewN | apply below_drew1) | exact HB.out)⟩
end Go.Proofs.Ytgldcbcefncjjaa.F
-- SORTED BY CONTRACTS
end
section
/- What an argument reads as, kind by kind: plain facts of my own on the model's reading; no function of the program is named here. -/
namespace Go.Proofs.Ytgldcbcefncjjaa.F
open Go.ChangeShapes Go.WideShapes Go.RowKit Go.Proofs.YtgldcbcefncjjaaW.PrintWords
/-- All that reads by type t is of kind d, and has Q. -/
def Opn {α : Type} (P : Program) (t : TypeId) (d : Kd α) (Q : α → Prop) : Prop :=
  ∀ (H : Type) (enc : TypeId × Value → H) (w : World) (base : Nat) (held : Bool) (fuel : Nat) (cs : List Value) (x : DataW H × List MemPlace), DataW.trod enc P w base (fun _ => true) held fuel t cs = some x → (∀ n ∈ x.1.weights P t, n ≤ reachBytes) → ∃ a, d.K w a cs ∧ Q a
theorem reach_eq : reachBytes = 140737488351232 := by decide
section
variable {P : Program} {t e : TypeId}
theorem Opn_int {k : IntKind} (ht : P.underlying t = some (.int k)) : Opn P t (Kd.int k) (fun n => (Lit.int k n).wf = true) := by
  intro H enc w base held fuel cs x h _
  obtain ⟨n, rfl, _, hw⟩ := DataW.trod_int ht h
  exact ⟨n, rfl, hw⟩
theorem Opn_str (ht : P.underlying t = some .string) : Opn P t Kd.string (fun s => s.size ≤ maxLen ∧ s.size ≤ 140737488351232) := by
  intro H enc w base held fuel cs x h hz
  obtain ⟨s, rfl, rfl, hw⟩ := DataW.trod_string ht h
  refine ⟨s, rfl, hw, ?_⟩
  have := hz s.data.toList.length (by simp [DataW.weights])
  rw [reach_eq] at this
  simpa using this
theorem weightsAll_mem {H : Type} {P : Program} {e : TypeId} : ∀ {ds : List (DataW H)} {d : DataW H}, d ∈ ds → ∀ n ∈ d.weights P e, n ∈ DataW.weightsAll P e ds
  | d0 :: ds, d, hd, n, hn => by
    simp only [DataW.weightsAll, List.mem_append]
    rcases List.mem_cons.mp hd with rfl | hd
    · exact Or.inl hn
    · exact Or.inr (weightsAll_mem hd n hn)
  | [], _, hd, _, _ => by simp at hd
theorem Opn_slice {α : Type} {d : Kd α} {Q : α → Prop} (e' B : Nat) (hB : P.bytesOf e = B) (ht : P.underlying t = some (.slice e)) (hc : P.cellsOf e = d.sz) (h : Opn P e d Q) :
    Opn P t (Kd.slice e' d) (fun xs => xs.length * B ≤ 140737488351232 ∧ xs.length ≤ maxLen ∧ ∀ x ∈ xs, Q x) := by
  intro H enc w base held fuel cs x hx hz
  rcases Go.Deep.open_slice ht hx with ⟨rfl, _⟩ | ⟨a, len, cap, m, n, D, Pl, rfl, _, hl, hm, hmm, rfl, hel⟩
  · exact ⟨[], ⟨none, 0, rfl, Nat.le_refl _, rfl, by simp, fun h => absurd h (by simp)⟩, by simp, by simp, by simp⟩
  · have hmm' : m = cap := by simpa using hmm
    subst hmm'
    have hz' := hz
    simp only [DataW.weights, ht] at hz'
    have each : ∀ i, i < len → ∃ y : α, (∃ c, c.length = d.sz ∧ d.K w y c ∧ ∀ j u, c[j]? = some u → w.cell? (a.add (i * d.sz + j)) = some u) ∧ Q y := by
      intro i hi
      obtain ⟨cs', h1, h2⟩ := hel i (by omega)
      obtain ⟨y, hK, hQ⟩ := h H enc w base held n cs' _ h2 (fun q hq => hz' q (List.mem_cons_of_mem _ (List.mem_append.mpr (Or.inl (weightsAll_mem (List.mem_map.mpr ⟨i, List.mem_range.mpr hi, rfl⟩) q hq)))))
      obtain ⟨_, h4, h5⟩ := World.cells?_some h1
      rw [hc] at h4 h5
      refine ⟨y, ⟨cs', h4, hK, fun j u hu => ?_⟩, hQ⟩
      have hj : j < d.sz := by
        rw [← h4]
        exact (List.getElem?_eq_some_iff.mp hu).1
      have := h5 j hj
      rw [hu] at this
      rw [← this]
      congr 1
      unfold Addr.add
      by_cases q1 : i * d.sz = 0
      · simp [q1]
      · by_cases q2 : j = 0
        · simp [q1, q2]
        · simp [q1, q2, Nat.add_assoc]
    rcases Nat.eq_zero_or_pos len with hl0 | hl0
    · subst hl0
      exact ⟨[], ⟨some a, m, rfl, by simp, rfl, by simp, fun h => absurd h (by simp)⟩, by simp, by simp, by simp⟩
    haveI : Inhabited α := ⟨Classical.choose (each 0 hl0)⟩
    obtain ⟨Y, hY⟩ := Go.Deep.choose_lt each
    refine ⟨(List.range len).map Y, ⟨some a, m, by simp, by simpa using hl, by simp, ?_, fun _ => ⟨a, rfl, ?_⟩⟩, ?_, by simp; omega, ?_⟩
    · have : maxLen ≤ 9223372036854775807 := by decide
      simp
      omega
    · intro j p hp
      simp only [List.getElem?_map, Option.map_eq_some_iff] at hp
      obtain ⟨i, hi, rfl⟩ := hp
      obtain ⟨hi1, hi2⟩ := List.getElem?_eq_some_iff.mp hi
      simp only [List.length_range] at hi1
      simp only [List.getElem_range] at hi2
      subst hi2
      exact (hY _ hi1).1
    · have := hz' _ List.mem_cons_self
      rw [hB, reach_eq] at this
      simp only [List.length_map, List.length_range] at this ⊢
      exact Nat.le_trans (Nat.mul_le_mul_right _ (Nat.le_add_right _ _)) this
    · intro x hx
      obtain ⟨i, hi, rfl⟩ := List.mem_map.mp hx
      exact (hY i (List.mem_range.mp hi)).2
theorem take_of_len {cs : List Value} {n : Nat} (h : cs.length = n) : cs.take n = cs := List.take_of_length_le (by omega)
theorem Opn_struct3 {α β γ : Type} {d0 : Kd α} {d1 : Kd β} {d2 : Kd γ} {Q0 : α → Prop} {Q1 : β → Prop} {Q2 : γ → Prop} {f0 f1 f2 : Field} (ht : P.underlying t = some (.struct #[f0, f1, f2])) (o0 : f0.offset = 0) (o1 : f1.offset = d0.sz) (o2 : f2.offset = d0.sz + d1.sz) (c0 : P.cellsOf f0.type = d0.sz) (c1 : P.cellsOf f1.type = d1.sz) (c2 : P.cellsOf f2.type = d2.sz) (ct : P.cellsOf t = d0.sz + d1.sz + d2.sz) (h0 : Opn P f0.type d0 Q0) (h1 : Opn P f1.type d1 Q1) (h2 : Opn P f2.type d2 Q2) :
    Opn P t (Kd.pair d0 (Kd.pair d1 d2)) (fun x => Q0 x.1 ∧ Q1 x.2.1 ∧ Q2 x.2.2) := by
  intro H enc w base held fuel cs x hx hz
  obtain ⟨y0, y1, y2, n, rfl, hl, g0, g1, g2⟩ := Go.Deep.trod_struct3 ht hx
  simp only [DataW.weights, ht, DataW.weightsEach, List.map_cons, List.map_nil] at hz
  obtain ⟨a, ha, qa⟩ := h0 H enc w base held n _ _ g0 (fun q hq => hz q (by simp [hq]))
  obtain ⟨b, hb, qb⟩ := h1 H enc w base held n _ _ g1 (fun q hq => hz q (by simp [hq]))
  obtain ⟨c, hc, qc⟩ := h2 H enc w base held n _ _ g2 (fun q hq => hz q (by simp [hq]))
  refine ⟨(a, b, c), ⟨_, _, ?_, ha, _, _, rfl, hb, hc⟩, qa, qb, qc⟩
  rw [o0, o1, o2, c0, c1, c2, List.drop_zero, take_of_len (show (cs.drop (d0.sz + d1.sz)).length = d2.sz by rw [List.length_drop]; omega), ← List.drop_drop, List.take_append_drop, List.take_append_drop]
theorem Opn_iso {α β : Type} {d : Kd α} {Q : α → Prop} (f : β → α) (g : α → β) (hfg : ∀ a, f (g a) = a) (h : Opn P t d Q) : Opn P t (Kd.iso d f) (fun b => Q (f b)) := by
  intro H enc w base held fuel cs x hx hz
  obtain ⟨a, ha, qa⟩ := h H enc w base held fuel cs x hx hz
  exact ⟨g a, by show d.K w (f (g a)) cs; rw [hfg]; exact ha, by show Q (f (g a)); rw [hfg]; exact qa⟩
end
end Go.Proofs.Ytgldcbcefncjjaa.F
end
section
/- Laid by a program of this claim's own. What the Go function does, as a Lean function, and the proof that the Go code does just that; Lean checks it. -/
namespace Go.Proofs.Ytgldcbcefncjjaa.F
open Go.RowKit Go.Proofs.YtgldcbcefncjjaaW.PrintWords Go.Proofs.YtgldcbcefncjjaaW.PrintLast Go.Proofs.YtgldcbcefncjjaaW.PrintMore
attribute [local go_sem] max2_int min2_int max_two min_two max_three min_three max_four min_four   -- for this text's walks alone
set_option linter.unusedVariables false
set_option linter.unusedSimpArgs false
/-! ### laws_markIntS: function 18 -/
def laws_markIntS.l0 : Nat → List Int → Int → Int → Option (Int × List Int)
  | 0, _, _, _ => none
  | k + 1, x0, x1, x5 => if x5 < (x0.length : Int) then (if 0 ≤ x5 then (laws_markIntS.l0 k (x0.set (x5 : Int).toNat x1) (wrap64 (x1 + 1)) (wrap64 (x5 + 1))) else (none)) else (some (x1, x0))
def laws_markIntS.f (k : Nat) (l0 : List Int) (a1 : Int) : Option (Int × List Int) := laws_markIntS.l0 k l0 a1 0
set_option maxHeartbeats 8000000 in
set_option maxRecDepth 100000 in
theorem laws_markIntS.calls (k : Nat) (P0_ : Nat → Prop) (u9000_ : Value) (l0 : List Int) (a1 : Int) (r1 : Int) (r2 : List Int) (w0 w : World) (hB : Below w0.heap.size w0 w) (ho0 : Kd.R (Kd.int .i64) 3 w w0.heap.size P0_ u9000_ l0) (h : laws_markIntS.f k l0 a1 = some (r1, r2)) :
    Calls Try.prog 18 #[u9000_, .int .i64 a1] w fun e w' => e = .returned (.int .i64 r1) ∧ Kd.R (Kd.int .i64) 3 w' w0.heap.size (fun k_ => (P0_ k_ ∨ w.heap.size ≤ k_)) u9000_ r2 ∧ Below w0.heap.size w0 w' ∧ Kept w w' (fun k_ => P0_ k_) := by
  have HO0 := Aside0.mk (show Kd.R (Kd.int .i64) 3 w w0.heap.size (fun k_ => (P0_ k_ ∨ w.heap.size ≤ k_)) u9000_ l0 from Kd.R_mono ho0 (fun k_ hk => (.inl hk)))
  have HK := Aside0.mk (Kept.refl w (fun k_ => P0_ k_))
  have HW0 := Aside0.mk hB.size
  have HB := Aside0.mk hB
  clear hB
  have H : (laws_markIntS.l0 k l0 a1 0) = some (r1, r2) := h
  clear h
  have H' := Aside0.mk H
  clear H
  go_enter Try.func18, Try.ntmps18
  go_wp2
  go_loopg [1, 5] k (fun kq v1 v5 w' => ∃ (x0_1 : List Int) (x1_1 : Int) (x5_1 : Int), v1 = .int .i64 x1_1 ∧ v5 = .int .i64 x5_1 ∧ Aside0 (laws_markIntS.l0 kq x0_1 x1_1 x5_1 = some (r1, r2)) ∧ Aside0 (kq ≤ k) ∧ Aside0 (Kd.R (Kd.int .i64) 3 w' w0.heap.size (fun k_ => (P0_ k_ ∨ w.heap.size ≤ k_)) u9000_ x0_1) ∧ Aside0 (Kept w w' (fun k_ => P0_ k_)) ∧ Aside0 (Below w0.heap.size w0 w'))
  case atStart => exact ⟨(l0), (a1), (0), (by first | rfl | (simp; done) | (simp [*]; done)), (by first | rfl | (simp; done) | (simp [*]; done)), H', ⟨Nat.le_refl _⟩, ⟨by (with_reducible repeat (first | apply Kd.R_alloc | apply Kd.R_drewN | apply Kd.R_drew)); exact HO0.out⟩, ⟨by repeat (first | (with_reducible first | exact HK.out | apply Kept.alloc | apply Kept.drewN | apply Kept.drew) | exact HK.out)⟩, ⟨by repeat (first | (with_reducible first | exact HB.out | apply below_alloc | apply pw_below_drewN | apply below_drew1) | exact HB.out)⟩⟩
  case round =>
    clear H'
    try clear c1
    try clear p2
    obtain ⟨x0_1, x1_1, x5_1, rfl, rfl, HA, HK1, HO_0, HK, HB⟩ := hrel
    cases gk with
    | zero => exact absurd HA.out (by simp [laws_markIntS.l0])
    | succ k1 =>
      have H := HA.out
      clear HA
      simp only [laws_markIntS.l0] at H
      by_cases c3 : x5_1 < (x0_1.length : Int)
      · rw [if_pos c3] at H
        have c3b0 : decide (x5_1 < (x0_1.length : Int)) = true := decide_eq_true c3
        clear c3
        by_cases c4 : 0 ≤ x5_1
        · rw [if_pos c4] at H
          have c4b0 : decide (0 ≤ x5_1) = true := decide_eq_true c4
          clear c4
          obtain ⟨y156, hy156⟩ : ∃ y_ : List Int, y_ = (x0_1.set (x5_1 : Int).toNat x1_1) := ⟨_, rfl⟩
          replace H : (laws_markIntS.l0 k1 y156 (wrap64 (x1_1 + 1)) (wrap64 (x5_1 + 1))) = some (r1, r2) := by first | (rw [hy156]; with_reducible exact H) | (have H2_ := (Option.bind_some _ _).symm.trans H; rw [hy156]; with_reducible exact H2_) | (have H2_ := (Option.bind_some _ _).symm.trans H; with_reducible exact H2_) | with_reducible exact H | (rw [hy156]; exact H) | exact H
          have Ny156 := Aside0.mk hy156
          clear hy156
          have H' := Aside0.mk H
          clear H
          obtain ⟨Ao6, co6, eo6⟩ := Kd.R_slice HO_0.out
          subst eo6
          have p5 : 0 ≤ (x5_1 : Int) := of_decide_eq_true (by first | (with_reducible assumption) | assumption)
          have q5 : (x5_1 : Int) < ((x0_1.length : Int) : Int) := of_decide_eq_true (by first | (with_reducible assumption) | assumption)
          obtain ⟨go5, co5, eo5, gb5, gl5, cl5, HG5⟩ := Kd.R_form HO_0.out (by omega)
          (first | cases eo5 | (injection eo5 with ea_ en_ ec_; (first | subst ea_ | (injection ea_ with ea_; subst ea_)); subst ec_; clear en_))
          have GB5 := Aside0.mk gb5
          have GG5 := Aside0.mk HG5
          clear gb5 gl5 HG5
          have HMgo5 := Aside0.mk (show (P0_ go5 ∨ w.heap.size ≤ go5) from (HO_0.out.1 _ rfl))
          obtain ⟨hx5_0, hf5_0⟩ := Kd.R_celln 0 HO_0.out (x5_1 : Int) p5 q5
          replace p5 := eq_true p5
          replace q5 := eq_true q5
          have HP7 := Kd.R_putg HO_0.out (x5_1 : Int) x1_1
          go_wp2_with (first | ((with_reducible refine gate_store (t := 3) (p := 15) rfl ?_); refine store_event (t := 3) (p := 15) (v := ?vo_w8) (w1 := (wr.setCell ⟨go5, (x5_1 : Int).toNat, none⟩ (.int .i64 x1_1))) ?hg ?ho ?hn ?hr ?_; (case ho => rfl); (case hg => rfl); (case hn => rfl); (case hr => first | (go_simp; done) | (go_simp; rfl)); intro w8 hw; have hg : wr.grownBy w8 (some go5) := (by rw [hw]; exact HP7.2); have hp_ : Kd.R (Kd.int .i64) 3 w8 w0.heap.size (fun k_ => (P0_ k_ ∨ w.heap.size ≤ k_)) (.slice (some ⟨go5, 0, none⟩) x0_1.length co6) y156 := (by rw [hw, Ny156.out]; exact HP7.1); clear HP7; have n0_ := Aside0.mk (hp_); have n1_ := Aside0.mk ((by rw [hw]; exact below_set (HB.out) GB5.out : Below w0.heap.size w0 w8)); have n2_ := Aside0.mk (Kept.of_grown (S := (fun k_ => P0_ k_)) hg (by repeat (first | (with_reducible first | exact HK.out | apply Kept.alloc | apply Kept.drewN | apply Kept.drew) | exact HK.out)) (fun k_ e_ => (HO_0.out.1 k_ e_))); clear HO_0; clear HB; clear HK; have HO_0 := n0_; have HB := n1_; have HK := n2_; clear n0_ n1_ n2_; clear hg hw hp_))
          go_roundg k1
          case measure => have := HK1.out; omega
          case rel => exact ⟨(y156), (wrap64 (x1_1 + 1)), (wrap64 (x5_1 + 1)), (by first | rfl | (simp; done) | (simp [*]; done)), (by first | rfl | (simp; done) | (simp [*]; done)), H', ⟨by have := HK1.out; omega⟩, ⟨by (with_reducible repeat (first | apply Kd.R_alloc | apply Kd.R_drewN | apply Kd.R_drew)); exact HO_0.out⟩, ⟨by repeat (first | (with_reducible first | exact HK.out | apply Kept.alloc | apply Kept.drewN | apply Kept.drew) | exact HK.out)⟩, ⟨by repeat (first | (with_reducible first | exact HB.out | apply below_alloc | apply pw_below_drewN | apply below_drew1) | exact HB.out)⟩⟩
        · rw [if_neg c4] at H
          exact absurd H (by simp)
      · rw [if_neg c3] at H
        have c3b0 : decide (x5_1 < (x0_1.length : Int)) = false := decide_eq_false c3
        clear c3
        simp only [Option.some.injEq, Prod.mk.injEq] at H
        obtain ⟨rfl, rfl⟩ := H
        obtain ⟨Ao9, co9, eo9⟩ := Kd.R_slice HO_0.out
        subst eo9
        go_wp2
        go_ret
        exact ⟨by first | rfl | (simp [errW_none, errW_some] <;> rfl) | (simp [*, errW_none, errW_some] <;> rfl), by (with_reducible repeat (first | apply Kd.R_alloc | apply Kd.R_drewN | apply Kd.R_drew)); exact HO_0.out, by repeat (first | (with_reducible first | exact HB.out | apply below_alloc | apply pw_below_drewN | apply below_drew1) | exact HB.out), by repeat (first | (with_reducible first | exact HK.out | apply Kept.alloc | apply Kept.drewN | apply Kept.drew) | exact HK.out)⟩
end Go.Proofs.Ytgldcbcefncjjaa.F
end
section
/- Laid by a program of this claim's own. What the Go function does, as a Lean function, and the proof that the Go code does just that; Lean checks it. -/
namespace Go.Proofs.Ytgldcbcefncjjaa.F
open Go.RowKit Go.Proofs.YtgldcbcefncjjaaW.PrintWords Go.Proofs.YtgldcbcefncjjaaW.PrintLast Go.Proofs.YtgldcbcefncjjaaW.PrintMore
attribute [local go_sem] max2_int min2_int max_two min_two max_three min_three max_four min_four   -- for this text's walks alone
set_option linter.unusedVariables false
set_option linter.unusedSimpArgs false
/-! ### laws_heldIntS: function 27 -/
def laws_heldIntS.l0 : Nat → List Int → Int → Int → Option (Int)
  | 0, _, _, _ => none
  | k + 1, x0, x1, x5 => if x5 < (x0.length : Int) then (if 0 ≤ x5 then (if (rd x0 x5) = x1 then (laws_heldIntS.l0 k x0 (wrap64 (x1 + 1)) (wrap64 (x5 + 1))) else (some (-1))) else (none)) else (some x1)
def laws_heldIntS.f (k : Nat) (l0 : List Int) (a1 : Int) : Option (Int) := laws_heldIntS.l0 k l0 a1 0
set_option maxHeartbeats 8000000 in
set_option maxRecDepth 100000 in
theorem laws_heldIntS.calls (k : Nat) (A0 : Option Addr) (c0 : Nat) (l0 : List Int) (a1 : Int) (r : Int) (w : World) (hr0 : Kd.C (Kd.int .i64) w A0 l0.length l0) (hc0 : l0.length ≤ c0) (h : laws_heldIntS.f k l0 a1 = some r) :
    Calls Try.prog 27 #[.slice A0 l0.length c0, .int .i64 a1] w fun e w' => e = .returned (.int .i64 r) ∧ Drawn0 w w' := by
  have HR0 := Aside0.mk hr0
  have HC0 := Aside0.mk hc0
  clear hr0 hc0
  have H : (laws_heldIntS.l0 k l0 a1 0) = some r := h
  clear h
  have H' := Aside0.mk H
  clear H
  go_enter Try.func27, Try.ntmps27
  go_wp2
  go_loopg [1, 5] k (fun kq v1 v5 w' => ∃ (x1_1 : Int) (x5_1 : Int), v1 = .int .i64 x1_1 ∧ v5 = .int .i64 x5_1 ∧ Aside0 (laws_heldIntS.l0 kq l0 x1_1 x5_1 = some r) ∧ Aside0 (kq ≤ k) ∧ Drawn0 w w')
  case atStart => exact ⟨(a1), (0), (by first | rfl | (simp; done) | (simp [*]; done)), (by first | rfl | (simp; done) | (simp [*]; done)), H', ⟨Nat.le_refl _⟩, by repeat (first | exact Drawn0.refl _ | apply Drawn0.step)⟩
  case round =>
    clear H'
    try clear c2
    try clear p2
    obtain ⟨x1_1, x5_1, rfl, rfl, HA, HK1, ⟨m1, rfl⟩⟩ := hrel
    cases gk with
    | zero => exact absurd HA.out (by simp [laws_heldIntS.l0])
    | succ k1 =>
      have H := HA.out
      clear HA
      simp only [laws_heldIntS.l0] at H
      by_cases c3 : x5_1 < (l0.length : Int)
      · rw [if_pos c3] at H
        have c3b0 : decide (x5_1 < (l0.length : Int)) = true := decide_eq_true c3
        clear c3
        by_cases c4 : 0 ≤ x5_1
        · rw [if_pos c4] at H
          have c4b0 : decide (0 ≤ x5_1) = true := decide_eq_true c4
          clear c4
          by_cases c5 : (rd l0 x5_1) = x1_1
          · rw [if_pos c5] at H
            have c5b0 : ((rd l0 x5_1) == x1_1) = true := beq_iff_eq.mpr c5
            have c5b1 : ((rd l0 x5_1) != x1_1) = false := bne_eq_false_iff_eq.mpr c5
            clear c5
            have H' := Aside0.mk H
            clear H
            have p160 : 0 ≤ (x5_1 : Int) := of_decide_eq_true (by first | (with_reducible assumption) | assumption)
            have q160 : x5_1 < (l0.length : Int) := of_decide_eq_true (by first | (with_reducible assumption) | assumption)
            obtain ⟨ad160, e160, hx160_0⟩ := Kd.at_int HR0.out x5_1 p160 q160
            cases e160
            replace p160 := eq_true p160
            replace q160 := eq_true q160
            go_wp2
            go_roundg k1
            case measure => have := HK1.out; omega
            case rel => exact ⟨(wrap64 (x1_1 + 1)), (wrap64 (x5_1 + 1)), (by first | rfl | (simp; done) | (simp [*]; done)), (by first | rfl | (simp; done) | (simp [*]; done)), H', ⟨by have := HK1.out; omega⟩, by repeat (first | exact Drawn0.refl _ | apply Drawn0.step)⟩
          · rw [if_neg c5] at H
            have c5b0 : ((rd l0 x5_1) == x1_1) = false := beq_eq_false_iff_ne.mpr c5
            have c5b1 : ((rd l0 x5_1) != x1_1) = true := bne_iff_ne.mpr c5
            obtain rfl := Option.some.inj H
            have p160 : 0 ≤ (x5_1 : Int) := of_decide_eq_true (by first | (with_reducible assumption) | assumption)
            have q160 : x5_1 < (l0.length : Int) := of_decide_eq_true (by first | (with_reducible assumption) | assumption)
            obtain ⟨ad160, e160, hx160_0⟩ := Kd.at_int HR0.out x5_1 p160 q160
            cases e160
            replace p160 := eq_true p160
            replace q160 := eq_true q160
            go_wp2
            go_ret
            exact ⟨by first | rfl | (simp; done) | (simp [*]; done), by repeat (first | exact Drawn0.refl _ | apply Drawn0.step)⟩
        · rw [if_neg c4] at H
          exact absurd H (by simp)
      · rw [if_neg c3] at H
        have c3b0 : decide (x5_1 < (l0.length : Int)) = false := decide_eq_false c3
        clear c3
        obtain rfl := Option.some.inj H
        go_wp2
        go_ret
        exact ⟨by first | rfl | (simp; done) | (simp [*]; done), by repeat (first | exact Drawn0.refl _ | apply Drawn0.step)⟩
end Go.Proofs.Ytgldcbcefncjjaa.F
end
section
/- What the laws' own helpers tell: equality, a copy, marks and whether they are held. -/
namespace Go.Proofs.Ytgldcbcefncjjaa.F
open Go.RowKit Go.Proofs.YtgldcbcefncjjaaW.PrintWords Go.Proofs.YtgldcbcefncjjaaW.PrintLast Go.Proofs.YtgldcbcefncjjaaW.PrintMore
set_option linter.unusedVariables false
set_option linter.unusedSimpArgs false
theorem eqIntS_at (rest : List Int) : ∀ (pre : List Int) (ys : List Int), (pre ++ ys).length ≤ 4611686018427387904 → rest.length = ys.length →
    Ev (fun k => laws_eqIntS.l0 k (pre ++ rest) (pre ++ ys) (pre.length : Int)) (decide (rest = ys)) := by
  induction rest with
  | nil =>
    intro pre ys hb hl
    obtain rfl : ys = [] := List.eq_nil_of_length_eq_zero hl.symm
    exact Ev.step (f := fun _ => some true) (fun k => by rw [laws_eqIntS.l0, if_neg (mid_nlt _)]) (Ev.now _)
  | cons x rest ih =>
    intro pre ys hb hl
    cases ys with
    | nil => simp at hl
    | cons y ys =>
      by_cases e : x = y
      · subst e
        have h := ih (pre ++ [x]) ys (by simpa using hb) (by simpa using hl)
        rw [← mid_cons, ← mid_cons] at h
        rw [show decide (x :: rest = x :: ys) = decide (rest = ys) by simp]
        exact Ev.step (fun k => by rw [laws_eqIntS.l0, if_pos (mid_lt _ _ _), if_pos (nn _), if_pos (mid_lt _ _ _), mid_rd, mid_rd, if_pos rfl, mid_succ pre x (by simp at hb; omega)]) h
      · rw [show decide (x :: rest = y :: ys) = false by simp [e]]
        exact Ev.step (f := fun _ => some false) (fun k => by rw [laws_eqIntS.l0, if_pos (mid_lt _ _ _), if_pos (nn _), if_pos (mid_lt _ _ _), mid_rd, mid_rd, if_neg e]) (Ev.now _)
theorem eqIntS_ev (l m : List Int) (hl : l.length ≤ 4611686018427387904) : Ev (fun k => laws_eqIntS.f k l m) (decide (l = m)) := by
  unfold laws_eqIntS.f
  by_cases e : (l.length : Int) = (m.length : Int)
  · have h := eqIntS_at l [] m (by simp; omega) (by omega)
    simpa [e] using h
  · have e2 : ¬ l = m := fun h => e (by rw [h])
    simp only [if_neg e, e2, decide_false]
    exact Ev.now _
theorem eqIntS_same (l : List Int) (hl : l.length ≤ 4611686018427387904) : Ev (fun k => laws_eqIntS.f k l l) true := by
  have := eqIntS_ev l l hl
  simpa using this
theorem toIntS_at (rest : List Int) : ∀ (pre zs : List Int), (pre ++ rest).length ≤ 4611686018427387904 → zs.length = rest.length →
    Ev (fun k => laws_toIntS.l0 k (pre ++ rest) (pre ++ zs) (pre.length : Int)) (pre ++ rest) := by
  induction rest with
  | nil =>
    intro pre zs hb hl
    obtain rfl : zs = [] := List.eq_nil_of_length_eq_zero hl
    exact Ev.step (f := fun _ => some (pre ++ [])) (fun k => by rw [laws_toIntS.l0, if_neg (mid_nlt _)]) (Ev.now _)
  | cons x rest ih =>
    intro pre zs hb hl
    cases zs with
    | nil => simp at hl
    | cons z zs =>
      have h := ih (pre ++ [x]) zs (by simpa using hb) (by simpa using hl)
      rw [← mid_cons] at h
      exact Ev.step (fun k => by rw [laws_toIntS.l0, if_pos (mid_lt _ _ _), if_pos (nn _), if_pos (mid_lt _ _ _), mid_rd, mid_set, mid_succ pre x (by simp at hb; omega)]) h
theorem toIntS_ev (l : List Int) (hl : l.length ≤ 35184372088832) : Ev (fun k => laws_toIntS.f k l) l := by
  unfold laws_toIntS.f
  have h := toIntS_at l [] (List.replicate l.length 0) (by simp; omega) (by simp)
  have e2 : (0 : Int) ≤ (l.length : Int) := nn _
  simpa [hl] using h
theorem markIntS_at (rest : List Int) : ∀ (pre : List Int) (a : Int), (pre ++ rest).length ≤ 4611686018427387904 → 0 ≤ a → a + rest.length ≤ 4611686018427387904 →
    Ev (fun k => laws_markIntS.l0 k (pre ++ rest) a (pre.length : Int)) (a + rest.length, pre ++ seqFrom a rest.length) := by
  induction rest with
  | nil =>
    intro pre a hb h0 h1
    refine Ev.step (f := fun _ => some (a + 0, pre ++ [])) (fun k => ?_) ?_
    · rw [laws_markIntS.l0, if_neg (mid_nlt _)]
      simp
    · simpa [seqFrom] using Ev.now _
  | cons x rest ih =>
    intro pre a hb h0 h1
    have h := ih (pre ++ [a]) (a + 1) (by simpa using hb) (by omega) (by simp at h1; omega)
    have e : (a + ((x :: rest).length : Int), pre ++ seqFrom a (x :: rest).length) = (a + 1 + (rest.length : Int), pre ++ [a] ++ seqFrom (a + 1) rest.length) := by
      simp [seqFrom]
      omega
    rw [e]
    exact Ev.step (fun k => by rw [laws_markIntS.l0, if_pos (mid_lt _ _ _), if_pos (nn _), mid_set, w64_id (by omega) (by simp at h1; omega), mid_succ pre a (by simp at hb; omega)]) h
theorem markIntS_ev (l : List Int) (a : Int) (hl : l.length ≤ 1152921504606846976) (h0 : 0 ≤ a) (h1 : a ≤ 1152921504606846976) : Ev (fun k => laws_markIntS.f k l a) (a + l.length, seqFrom a l.length) := by
  unfold laws_markIntS.f
  have h := markIntS_at l [] a (by simp; omega) h0 (by omega)
  simpa using h
theorem heldIntS_at (n : Nat) : ∀ (pre : List Int) (a : Int), (pre ++ seqFrom a n).length ≤ 4611686018427387904 → 0 ≤ a → a + n ≤ 4611686018427387904 →
    Ev (fun k => laws_heldIntS.l0 k (pre ++ seqFrom a n) a (pre.length : Int)) (a + n) := by
  induction n with
  | zero =>
    intro pre a hb h0 h1
    refine Ev.step (f := fun _ => some (a + 0)) (fun k => ?_) ?_
    · show laws_heldIntS.l0 (k + 1) (pre ++ []) a _ = _
      rw [laws_heldIntS.l0, if_neg (mid_nlt _)]
      simp
    · simpa using Ev.now _
  | succ n ih =>
    intro pre a hb h0 h1
    have h := ih (pre ++ [a]) (a + 1) (by simpa [seqFrom] using hb) (by omega) (by omega)
    rw [← mid_cons] at h
    have e : a + ((n + 1 : Nat) : Int) = a + 1 + (n : Int) := by omega
    rw [e]
    refine Ev.step (fun k => ?_) h
    show laws_heldIntS.l0 (k + 1) (pre ++ a :: seqFrom (a + 1) n) a _ = _
    rw [laws_heldIntS.l0, if_pos (mid_lt _ _ _), if_pos (nn _), mid_rd, if_pos rfl, w64_id (by omega) (by omega), mid_succ pre a (by simp at hb; omega)]
theorem heldIntS_ev (n : Nat) (a : Int) (hl : n ≤ 1152921504606846976) (h0 : 0 ≤ a) (h1 : a ≤ 1152921504606846976) : Ev (fun k => laws_heldIntS.f k (seqFrom a n) a) (a + n) := by
  unfold laws_heldIntS.f
  have h := heldIntS_at n [] a (by simp [seqFrom_length]; omega) h0 (by omega)
  simpa using h
end Go.Proofs.Ytgldcbcefncjjaa.F
end
section
/- The laws' size check of a list. -/
namespace Go.Proofs.Ytgldcbcefncjjaa.F
open Go.RowKit Go.Proofs.YtgldcbcefncjjaaW.PrintWords Go.Proofs.YtgldcbcefncjjaaW.PrintLast Go.Proofs.YtgldcbcefncjjaaW.PrintMore
set_option linter.unusedVariables false
set_option linter.unusedSimpArgs false
theorem szIntS_eq (x : List Int) (a : Int) (h0 : 0 ≤ a) (h1 : a ≤ 1152921504606846976) (hx : x.length ≤ 1152921504606846976) : laws_szIntS.f x a = some (if a - x.length < 0 then -1 else a - x.length) := by
  unfold laws_szIntS.f
  rw [w64_id (by omega) (by omega)]
  split <;> rfl
end Go.Proofs.Ytgldcbcefncjjaa.F
end
section
/- The laws' helpers on lists of nodes. -/
namespace Go.Proofs.Ytgldcbcefncjjaa.F
open Go.RowKit Go.Proofs.YtgldcbcefncjjaaW.PrintWords Go.Proofs.YtgldcbcefncjjaaW.PrintLast Go.Proofs.YtgldcbcefncjjaaW.PrintMore
set_option linter.unusedVariables false
set_option linter.unusedSimpArgs false
abbrev LN := S66
abbrev IN := S49
def conv (x : LN) : IN := ⟨x.f0, x.f1, x.f2⟩
def weighN (l : List LN) : Nat := (l.map fun x => x.f0.size + x.f1.length).sum
theorem weighN_cons (x : LN) (l : List LN) : weighN (x :: l) = x.f0.size + x.f1.length + weighN l := by simp [weighN]
theorem mid_rdLN (pre : List LN) (x : LN) (rest : List LN) : rd_T66 (pre ++ x :: rest) (pre.length : Int) = x := by
  unfold rd_T66
  simp
theorem mid_rdIN (pre : List IN) (x : IN) (rest : List IN) : rd_T49 (pre ++ x :: rest) (pre.length : Int) = x := by
  unfold rd_T49
  simp
theorem szNode_eq (x : LN) (a : Int) (h0 : 0 ≤ a) (h1 : a ≤ 1152921504606846976) (hs : x.f0.size ≤ 1152921504606846976) (hx : x.f1.length ≤ 1152921504606846976) :
    ∃ r, laws_szNode.f x.f0 x.f1 x.f2 a = some r ∧ (r < 0 ∨ r = a - (x.f0.size : Int) - (x.f1.length : Int)) := by
  unfold laws_szNode.f
  rw [w64_id (show -9223372036854775808 ≤ a - (x.f0.size : Int) by omega) (by omega)]
  by_cases c : a - (x.f0.size : Int) < 0
  · exact ⟨-1, by rw [if_pos c], Or.inl (by omega)⟩
  · rw [if_neg c, szIntS_eq x.f1 _ (by omega) (by omega) hx, Option.bind_some]
    by_cases d : a - (x.f0.size : Int) - (x.f1.length : Int) < 0
    · exact ⟨-1, by rw [if_pos d, if_pos (by omega)], Or.inl (by omega)⟩
    · exact ⟨_, by rw [if_neg d, if_neg d], Or.inr rfl⟩
theorem szNodeS_at (rest : List LN) : ∀ (pre : List LN) (a : Int), (pre ++ rest).length ≤ 1152921504606846976 → 0 ≤ a → a ≤ 1152921504606846976 → (∀ x ∈ rest, x.f0.size ≤ 1152921504606846976 ∧ x.f1.length ≤ 1152921504606846976) →
    ∃ r : Int, Ev (fun k => laws_szNodeS.l0 k (pre ++ rest) a (pre.length : Int)) r ∧ (r < 0 ∨ (0 ≤ r ∧ (weighN rest : Int) ≤ a)) := by
  induction rest with
  | nil =>
    intro pre a hb h0 h1 hx
    refine ⟨a, Ev.step (f := fun _ => some a) (fun k => ?_) (Ev.now _), Or.inr ⟨h0, by simpa [weighN] using h0⟩⟩
    show laws_szNodeS.l0 (k + 1) _ a _ = _
    rw [laws_szNodeS.l0, if_neg (mid_nlt _)]
  | cons x rest ih =>
    intro pre a hb h0 h1 hx
    have hxl := hx x (by simp)
    obtain ⟨q, hz, hq⟩ := szNode_eq x a h0 h1 hxl.1 hxl.2
    by_cases c : q < 0
    · refine ⟨-1, Ev.step (f := fun _ => some (-1)) (fun k => ?_) (Ev.now _), Or.inl (by omega)⟩
      show laws_szNodeS.l0 (k + 1) _ a _ = _
      rw [laws_szNodeS.l0, if_pos (mid_lt _ _ _), if_pos (nn _), mid_rdLN, hz, Option.bind_some, if_pos c]
    · have hq' := hq.resolve_left c
      obtain ⟨r, h, hr⟩ := ih (pre ++ [x]) q (by simpa using hb) (by omega) (by omega) (fun y hy => hx y (by simp [hy]))
      rw [← mid_cons, ← mid_succ pre x (by simp at hb; omega)] at h
      refine ⟨r, Ev.step (fun k => ?_) h, ?_⟩
      · show laws_szNodeS.l0 (k + 1) _ a _ = _
        rw [laws_szNodeS.l0, if_pos (mid_lt _ _ _), if_pos (nn _), mid_rdLN, hz, Option.bind_some, if_neg c]
      · rcases hr with hr | ⟨h2, h3⟩
        · exact Or.inl hr
        · refine Or.inr ⟨h2, ?_⟩
          rw [weighN_cons]
          omega
theorem szNodeS_ev (l : List LN) (a : Int) (h0 : 0 ≤ a) (h1 : a ≤ 1152921504606846976) (hb : l.length ≤ 1152921504606846976) (hx : ∀ x ∈ l, x.f0.size ≤ 1152921504606846976 ∧ x.f1.length ≤ 1152921504606846976) :
    ∃ r : Int, Ev (fun k => laws_szNodeS.f k l a) r ∧ (r < 0 ∨ (0 ≤ r ∧ (l.length : Int) + (weighN l : Int) ≤ a)) := by
  unfold laws_szNodeS.f
  rw [w64_id (show -9223372036854775808 ≤ a - (l.length : Int) by omega) (by omega)]
  by_cases c : a - (l.length : Int) < 0
  · exact ⟨-1, by simp only [if_pos c]; exact Ev.now _, Or.inl (by omega)⟩
  · obtain ⟨r, h, hr⟩ := szNodeS_at l [] (a - l.length) hb (by omega) (by omega) hx
    refine ⟨r, by simp only [if_neg c]; exact h, ?_⟩
    rcases hr with hr | ⟨h2, h3⟩
    · exact Or.inl hr
    · exact Or.inr ⟨h2, by omega⟩
theorem weighN_mem (l : List LN) : ∀ x ∈ l, x.f1.length ≤ weighN l := by
  induction l with
  | nil => intro x hx; simp at hx
  | cons y l ih =>
    intro x hx
    rw [weighN_cons]
    rcases List.mem_cons.mp hx with rfl | hx
    · omega
    · have := ih x hx
      omega
theorem toNode_ev (x : LN) (hx : x.f1.length ≤ 35184372088832) : Ev (fun k => laws_toNode.f k x.f0 x.f1 x.f2) (x.f0, x.f1, x.f2) := by
  unfold laws_toNode.f
  exact Ev.bind (toIntS_ev x.f1 hx) (Ev.now _)
theorem toNodeS_at (rest : List LN) : ∀ (pre : List LN) (out zs : List IN), (pre ++ rest).length ≤ 4611686018427387904 → out.length = pre.length → zs.length = rest.length → (∀ x ∈ rest, x.f1.length ≤ 35184372088832) →
    Ev (fun k => laws_toNodeS.l0 k (pre ++ rest) (out ++ zs) (pre.length : Int)) (out ++ rest.map conv) := by
  induction rest with
  | nil =>
    intro pre out zs hb ho hz hx
    obtain rfl : zs = [] := List.eq_nil_of_length_eq_zero hz
    refine Ev.step (f := fun _ => some (out ++ [])) (fun k => ?_) (Ev.now _)
    show laws_toNodeS.l0 (k + 1) _ _ _ = _
    rw [laws_toNodeS.l0, if_neg (mid_nlt _)]
  | cons x rest ih =>
    intro pre out zs hb ho hz hx
    cases zs with
    | nil => simp at hz
    | cons z zs =>
      have h := ih (pre ++ [x]) (out ++ [conv x]) zs (by simpa using hb) (by simpa using ho) (by simpa using hz) (fun y hy => hx y (by simp [hy]))
      rw [← mid_cons, ← mid_succ pre x (by simp at hb; omega)] at h
      refine Ev.stepb (toNode_ev x (hx x (by simp))) (fun k => by rw [laws_toNodeS.l0, if_pos (mid_lt _ _ _), if_pos (nn _), mid_rdLN]) ?_
      have e : (pre.length : Int) < ((out ++ z :: zs).length : Int) := by simp; omega
      have e2 : (out ++ z :: zs).set ((pre.length : Int)).toNat (conv x) = (out ++ [conv x]) ++ zs := by rw [← ho]; exact mid_set _ _ _ _
      simp only [if_pos e]
      rw [show (⟨x.f0, x.f1, x.f2⟩ : IN) = conv x from rfl, e2, List.map_cons]
      simpa using h
theorem toNodeS_ev (l : List LN) (hb : l.length ≤ 5864062014805) (hx : ∀ x ∈ l, x.f1.length ≤ 35184372088832) : Ev (fun k => laws_toNodeS.f k l) (l.map conv) := by
  unfold laws_toNodeS.f
  simp only [if_pos (nn l.length), Int.toNat_natCast, if_pos hb]
  exact toNodeS_at l [] [] (List.replicate l.length z49) (by simp; omega) rfl (by simp) hx
theorem eqNode_same (x : IN) (hx : x.f1.length ≤ 4611686018427387904) : Ev (fun k => laws_eqNode.f k x.f0 x.f1 x.f2 x.f0 x.f1 x.f2) true := by
  unfold laws_eqNode.f
  simp only [if_true]
  refine Ev.bind (eqIntS_same x.f1 hx) ?_
  simp only [if_true]
  exact Ev.now _
theorem eqNodeS_at (rest : List IN) : ∀ (pre : List IN), (pre ++ rest).length ≤ 4611686018427387904 → (∀ x ∈ rest, x.f1.length ≤ 4611686018427387904) →
    Ev (fun k => laws_eqNodeS.l0 k (pre ++ rest) (pre ++ rest) (pre.length : Int)) true := by
  induction rest with
  | nil =>
    intro pre hb hx
    refine Ev.step (f := fun _ => some true) (fun k => ?_) (Ev.now _)
    show laws_eqNodeS.l0 (k + 1) _ _ _ = _
    rw [laws_eqNodeS.l0, if_neg (mid_nlt _)]
  | cons x rest ih =>
    intro pre hb hx
    have h := ih (pre ++ [x]) (by simpa using hb) (fun y hy => hx y (by simp [hy]))
    rw [← mid_cons, ← mid_succ pre x (by simp at hb; omega)] at h
    refine Ev.stepb (eqNode_same x (hx x (by simp))) (fun k => by rw [laws_eqNodeS.l0, if_pos (mid_lt _ _ _), if_pos (nn _), if_pos (mid_lt _ _ _), mid_rdIN]) ?_
    simp only [if_true]
    exact h
theorem eqNodeS_same (l : List IN) (hb : l.length ≤ 4611686018427387904) (hx : ∀ x ∈ l, x.f1.length ≤ 4611686018427387904) : Ev (fun k => laws_eqNodeS.f k l l) true := by
  unfold laws_eqNodeS.f
  simp only [if_true]
  exact eqNodeS_at l [] hb hx
end Go.Proofs.Ytgldcbcefncjjaa.F
end
section
/- Cards, and when a list is a packet: the program's and the reference's functions tell one thing. -/
namespace Go.Proofs.Ytgldcbcefncjjaa.F
open Go.RowKit Go.Proofs.YtgldcbcefncjjaaW.PrintWords Go.Proofs.YtgldcbcefncjjaaW.PrintLast Go.Proofs.YtgldcbcefncjjaaW.PrintMore
set_option linter.unusedVariables false
set_option linter.unusedSimpArgs false
theorem l01In_eq (a b c : Int) : spec_l01In.f a b c = some (decide (b ≤ a ∧ a ≤ c)) := by
  unfold spec_l01In.f
  by_cases h : b ≤ a
  · simp [h]
  · simp [h]
theorem l02Has_at (x : Int) (rest : List Int) : ∀ (pre : List Int), (pre ++ rest).length ≤ 4611686018427387904 →
    Ev (fun k => spec_l02Has.l0 k x (pre ++ rest) ((pre ++ rest).length : Int) (pre.length : Int)) (rest.contains x) := by
  induction rest with
  | nil =>
    intro pre hb
    exact Ev.step (f := fun _ => some false) (fun k => by rw [spec_l02Has.l0, if_neg (mid_nlt _)]) (Ev.now _)
  | cons y rest ih =>
    intro pre hb
    by_cases e : y = x
    · subst e
      simp only [List.contains_cons, beq_self_eq_true, Bool.true_or]
      exact Ev.step (f := fun _ => some true) (fun k => by rw [spec_l02Has.l0, if_pos (mid_lt _ _ _), if_pos (nn _), if_pos (mid_lt _ _ _), mid_rd, if_pos rfl]) (Ev.now _)
    · have h := ih (pre ++ [y]) (by simpa using hb)
      rw [← mid_cons] at h
      rw [show (y :: rest).contains x = rest.contains x by simp only [List.contains_cons]; rw [show (x == y) = false by simpa using fun h => e h.symm]; rfl]
      exact Ev.step (fun k => by rw [spec_l02Has.l0, if_pos (mid_lt _ _ _), if_pos (nn _), if_pos (mid_lt _ _ _), mid_rd, if_neg e, mid_succ pre y (by simp at hb; omega)]) h
theorem l02Has_ev (l : List Int) (x : Int) (hb : l.length ≤ 4611686018427387904) : Ev (fun k => spec_l02Has.f k l x) (l.contains x) := l02Has_at x l [] hb
end Go.Proofs.Ytgldcbcefncjjaa.F
end
section
/- When a list of nodes is a force: the program's and the reference's check. -/
namespace Go.Proofs.Ytgldcbcefncjjaa.F
open Go.RowKit Go.Proofs.YtgldcbcefncjjaaW.PrintWords Go.Proofs.YtgldcbcefncjjaaW.PrintLast Go.Proofs.YtgldcbcefncjjaaW.PrintMore
set_option linter.unusedVariables false
set_option linter.unusedSimpArgs false
def nextM (i n : Int) : List Int → List Int → Option (List Int)
  | [], c => some c
  | v :: vs, c => if i < v ∧ v < n then nextM i n vs (c.set v.toNat (wrap64 (rd c v + 1))) else none
def nodeB (x : IN) : Bool := decide (0 ≤ x.f2) && (decide (x.f1.length = 0) || decide (x.f2 = 0))
def forceM (n : Int) : Int → List IN → List Int → Option (List Int)
  | _, [], c => some c
  | i, x :: xs, c => if nodeB x = true then (nextM i n x.f1 c).bind (forceM n (i + 1) xs) else none
def finB (c : List Int) : Bool := (c.drop 1).all (· == 1)
def forceR (o : Option (List Int)) : Bool := match o with | none => false | some c => finB c
def forceB (l : List IN) : Bool := decide (1 ≤ (l.length : Int) ∧ (l.length : Int) ≤ 40) && forceR (forceM l.length 0 l (List.replicate l.length 0))
theorem nextM_len (i n : Int) (vs : List Int) : ∀ (c c' : List Int), nextM i n vs c = some c' → c'.length = c.length := by
  induction vs with
  | nil => intro c c' h; simp [nextM] at h; rw [h]
  | cons v vs ih =>
    intro c c' h
    unfold nextM at h
    by_cases q : i < v ∧ v < n
    · rw [if_pos q] at h
      rw [ih _ _ h, List.length_set]
    · rw [if_neg q] at h
      exact absurd h (by simp)
theorem impl_next_at (X : List IN) (i : Int) (hi : 0 ≤ i) (r : Bool) (rest : List Int) : ∀ (pre c : List Int), (pre ++ rest).length ≤ 4611686018427387904 → c.length = X.length →
    (match nextM i X.length rest c with | none => r = false | some c' => Ev (fun k => impl_ForceOk.l0 k X c' X (X.length : Int) (wrap64 (i + 1))) r) →
    Ev (fun k => impl_ForceOk.l1 k X c i X (X.length : Int) i (pre ++ rest) ((pre ++ rest).length : Int) (pre.length : Int)) r := by
  induction rest with
  | nil =>
    intro pre c hb hc h
    simp only [nextM] at h
    refine Ev.step (fun k => ?_) h
    show impl_ForceOk.l1 (k + 1) X c i X _ i _ _ _ = _
    rw [impl_ForceOk.l1, if_neg (mid_nlt _)]
  | cons v rest ih =>
    intro pre c hb hc h
    unfold nextM at h
    by_cases q : i < v ∧ v < (X.length : Int)
    · rw [if_pos q] at h
      have h2 := ih (pre ++ [v]) _ (by simpa using hb) (by rw [List.length_set]; exact hc) h
      rw [← mid_cons, ← mid_succ pre v (by simp at hb; omega)] at h2
      refine Ev.step (fun k => ?_) h2
      show impl_ForceOk.l1 (k + 1) X c i X _ i _ _ _ = _
      rw [impl_ForceOk.l1, if_pos (mid_lt _ _ _), if_pos (nn _), if_pos (mid_lt _ _ _), mid_rd, if_neg (by omega), if_neg (by omega), if_pos (by omega), if_pos (by omega)]
    · rw [if_neg q] at h
      subst h
      refine Ev.step (f := fun _ => some false) (fun k => ?_) (Ev.now _)
      show impl_ForceOk.l1 (k + 1) X c i X _ i _ _ _ = _
      rw [impl_ForceOk.l1, if_pos (mid_lt _ _ _), if_pos (nn _), if_pos (mid_lt _ _ _), mid_rd]
      by_cases q1 : v ≤ i
      · rw [if_pos q1]
      · rw [if_neg q1, if_pos (by omega)]
theorem spec_next_at (X : List IN) (i : Int) (hi : 0 ≤ i) (hi2 : i < (X.length : Int)) (hX : X.length ≤ 1048576) (x : IN) (r : Bool) (rest : List Int) : ∀ (pre c : List Int), (pre ++ rest).length ≤ 4611686018427387904 → c.length = X.length →
    (match nextM i X.length rest c with | none => r = false | some c' => if nodeB x = true then Ev (fun k => spec_ForceOk.l0 k X c' X (X.length : Int) (wrap64 (i + 1))) r else r = false) →
    Ev (fun k => spec_ForceOk.l1 k X c i X (X.length : Int) i (pre ++ rest) ((pre ++ rest).length : Int) (pre.length : Int) x.f0 x.f1 x.f2) r := by
  induction rest with
  | nil =>
    intro pre c hb hc h
    simp only [nextM] at h
    by_cases q : nodeB x = true
    · rw [if_pos q] at h
      refine Ev.step (fun k => ?_) h
      show spec_ForceOk.l1 (k + 1) X c i X _ i _ _ _ _ _ _ = _
      unfold nodeB at q
      simp only [Bool.and_eq_true, Bool.or_eq_true, decide_eq_true_eq] at q
      rw [spec_ForceOk.l1, if_neg (mid_nlt _), if_neg (by omega)]
      by_cases z : (x.f1.length : Int) > 0
      · rw [if_pos z, if_pos (by omega)]
      · rw [if_neg z]
    · rw [if_neg q] at h
      subst h
      refine Ev.step (f := fun _ => some false) (fun k => ?_) (Ev.now _)
      show spec_ForceOk.l1 (k + 1) X c i X _ i _ _ _ _ _ _ = _
      unfold nodeB at q
      simp only [Bool.and_eq_true, Bool.or_eq_true, decide_eq_true_eq] at q
      rw [spec_ForceOk.l1, if_neg (mid_nlt _)]
      by_cases z : x.f2 < 0
      · rw [if_pos z]
      · rw [if_neg z, if_pos (by omega), if_neg (by omega)]
  | cons v rest ih =>
    intro pre c hb hc h
    unfold nextM at h
    have hw1 : wrap64 (i + 1) = i + 1 := w64_id (by omega) (by omega)
    have hw2 : wrap64 ((X.length : Int) - 1) = (X.length : Int) - 1 := w64_id (by omega) (by omega)
    by_cases q : i < v ∧ v < (X.length : Int)
    · rw [if_pos q] at h
      have h2 := ih (pre ++ [v]) _ (by simpa using hb) (by rw [List.length_set]; exact hc) h
      rw [← mid_cons, ← mid_succ pre v (by simp at hb; omega)] at h2
      refine Ev.step (fun k => ?_) h2
      show spec_ForceOk.l1 (k + 1) X c i X _ i _ _ _ _ _ _ = _
      rw [spec_ForceOk.l1, if_pos (mid_lt _ _ _), if_pos (nn _), if_pos (mid_lt _ _ _), mid_rd, l01In_eq, hw1, hw2, Option.bind_some, decide_eq_true (by omega), if_pos rfl, if_pos (by omega), if_pos (by omega)]
    · rw [if_neg q] at h
      subst h
      refine Ev.step (f := fun _ => some false) (fun k => ?_) (Ev.now _)
      show spec_ForceOk.l1 (k + 1) X c i X _ i _ _ _ _ _ _ = _
      rw [spec_ForceOk.l1, if_pos (mid_lt _ _ _), if_pos (nn _), if_pos (mid_lt _ _ _), mid_rd, l01In_eq, hw1, hw2, Option.bind_some, decide_eq_false (by omega), if_neg (by simp)]
theorem impl_force_at (rest : List IN) : ∀ (pre : List IN) (c : List Int), (pre ++ rest).length ≤ 1048576 → 1 ≤ (pre ++ rest).length → c.length = (pre ++ rest).length → (∀ x ∈ rest, x.f1.length ≤ 4611686018427387904) →
    Ev (fun k => impl_ForceOk.l0 k (pre ++ rest) c (pre ++ rest) ((pre ++ rest).length : Int) (pre.length : Int)) (forceR (forceM ((pre ++ rest).length : Int) (pre.length : Int) rest c)) := by
  induction rest with
  | nil =>
    intro pre c hb h1 hc hx
    refine Ev.step (f := fun _ => some (finB c)) (fun k => ?_) (Ev.now _)
    show impl_ForceOk.l0 (k + 1) _ c _ _ _ = _
    rw [impl_ForceOk.l0, if_neg (mid_nlt _), if_pos (by omega)]
    unfold slices_ContainsFunc_Lint_int__impl_ForceOk_1.f
    rw [Option.bind_some]
    congr 1
    unfold finB
    rw [List.all_eq_not_any_not]
    congr 2
    funext x
    unfold impl_ForceOk_1.f
    cases hx : x == 1 <;> simp_all
  | cons x rest ih =>
    intro pre c hb h1 hc hx
    have hxl := hx x (by simp)
    have key : Ev (fun k => impl_ForceOk.j2 k (pre ++ x :: rest) c (pre.length : Int) (pre ++ x :: rest) ((pre ++ x :: rest).length : Int) (pre.length : Int) (!nodeB x) x.f0 x.f1 x.f2) (forceR (forceM ((pre ++ x :: rest).length : Int) (pre.length : Int) (x :: rest) c)) := by
      by_cases q : nodeB x = true
      · simp only [forceM, if_pos q]
        rw [q]
        have hn := impl_next_at (pre ++ x :: rest) (pre.length : Int) (nn _) (forceR ((nextM (pre.length : Int) ((pre ++ x :: rest).length : Int) x.f1 c).bind (forceM ((pre ++ x :: rest).length : Int) ((pre.length : Int) + 1) rest))) x.f1 [] c (by simpa using hxl) hc (by
          cases hm : nextM (pre.length : Int) ((pre ++ x :: rest).length : Int) x.f1 c with
          | none => rfl
          | some c' =>
            have h := ih (pre ++ [x]) c' (by simpa using hb) (by simp; omega) (by rw [nextM_len _ _ _ _ _ hm, hc]; simp) (fun y hy => hx y (by simp [hy]))
            rw [← mid_cons] at h
            have e1 : ((pre ++ [x]).length : Int) = wrap64 ((pre.length : Int) + 1) := (mid_succ pre x (by simp at hb; omega)).symm
            have e2 : ((pre ++ [x]).length : Int) = (pre.length : Int) + 1 := by simp
            simp only [Option.bind_some]
            rw [e2] at h
            rw [show wrap64 ((pre.length : Int) + 1) = (pre.length : Int) + 1 by rw [← e1, e2]]
            exact h)
        refine Ev.step (fun k => ?_) hn
        show impl_ForceOk.j2 (k + 1) _ c _ _ _ _ (!true) _ _ _ = _
        rw [impl_ForceOk.j2, if_neg (by simp)]
        rfl
      · simp only [forceM, if_neg q]
        have q' : nodeB x = false := by simpa using q
        rw [q']
        refine Ev.step (f := fun _ => some false) (fun k => ?_) (Ev.now _)
        show impl_ForceOk.j2 (k + 1) _ c _ _ _ _ (!false) _ _ _ = _
        rw [impl_ForceOk.j2, if_pos (by simp)]
    refine Ev.step (fun k => ?_) key
    show impl_ForceOk.l0 (k + 1) _ c _ _ _ = _
    rw [impl_ForceOk.l0, if_pos (mid_lt _ _ _), if_pos (nn _), if_pos (mid_lt _ _ _), mid_rdIN]
    unfold nodeB
    by_cases z : x.f2 < 0
    · rw [if_pos z, decide_eq_false (show ¬ 0 ≤ x.f2 by omega)]
      rfl
    · rw [if_neg z, decide_eq_true (show 0 ≤ x.f2 by omega)]
      by_cases y : (x.f1.length : Int) > 0
      · rw [if_pos y, decide_eq_false (show ¬ x.f1.length = 0 by omega)]
        congr 1
        try (cases hz : decide (x.f2 = 0) <;> simp_all)
      · rw [if_neg y, decide_eq_true (show x.f1.length = 0 by omega)]
        try rfl
theorem spec_fin_at (rest : List Int) : ∀ (pre : List Int), pre ≠ [] → (pre ++ rest).length ≤ 1048576 →
    Ev (fun k => spec_ForceOk.l2 k (pre ++ rest) ((pre ++ rest).length : Int) (pre.length : Int)) (rest.all (· == 1)) := by
  induction rest with
  | nil =>
    intro pre hp hb
    refine Ev.step (f := fun _ => some true) (fun k => ?_) (Ev.now _)
    show spec_ForceOk.l2 (k + 1) _ _ _ = _
    rw [spec_ForceOk.l2, if_neg (mid_nlt _)]
  | cons x rest ih =>
    intro pre hp hb
    have hpos : (pre.length : Int) > 0 := by have := List.length_pos_iff.mpr hp; omega
    by_cases c : x = 1
    · have h := ih (pre ++ [x]) (by simp) (by simpa using hb)
      rw [← mid_cons, ← mid_succ pre x (by simp at hb; omega)] at h
      rw [show (x :: rest).all (· == 1) = rest.all (· == 1) by simp [c]]
      refine Ev.step (fun k => ?_) h
      show spec_ForceOk.l2 (k + 1) _ _ _ = _
      rw [spec_ForceOk.l2, if_pos (mid_lt _ _ _), if_pos (nn _), if_pos (mid_lt _ _ _), if_pos hpos, mid_rd, if_pos c]
    · rw [show (x :: rest).all (· == 1) = false by simp [c]]
      refine Ev.step (f := fun _ => some false) (fun k => ?_) (Ev.now _)
      show spec_ForceOk.l2 (k + 1) _ _ _ = _
      rw [spec_ForceOk.l2, if_pos (mid_lt _ _ _), if_pos (nn _), if_pos (mid_lt _ _ _), if_pos hpos, mid_rd, if_neg c]
theorem spec_force_at (rest : List IN) : ∀ (pre : List IN) (c : List Int), (pre ++ rest).length ≤ 1048576 → 1 ≤ (pre ++ rest).length → c.length = (pre ++ rest).length → (∀ x ∈ rest, x.f1.length ≤ 4611686018427387904) →
    Ev (fun k => spec_ForceOk.l0 k (pre ++ rest) c (pre ++ rest) ((pre ++ rest).length : Int) (pre.length : Int)) (forceR (forceM ((pre ++ rest).length : Int) (pre.length : Int) rest c)) := by
  induction rest with
  | nil =>
    intro pre c hb h1 hc hx
    have e : forceR (forceM ((pre ++ []).length : Int) (pre.length : Int) [] c) = finB c := rfl
    rw [e]
    cases c with
    | nil => rw [← hc] at h1; simp at h1
    | cons a cs =>
      have h := spec_fin_at cs [a] (by simp) (by simp only [List.singleton_append]; omega)
      refine Ev.step (f := fun k => spec_ForceOk.l2 k (a :: cs) ((a :: cs).length : Int) 0) (fun k => ?_) ?_
      · show spec_ForceOk.l0 (k + 1) _ _ _ _ _ = _
        rw [spec_ForceOk.l0, if_neg (mid_nlt _)]
      · refine Ev.step (fun k => ?_) h
        show spec_ForceOk.l2 (k + 1) _ _ _ = _
        rw [spec_ForceOk.l2, if_pos (by rw [List.length_cons]; omega), if_pos (by omega), if_pos (by rw [List.length_cons]; omega), if_neg (by omega), show wrap64 (0 + 1) = 1 from w64_id (by omega) (by omega)]
        rfl
  | cons x rest ih =>
    intro pre c hb h1 hc hx
    have hxl := hx x (by simp)
    have hn := spec_next_at (pre ++ x :: rest) (pre.length : Int) (nn _) (mid_lt _ _ _) hb x (forceR (forceM ((pre ++ x :: rest).length : Int) (pre.length : Int) (x :: rest) c)) x.f1 [] c (by simpa using hxl) hc (by
      cases hm : nextM (pre.length : Int) ((pre ++ x :: rest).length : Int) x.f1 c with
      | none =>
        show forceR _ = false
        simp only [forceM, hm]
        by_cases q : nodeB x = true
        · rw [if_pos q]; rfl
        · rw [if_neg q]; rfl
      | some c' =>
        by_cases q : nodeB x = true
        · simp only [if_pos q, forceM, hm, Option.bind_some]
          have h := ih (pre ++ [x]) c' (by simpa using hb) (by simp; omega) (by rw [nextM_len _ _ _ _ _ hm, hc]; simp) (fun y hy => hx y (by simp [hy]))
          rw [← mid_cons] at h
          have e1 : ((pre ++ [x]).length : Int) = wrap64 ((pre.length : Int) + 1) := (mid_succ pre x (by simp at hb; omega)).symm
          have e2 : ((pre ++ [x]).length : Int) = (pre.length : Int) + 1 := by simp
          rw [e2] at h
          rw [show wrap64 ((pre.length : Int) + 1) = (pre.length : Int) + 1 by rw [← e1, e2]]
          exact h
        · simp only [if_neg q, forceM]
          rfl)
    refine Ev.step (fun k => ?_) hn
    show spec_ForceOk.l0 (k + 1) _ c _ _ _ = _
    rw [spec_ForceOk.l0, if_pos (mid_lt _ _ _), if_pos (nn _), if_pos (mid_lt _ _ _), mid_rdIN]
    rfl
theorem impl_Force_ev (l : List IN) (hx : ∀ x ∈ l, x.f1.length ≤ 4611686018427387904) : Ev (fun k => impl_ForceOk.f k l) (forceB l) := by
  have hj : Ev (fun k => impl_ForceOk.j0 k l true) false := Ev.at_ 1 (fun k hk => by obtain ⟨m, rfl⟩ := Nat.exists_eq_add_of_le' hk; rfl)
  unfold impl_ForceOk.f forceB
  by_cases h1 : (l.length : Int) < 1
  · simp only [if_pos h1, decide_eq_false (show ¬ (1 ≤ (l.length : Int) ∧ (l.length : Int) ≤ 40) by omega), Bool.false_and]
    exact hj
  · simp only [if_neg h1]
    by_cases h2 : (l.length : Int) > 40
    · simp only [decide_eq_true h2, decide_eq_false (show ¬ (1 ≤ (l.length : Int) ∧ (l.length : Int) ≤ 40) by omega), Bool.false_and]
      exact hj
    · simp only [decide_eq_false h2, decide_eq_true (show 1 ≤ (l.length : Int) ∧ (l.length : Int) ≤ 40 by omega), Bool.true_and]
      refine Ev.step (fun k => ?_) (impl_force_at l [] (List.replicate l.length 0) (by simp; omega) (by simp; omega) (by simp) hx)
      show impl_ForceOk.j0 (k + 1) l false = _
      rw [impl_ForceOk.j0, if_neg (by simp), if_pos (nn _), Int.toNat_natCast, if_pos (by omega)]
      rfl
theorem spec_Force_ev (l : List IN) (hx : ∀ x ∈ l, x.f1.length ≤ 4611686018427387904) : Ev (fun k => spec_ForceOk.f k l) (forceB l) := by
  unfold spec_ForceOk.f forceB
  simp only [l01In_eq, Option.bind_some]
  by_cases h1 : 1 ≤ (l.length : Int) ∧ (l.length : Int) ≤ 40
  · simp only [decide_eq_true h1, if_true, Bool.true_and, if_pos (nn l.length), Int.toNat_natCast, if_pos (show l.length ≤ 35184372088832 by omega)]
    exact spec_force_at l [] (List.replicate l.length 0) (by simp; omega) (by simp; omega) (by simp) hx
  · simp only [decide_eq_false h1, Bool.false_eq_true, if_false, Bool.false_and]
    exact Ev.now _
end Go.Proofs.Ytgldcbcefncjjaa.F
end
