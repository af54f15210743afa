import Derived.Test.YtclmicogljidkaaF0
/- Laid by a program of this claim's own. What the Go function does, as a Lean function, and the proof that the Go code does just that; Lean checks it. -/
namespace Go.Proofs.Ytclmicogljidkaa.F
open Go.RowKit Go.Proofs.YtclmicogljidkaaW.PrintWords Go.Proofs.YtclmicogljidkaaW.PrintLast Go.Proofs.YtclmicogljidkaaW.PrintMore
attribute [local go_sem] max2_int min2_int max_two min_two max_three min_three max_four min_four   -- for this text's walks alone
set_option linter.unusedVariables false
set_option linter.unusedSimpArgs false

/-! ### spec_l01In: function 54 -/
def spec_l01In.f (a0 : Int) (a1 : Int) (a2 : Int) : Option (Bool) := if a0 ≥ a1 then (some (decide (a0 ≤ a2))) else (some false)
set_option maxHeartbeats 8000000 in
set_option maxRecDepth 100000 in
theorem spec_l01In.calls (a0 : Int) (a1 : Int) (a2 : Int) (r : Bool) (w : World) (h : spec_l01In.f a0 a1 a2 = some r) :
    Calls Try.prog 54 #[.int .i64 a0, .int .i64 a1, .int .i64 a2] w fun e w' => e = .returned (.bool r) ∧ Drawn0 w w' := by
  have H : (if a0 ≥ a1 then (some (decide (a0 ≤ a2))) else (some false)) = some r := h
  clear h
  by_cases c4 : a0 ≥ a1
  · rw [if_pos c4] at H
    have c4b0 : decide (a1 ≤ a0) = true := decide_eq_true c4
    clear c4
    obtain rfl := Option.some.inj H
    go_enter Try.func54, Try.ntmps54
    go_wp2
    go_ret
    exact ⟨by first | rfl | (simp; done) | (simp [*]; done), by repeat (first | exact Drawn0.refl _ | apply Drawn0.step)⟩
  · rw [if_neg c4] at H
    have c4b0 : decide (a1 ≤ a0) = false := decide_eq_false c4
    clear c4
    obtain rfl := Option.some.inj H
    go_enter Try.func54, Try.ntmps54
    go_wp2
    go_ret
    exact ⟨by first | rfl | (simp; done) | (simp [*]; done), by repeat (first | exact Drawn0.refl _ | apply Drawn0.step)⟩

end Go.Proofs.Ytclmicogljidkaa.F
/- Laid by a program of this claim's own. What the Go function does, as a Lean function, and the proof that the Go code does just that; Lean checks it. -/
namespace Go.Proofs.Ytclmicogljidkaa.F
open Go.RowKit Go.Proofs.YtclmicogljidkaaW.PrintWords Go.Proofs.YtclmicogljidkaaW.PrintLast Go.Proofs.YtclmicogljidkaaW.PrintMore
attribute [local go_sem] max2_int min2_int max_two min_two max_three min_three max_four min_four   -- for this text's walks alone
set_option linter.unusedVariables false
set_option linter.unusedSimpArgs false

/-! ### spec_ForceOk: function 31 -/
mutual
def spec_ForceOk.l0 : Nat → List (S67) → List Int → List (S67) → Int → Int → Option (Bool)
  | 0, _, _, _, _, _ => none
  | k + 1, x0, x3, x17, x18, x19 => if x19 < x18 then (if 0 ≤ x19 then (if x19 < (x17.length : Int) then (spec_ForceOk.l1 k x0 x3 x19 x17 x18 x19 ((rd_T67 x17 x19).f1) (((rd_T67 x17 x19).f1).length : Int) 0 ((rd_T67 x17 x19).f0) ((rd_T67 x17 x19).f1) ((rd_T67 x17 x19).f2)) else (none)) else (none)) else (spec_ForceOk.l2 k x3 (x3.length : Int) 0)
def spec_ForceOk.l1 : Nat → List (S67) → List Int → Int → List (S67) → Int → Int → List Int → Int → Int → ByteArray → List Int → Int → Option (Bool)
  | 0, _, _, _, _, _, _, _, _, _, _, _, _ => none
  | k + 1, x0, x3, x4, x17, x18, x19, x25, x26, x27, x465000, x465001, x465002 => if x27 < x26 then (if 0 ≤ x27 then (if x27 < (x25.length : Int) then ((spec_l01In.f (rd x25 x27) (wrap64 (x4 + 1)) (wrap64 ((x0.length : Int) - 1))).bind fun t466 => (if t466 = true then (if 0 ≤ (rd x25 x27) then (if (rd x25 x27) < (x3.length : Int) then (spec_ForceOk.l1 k x0 (x3.set ((rd x25 x27) : Int).toNat (wrap64 ((rd x3 (rd x25 x27)) + 1))) x4 x17 x18 x19 x25 x26 (wrap64 (x27 + 1)) x465000 x465001 x465002) else (none)) else (none)) else (some false))) else (none)) else (none)) else (if x465002 < 0 then (some false) else (if (x465001.length : Int) > 0 then (if x465002 = 0 then (spec_ForceOk.l0 k x0 x3 x17 x18 (wrap64 (x19 + 1))) else (some false)) else (spec_ForceOk.l0 k x0 x3 x17 x18 (wrap64 (x19 + 1)))))
def spec_ForceOk.l2 : Nat → List Int → Int → Int → Option (Bool)
  | 0, _, _, _ => none
  | k + 1, x61, x62, x63 => if x63 < x62 then (if 0 ≤ x63 then (if x63 < (x61.length : Int) then (if x63 > 0 then (if (rd x61 x63) = 1 then (spec_ForceOk.l2 k x61 x62 (wrap64 (x63 + 1))) else (some false)) else (spec_ForceOk.l2 k x61 x62 (wrap64 (x63 + 1)))) else (none)) else (none)) else (some true)
end
def spec_ForceOk.f (k : Nat) (l0 : List (S67)) : Option (Bool) := (spec_l01In.f (l0.length : Int) 1 40).bind fun t459 => (if t459 = true then (if 0 ≤ (l0.length : Int) then (if ((l0.length : Int) : Int).toNat ≤ 35184372088832 then (spec_ForceOk.l0 k l0 (List.replicate ((l0.length : Int) : Int).toNat 0) l0 (l0.length : Int) 0) else (none)) else (none)) else (some false))
theorem spec_ForceOk.mono_l : ∀ k, (∀ y0 y1 y2 y3 y4, LeO (spec_ForceOk.l0 k y0 y1 y2 y3 y4) (spec_ForceOk.l0 (k + 1) y0 y1 y2 y3 y4)) ∧ (∀ y0 y1 y2 y3 y4 y5 y6 y7 y8 y9 y10 y11, LeO (spec_ForceOk.l1 k y0 y1 y2 y3 y4 y5 y6 y7 y8 y9 y10 y11) (spec_ForceOk.l1 (k + 1) y0 y1 y2 y3 y4 y5 y6 y7 y8 y9 y10 y11)) ∧ (∀ y0 y1 y2, LeO (spec_ForceOk.l2 k y0 y1 y2) (spec_ForceOk.l2 (k + 1) y0 y1 y2))
  | 0 => ⟨fun _ _ _ _ _ r h => by simp [spec_ForceOk.l0] at h, fun _ _ _ _ _ _ _ _ _ _ _ _ r h => by simp [spec_ForceOk.l1] at h, fun _ _ _ r h => by simp [spec_ForceOk.l2] at h⟩
  | k + 1 => by
    obtain ⟨ih0, ih1, ih2⟩ := spec_ForceOk.mono_l k
    refine ⟨?_, ?_, ?_⟩
    · intro y0 y1 y2 y3 y4
      unfold spec_ForceOk.l0
      repeat' first
      | (with_reducible exact ih0 _ _ _ _ _)
      | (with_reducible exact ih1 _ _ _ _ _ _ _ _ _ _ _ _)
      | (with_reducible exact ih2 _ _ _)
      | (with_reducible exact LeO.refl _)
      | (with_reducible exact LeO.none _)
      | (with_reducible refine LeO.ite ?_ ?_)
      | (with_reducible refine LeO.bind ?_ (fun _ => ?_))
      | exact ih0 _ _ _ _ _
      | exact ih1 _ _ _ _ _ _ _ _ _ _ _ _
      | exact ih2 _ _ _
      | exact LeO.none _
      | refine LeO.ite ?_ ?_
      | refine LeO.bind ?_ (fun _ => ?_)
    · intro y0 y1 y2 y3 y4 y5 y6 y7 y8 y9 y10 y11
      unfold spec_ForceOk.l1
      repeat' first
      | (with_reducible exact ih0 _ _ _ _ _)
      | (with_reducible exact ih1 _ _ _ _ _ _ _ _ _ _ _ _)
      | (with_reducible exact ih2 _ _ _)
      | (with_reducible exact LeO.refl _)
      | (with_reducible exact LeO.none _)
      | (with_reducible refine LeO.ite ?_ ?_)
      | (with_reducible refine LeO.bind ?_ (fun _ => ?_))
      | exact ih0 _ _ _ _ _
      | exact ih1 _ _ _ _ _ _ _ _ _ _ _ _
      | exact ih2 _ _ _
      | exact LeO.none _
      | refine LeO.ite ?_ ?_
      | refine LeO.bind ?_ (fun _ => ?_)
    · intro y0 y1 y2
      unfold spec_ForceOk.l2
      repeat' first
      | (with_reducible exact ih0 _ _ _ _ _)
      | (with_reducible exact ih1 _ _ _ _ _ _ _ _ _ _ _ _)
      | (with_reducible exact ih2 _ _ _)
      | (with_reducible exact LeO.refl _)
      | (with_reducible exact LeO.none _)
      | (with_reducible refine LeO.ite ?_ ?_)
      | (with_reducible refine LeO.bind ?_ (fun _ => ?_))
      | exact ih0 _ _ _ _ _
      | exact ih1 _ _ _ _ _ _ _ _ _ _ _ _
      | exact ih2 _ _ _
      | exact LeO.none _
      | refine LeO.ite ?_ ?_
      | refine LeO.bind ?_ (fun _ => ?_)
theorem spec_ForceOk.mono : ∀ a0 k, LeO (spec_ForceOk.f k a0) (spec_ForceOk.f (k + 1) a0) := by
  intro a0 k
  obtain ⟨ih0, ih1, ih2⟩ := spec_ForceOk.mono_l k
  unfold spec_ForceOk.f
  repeat' first
      | (with_reducible exact ih0 _ _ _ _ _)
      | (with_reducible exact ih1 _ _ _ _ _ _ _ _ _ _ _ _)
      | (with_reducible exact ih2 _ _ _)
      | (with_reducible exact LeO.refl _)
      | (with_reducible exact LeO.none _)
      | (with_reducible refine LeO.ite ?_ ?_)
      | (with_reducible refine LeO.bind ?_ (fun _ => ?_))
      | exact ih0 _ _ _ _ _
      | exact ih1 _ _ _ _ _ _ _ _ _ _ _ _
      | exact ih2 _ _ _
      | exact LeO.none _
      | refine LeO.ite ?_ ?_
      | refine LeO.bind ?_ (fun _ => ?_)
set_option maxHeartbeats 8000000 in
set_option maxRecDepth 100000 in
theorem spec_ForceOk.calls (k : Nat) (A0 : Option Addr) (c0 : Nat) (l0 : List (S67)) (r : Bool) (w : World) (hr0 : Kd.C k67 w A0 l0.length l0) (hc0 : l0.length ≤ c0) (h : spec_ForceOk.f k l0 = some r) :
    Calls Try.prog 31 #[.slice A0 l0.length c0] w fun e w' => e = .returned (.bool r) ∧ Below w.heap.size w w' := by
  have hu67 := Try.underlying67
  have HR0 := Aside0.mk hr0
  have HC0 := Aside0.mk hc0
  clear hr0 hc0
  have HB := Aside0.mk (Below.refl w.heap.size w)
  have H : ((spec_l01In.f (l0.length : Int) 1 40).bind fun t459 => (if t459 = true then (if 0 ≤ (l0.length : Int) then (if ((l0.length : Int) : Int).toNat ≤ 35184372088832 then (spec_ForceOk.l0 k l0 (List.replicate ((l0.length : Int) : Int).toNat 0) l0 (l0.length : Int) 0) else (none)) else (none)) else (some false))) = some r := h
  clear h
  replace H := Option.bind_eq_some_iff.mp H
  obtain ⟨t459, A20, H⟩ := H
  replace H : (if t459 = true then (if 0 ≤ (l0.length : Int) then (if ((l0.length : Int) : Int).toNat ≤ 35184372088832 then (spec_ForceOk.l0 k l0 (List.replicate ((l0.length : Int) : Int).toNat 0) l0 (l0.length : Int) 0) else (none)) else (none)) else (some false)) = some r := H
  have A2 := Aside0.mk A20
  clear A20
  by_cases c3 : t459 = true
  · subst c3
    have H1 : (if 0 ≤ (l0.length : Int) then (if ((l0.length : Int) : Int).toNat ≤ 35184372088832 then (spec_ForceOk.l0 k l0 (List.replicate ((l0.length : Int) : Int).toNat 0) l0 (l0.length : Int) 0) else (none)) else (none)) = some r := by rw [if_pos rfl] at H; exact H
    clear H
    have H := H1
    clear H1
    by_cases c4 : 0 ≤ (l0.length : Int)
    · rw [if_pos c4] at H
      have c4b0 := eq_true c4
      have c4b1 : decide (0 ≤ (l0.length : Int)) = true := decide_eq_true c4
      clear c4
      by_cases c5 : ((l0.length : Int) : Int).toNat ≤ 35184372088832
      · rw [if_pos c5] at H
        have c5b0 := eq_true c5
        have c5b1 : decide (((l0.length : Int) : Int).toNat ≤ 35184372088832) = true := decide_eq_true c5
        clear c5
        obtain ⟨y460, hy460⟩ : ∃ y_ : List Int, y_ = (List.replicate ((l0.length : Int) : Int).toNat 0) := ⟨_, rfl⟩
        replace H : (spec_ForceOk.l0 k l0 y460 l0 (l0.length : Int) 0) = some r := by first | (rw [hy460]; with_reducible exact H) | (have H2_ := (Option.bind_some _ _).symm.trans H; rw [hy460]; with_reducible exact H2_) | (have H2_ := (Option.bind_some _ _).symm.trans H; with_reducible exact H2_) | with_reducible exact H | (rw [hy460]; exact H) | exact H
        have Ny460 := Aside0.mk hy460
        clear hy460
        have H' := Aside0.mk H
        clear H
        go_enter Try.func31, Try.ntmps31
        go_wp2_with (first | ((with_reducible refine gate_callee (f := 54) rfl ?_); refine goesL_ (some 12) rfl rfl Try.func54 (by kernel_rfl) rfl #[.int .i64 (l0.length : Int), .int .i64 1, .int .i64 40] rfl (by (try simp only [List.map_toArray, List.map_cons, List.map_nil]); first | done | rfl | (simp only [List.length_drop, List.length_take]; rfl)) ?_; (with_reducible refine (spec_l01In.calls (l0.length : Int) 1 40 true _ A2.out).mono ?_); rintro e w' ⟨rfl, ⟨nd, rfl⟩⟩; refine ⟨_, rfl, ?_⟩) | ((with_reducible refine gate_dst (N := 16) rfl ?_); (try (refine gate_guard (by rfl) ?_; dsimp only)); refine Kd.R_make (Kd.int .i64) _ 3 rfl (N := 16) rfl 22 _ _ rfl (l0.length : Int) rfl rfl Try.underlying22 (.int .i64 0) 8 info3 rfl (by decide) (by omega) 0 (ok := fun _ => True) (okp := fun _ => True) rfl (fun _ hk => hk) trivial (of_decide_eq_true (by first | (with_reducible assumption) | assumption)) (Nat.le_trans (Nat.mul_le_mul_right _ (of_decide_eq_true (by first | (with_reducible assumption) | assumption) : (l0.length : Int).toNat ≤ 35184372088832)) (by omega)) (Below.refl _ _) (Nat.le_refl _) ?_; intro v461 w6 ho7 hb hg_ hnew_; clear hg_ hnew_; (first | rw [← Ny460.out] at ho7 | (simp only [Int.reduceToNat] at ho7; rw [← Ny460.out] at ho7)); have n0_ := Aside0.mk (Kd.R_lower ho7 (below_size (by repeat (first | (with_reducible first | exact HB.out | apply below_alloc | apply pw_below_drewN | apply below_drew1) | exact HB.out)))); have n1_ := Aside0.mk (below_step (by repeat (first | (with_reducible first | exact HB.out | apply below_alloc | apply pw_below_drewN | apply below_drew1) | exact HB.out)) hb); clear HB; have HO462 := n0_; have HB := n1_; clear n0_ n1_; clear hb ho7))
        go_loopg [19] k (fun kq v19 w' => ∃ (x3_1 : List Int) (x19_1 : Int), v19 = .int .i64 x19_1 ∧ Aside0 (spec_ForceOk.l0 kq l0 x3_1 l0 (l0.length : Int) x19_1 = some r) ∧ Aside0 (kq ≤ k) ∧ Aside0 (Kd.R (Kd.int .i64) 3 w' w.heap.size (fun _ => True) v461 x3_1) ∧ Aside0 (Below w.heap.size w w'))
        case atStart => exact ⟨(y460), (0), (by first | rfl | (simp; done) | (simp [*]; done)), H', ⟨Nat.le_refl _⟩, ⟨by (with_reducible repeat (first | apply Kd.R_alloc | apply Kd.R_drewN | apply Kd.R_drew)); exact HO462.out⟩, ⟨by repeat (first | (with_reducible first | exact HB.out | apply below_alloc | apply pw_below_drewN | apply below_drew1) | exact HB.out)⟩⟩
        case round =>
          clear H'
          try clear p2
          try clear c3
          try clear c4
          try clear c4b0
          try clear c4b1
          try clear c5
          try clear c5b0
          try clear c5b1
          obtain ⟨x3_1, x19_1, rfl, HA, HK1, HO_3, HB⟩ := hrel
          cases gk with
          | zero => exact absurd HA.out (by simp [spec_ForceOk.l0])
          | succ k1 =>
            have H := HA.out
            clear HA
            simp only [spec_ForceOk.l0] at H
            by_cases c8 : x19_1 < (l0.length : Int)
            · rw [if_pos c8] at H
              have c8b0 : decide (x19_1 < (l0.length : Int)) = true := decide_eq_true c8
              clear c8
              by_cases c9 : 0 ≤ x19_1
              · rw [if_pos c9] at H
                have c9b0 : decide (0 ≤ x19_1) = true := decide_eq_true c9
                clear c9
                by_cases c10 : x19_1 < (l0.length : Int)
                · rw [if_pos c10] at H
                  have c10b0 : decide (x19_1 < (l0.length : Int)) = true := decide_eq_true c10
                  clear c10
                  have H' := Aside0.mk H
                  clear H
                  have p463 : 0 ≤ (x19_1 : Int) := of_decide_eq_true (by first | (with_reducible assumption) | assumption)
                  have q463 : x19_1 < (l0.length : Int) := of_decide_eq_true (by first | (with_reducible assumption) | assumption)
                  obtain ⟨ad463, A463_1, c463_1, e463, hx463_0, hx463_1, hx463_2, hl463_1, hi463_1⟩ := at_T67 HR0.out x19_1 p463 q463
                  cases e463
                  replace hx463_0 := (HB.out.cell (World.block_lt_of_cell? w _ hx463_0)).trans hx463_0
                  replace hx463_1 := (HB.out.cell (World.block_lt_of_cell? w _ hx463_1)).trans hx463_1
                  replace hx463_2 := (HB.out.cell (World.block_lt_of_cell? w _ hx463_2)).trans hx463_2
                  have HR463_1 := Aside0.mk hi463_1
                  have HC463_1 := Aside0.mk hl463_1
                  clear hi463_1 hl463_1
                  replace p463 := eq_true p463
                  replace q463 := eq_true q463
                  go_wp2_with (first | ((with_reducible refine gate_dst (N := 5) rfl ?_); (try (refine gate_guard (by rfl) ?_; dsimp only)); refine box_event ?hg (N := 5) ?hd (cs := #[.string (⟨#[]⟩ : ByteArray), .slice none 0 0, .int .i64 0]) (t := 67) ?hr ?_; (case hd => rfl); (case hg => rfl); (case hr => first | (go_simp; done) | (go_simp; rfl)); intro gb464 hg w11 hbox hb; have n0_ := Aside0.mk (Kd.R_below (by (with_reducible repeat (first | apply Kd.R_alloc | apply Kd.R_drewN | apply Kd.R_drew)); exact HO_3.out) hb); have n1_ := Aside0.mk (below_step (by repeat (first | (with_reducible first | exact HB.out | apply below_alloc | apply pw_below_drewN | apply below_drew1) | exact HB.out)) hb); have n2_ := Aside0.mk (hbox); have n3_ := Aside0.mk ((by rw [hg]; exact (below_size (by repeat (first | (with_reducible first | exact HB.out | apply below_alloc | apply pw_below_drewN | apply below_drew1) | exact HB.out))) : w.heap.size ≤ gb464)); have n4_ := Aside0.mk ((by rw [hg]; exact (below_size (by repeat (first | (with_reducible first | exact HB.out | apply below_alloc | apply pw_below_drewN | apply below_drew1) | exact HB.out))) : w.heap.size ≤ gb464)); clear HO_3; clear HB; have HO_3 := n0_; have HB := n1_; have BK464 := n2_; have GW464 := n3_; have GE464 := n4_; clear n0_ n1_ n2_ n3_ n4_; clear hb hbox hg; have hcz12_0 : w11.cell? ⟨gb464, 0, none⟩ = some (.string (⟨#[]⟩ : ByteArray)) := (blk_cell BK464.out 0).trans rfl; have hcz12_1 : w11.cell? ⟨gb464, 1, none⟩ = some (.slice none 0 0) := (blk_cell BK464.out 1).trans rfl; have hcz12_2 : w11.cell? ⟨gb464, 2, none⟩ = some (.int .i64 0) := (blk_cell BK464.out 2).trans rfl; have hfz12_0 := blk_frozen BK464.out 0; have hfz12_1 := blk_frozen BK464.out 1; have hfz12_2 := blk_frozen BK464.out 2))
                  go_loopg [27] k1 (fun kq v27 w' => ∃ (x3_2 : List Int) (x27_2 : Int), v27 = .int .i64 x27_2 ∧ Aside0 (spec_ForceOk.l1 kq l0 x3_2 x19_1 l0 (l0.length : Int) x19_1 ((rd_T67 l0 x19_1).f1) (((rd_T67 l0 x19_1).f1).length : Int) x27_2 ((rd_T67 l0 x19_1).f0) ((rd_T67 l0 x19_1).f1) ((rd_T67 l0 x19_1).f2) = some r) ∧ Aside0 (kq ≤ k1) ∧ Aside0 (Kd.R (Kd.int .i64) 3 w' w.heap.size (fun _ => True) v461 x3_2) ∧ Aside0 (w'.heap[gb464]? = some (.cells #[.string ((rd_T67 l0 x19_1).f0), (.slice A463_1 ((rd_T67 l0 x19_1).f1).length c463_1), .int .i64 ((rd_T67 l0 x19_1).f2)] 67 (0, 0))) ∧ Aside0 (Below w.heap.size w w'))
                  case atStart => exact ⟨(x3_1), (0), (by first | rfl | (simp; done) | (simp [*]; done)), H', ⟨Nat.le_refl _⟩, ⟨by (with_reducible repeat (first | apply Kd.R_alloc | apply Kd.R_drewN | apply Kd.R_drew)); exact Kd.R_mono (Kd.R_far (p := ⟨gb464, 2, none⟩) (Kd.R_far (p := ⟨gb464, 1, none⟩) (Kd.R_far (p := ⟨gb464, 0, none⟩) (Kd.R_types HO_3.out BK464.out (by decide)) (fun _ hk => hk.2) (.string ((rd_T67 l0 x19_1).f0))) (fun _ hk => hk.2) (.slice A463_1 ((rd_T67 l0 x19_1).f1).length c463_1)) (fun _ hk => hk.2) (.int .i64 ((rd_T67 l0 x19_1).f2))) (fun _ hk => trivial)⟩, ⟨by (with_reducible repeat (first | refine blk_drewN ?_ _ | refine blk_drew ?_ | refine blk_alloc ?_ _)); refine blk_put (cs := #[.string ((rd_T67 l0 x19_1).f0), .slice A463_1 ((rd_T67 l0 x19_1).f1).length c463_1, .int .i64 0]) ?_ 2 _ rfl; (with_reducible repeat (first | refine blk_drewN ?_ _ | refine blk_drew ?_ | refine blk_alloc ?_ _)); refine blk_put (cs := #[.string ((rd_T67 l0 x19_1).f0), .slice none 0 0, .int .i64 0]) ?_ 1 _ rfl; (with_reducible repeat (first | refine blk_drewN ?_ _ | refine blk_drew ?_ | refine blk_alloc ?_ _)); refine blk_put (cs := #[.string (⟨#[]⟩ : ByteArray), .slice none 0 0, .int .i64 0]) ?_ 0 _ rfl; (with_reducible repeat (first | refine blk_drewN ?_ _ | refine blk_drew ?_ | refine blk_alloc ?_ _)); exact BK464.out⟩, ⟨by repeat (first | (with_reducible first | exact HB.out | apply below_alloc | apply pw_below_drewN | apply below_drew1 | refine below_set ?_ GE464.out) | exact HB.out)⟩⟩
                  case round =>
                    clear H'
                    try clear c1
                    try clear p2
                    try clear c3
                    try clear c4
                    try clear c4b0
                    try clear c4b1
                    try clear p4
                    try clear q4
                    try clear hx4
                    try clear c5
                    try clear c5b0
                    try clear c5b1
                    try clear c8
                    try clear c8b0
                    try clear c9
                    try clear c9b0
                    try clear c10
                    try clear c10b0
                    try clear hcz12_0
                    try clear hcz12_1
                    try clear hcz12_2
                    try clear hfz12_0
                    try clear hfz12_1
                    try clear hfz12_2
                    try clear hx463_0
                    try clear hx463_1
                    try clear hx463_2
                    try clear p2
                    try clear p463
                    try clear q463
                    obtain ⟨x3_2, x27_2, rfl, HA, HK2, HO_3, BK464, HB⟩ := hrel
                    cases gk with
                    | zero => exact absurd HA.out (by simp [spec_ForceOk.l1])
                    | succ k2 =>
                      have H := HA.out
                      clear HA
                      simp only [spec_ForceOk.l1] at H
                      by_cases c13 : x27_2 < (((rd_T67 l0 x19_1).f1).length : Int)
                      · rw [if_pos c13] at H
                        have c13b0 : decide (x27_2 < (((rd_T67 l0 x19_1).f1).length : Int)) = true := decide_eq_true c13
                        clear c13
                        by_cases c14 : 0 ≤ x27_2
                        · rw [if_pos c14] at H
                          have c14b0 : decide (0 ≤ x27_2) = true := decide_eq_true c14
                          clear c14
                          by_cases c15 : x27_2 < (((rd_T67 l0 x19_1).f1).length : Int)
                          · rw [if_pos c15] at H
                            have c15b0 : decide (x27_2 < (((rd_T67 l0 x19_1).f1).length : Int)) = true := decide_eq_true c15
                            clear c15
                            replace H := Option.bind_eq_some_iff.mp H
                            obtain ⟨t466, A160, H⟩ := H
                            replace H : (if t466 = true then (if 0 ≤ (rd ((rd_T67 l0 x19_1).f1) x27_2) then (if (rd ((rd_T67 l0 x19_1).f1) x27_2) < (x3_2.length : Int) then (spec_ForceOk.l1 k2 l0 (x3_2.set ((rd ((rd_T67 l0 x19_1).f1) x27_2) : Int).toNat (wrap64 ((rd x3_2 (rd ((rd_T67 l0 x19_1).f1) x27_2)) + 1))) x19_1 l0 (l0.length : Int) x19_1 ((rd_T67 l0 x19_1).f1) (((rd_T67 l0 x19_1).f1).length : Int) (wrap64 (x27_2 + 1)) ((rd_T67 l0 x19_1).f0) ((rd_T67 l0 x19_1).f1) ((rd_T67 l0 x19_1).f2)) else (none)) else (none)) else (some false)) = some r := H
                            have A16 := Aside0.mk A160
                            clear A160
                            by_cases c17 : t466 = true
                            · subst c17
                              have H1 : (if 0 ≤ (rd ((rd_T67 l0 x19_1).f1) x27_2) then (if (rd ((rd_T67 l0 x19_1).f1) x27_2) < (x3_2.length : Int) then (spec_ForceOk.l1 k2 l0 (x3_2.set ((rd ((rd_T67 l0 x19_1).f1) x27_2) : Int).toNat (wrap64 ((rd x3_2 (rd ((rd_T67 l0 x19_1).f1) x27_2)) + 1))) x19_1 l0 (l0.length : Int) x19_1 ((rd_T67 l0 x19_1).f1) (((rd_T67 l0 x19_1).f1).length : Int) (wrap64 (x27_2 + 1)) ((rd_T67 l0 x19_1).f0) ((rd_T67 l0 x19_1).f1) ((rd_T67 l0 x19_1).f2)) else (none)) else (none)) = some r := by rw [if_pos rfl] at H; exact H
                              clear H
                              have H := H1
                              clear H1
                              by_cases c18 : 0 ≤ (rd ((rd_T67 l0 x19_1).f1) x27_2)
                              · rw [if_pos c18] at H
                                have c18b0 : decide (0 ≤ (rd ((rd_T67 l0 x19_1).f1) x27_2)) = true := decide_eq_true c18
                                clear c18
                                by_cases c19 : (rd ((rd_T67 l0 x19_1).f1) x27_2) < (x3_2.length : Int)
                                · rw [if_pos c19] at H
                                  have c19b0 : decide ((rd ((rd_T67 l0 x19_1).f1) x27_2) < (x3_2.length : Int)) = true := decide_eq_true c19
                                  clear c19
                                  obtain ⟨y468, hy468⟩ : ∃ y_ : List Int, y_ = (x3_2.set ((rd ((rd_T67 l0 x19_1).f1) x27_2) : Int).toNat (wrap64 ((rd x3_2 (rd ((rd_T67 l0 x19_1).f1) x27_2)) + 1))) := ⟨_, rfl⟩
                                  replace H : (spec_ForceOk.l1 k2 l0 y468 x19_1 l0 (l0.length : Int) x19_1 ((rd_T67 l0 x19_1).f1) (((rd_T67 l0 x19_1).f1).length : Int) (wrap64 (x27_2 + 1)) ((rd_T67 l0 x19_1).f0) ((rd_T67 l0 x19_1).f1) ((rd_T67 l0 x19_1).f2)) = some r := by first | (rw [hy468]; with_reducible exact H) | (have H2_ := (Option.bind_some _ _).symm.trans H; rw [hy468]; with_reducible exact H2_) | (have H2_ := (Option.bind_some _ _).symm.trans H; with_reducible exact H2_) | with_reducible exact H | (rw [hy468]; exact H) | exact H
                                  have Ny468 := Aside0.mk hy468
                                  clear hy468
                                  have H' := Aside0.mk H
                                  clear H
                                  have p465 : 0 ≤ (x27_2 : Int) := of_decide_eq_true (by first | (with_reducible assumption) | assumption)
                                  have q465 : x27_2 < (((rd_T67 l0 x19_1).f1).length : Int) := of_decide_eq_true (by first | (with_reducible assumption) | assumption)
                                  obtain ⟨ad465, e465, hx465_0⟩ := Kd.at_int HR463_1.out x27_2 p465 q465
                                  cases e465
                                  replace hx465_0 := (HB.out.cell (World.block_lt_of_cell? w _ hx465_0)).trans hx465_0
                                  replace p465 := eq_true p465
                                  replace q465 := eq_true q465
                                  go_wp2_with (first | ((with_reducible refine gate_callee (f := 54) rfl ?_); refine goesL_ (some 37) rfl rfl Try.func54 (by kernel_rfl) rfl #[.int .i64 (rd ((rd_T67 l0 x19_1).f1) x27_2), .int .i64 (wrap64 (x19_1 + 1)), .int .i64 (wrap64 ((l0.length : Int) - 1))] rfl (by (try simp only [List.map_toArray, List.map_cons, List.map_nil]); first | done | rfl | (simp only [List.length_drop, List.length_take]; rfl)) ?_; (with_reducible refine (spec_l01In.calls (rd ((rd_T67 l0 x19_1).f1) x27_2) (wrap64 (x19_1 + 1)) (wrap64 ((l0.length : Int) - 1)) true _ A16.out).mono ?_); rintro e w' ⟨rfl, ⟨nd, rfl⟩⟩; refine ⟨_, rfl, ?_⟩; (try (rw [drewN_self wr]; generalize hq_ : World.drewN wr _ = wr; have n0_ : Aside0 (Kd.R (Kd.int .i64) 3 wr w.heap.size (fun _ => True) v461 x3_2) := ⟨by rw [← hq_]; exact (by (with_reducible repeat (first | apply Kd.R_alloc | apply Kd.R_drewN | apply Kd.R_drew)); exact HO_3.out)⟩; have n1_ : Aside0 (wr.heap[gb464]? = some (.cells #[.string ((rd_T67 l0 x19_1).f0), .slice (some ad465) ((rd_T67 l0 x19_1).f1).length c463_1, .int .i64 ((rd_T67 l0 x19_1).f2)] 67 (0, 0))) := ⟨by rw [← hq_]; exact (by (with_reducible repeat (first | refine blk_drewN ?_ _ | refine blk_drew ?_ | refine blk_alloc ?_ _)); exact BK464.out)⟩; have n2_ : Aside0 (Below w.heap.size w wr) := ⟨by rw [← hq_]; exact (by repeat (first | (with_reducible first | exact HB.out | apply below_alloc | apply pw_below_drewN | apply below_drew1 | refine below_set ?_ GE464.out) | exact HB.out))⟩; clear HO_3 BK464 HB hq_; have HO_3 := n0_; have BK464 := n1_; have HB := n2_; clear n0_ n1_ n2_)); obtain ⟨Ao21, co21, eo21⟩ := Kd.R_slice HO_3.out; subst eo21; have p467 : 0 ≤ ((rd ((rd_T67 l0 x19_1).f1) x27_2) : Int) := of_decide_eq_true (by first | (with_reducible assumption) | assumption); have q467 : (rd ((rd_T67 l0 x19_1).f1) x27_2) < (x3_2.length : Int) := of_decide_eq_true (by first | (with_reducible assumption) | assumption); obtain ⟨ad467, e467, hx467_0⟩ := Kd.at_int (Kd.R_reads' HO_3.out).2.2 (rd ((rd_T67 l0 x19_1).f1) x27_2) p467 q467; cases e467; replace p467 := eq_true p467; replace q467 := eq_true q467; have p20 : 0 ≤ ((rd ((rd_T67 l0 x19_1).f1) x27_2) : Int) := of_decide_eq_true (by first | (with_reducible assumption) | assumption); have q20 : ((rd ((rd_T67 l0 x19_1).f1) x27_2) : Int) < ((x3_2.length : Int) : Int) := of_decide_eq_true (by first | (with_reducible assumption) | assumption); obtain ⟨go20, co20, eo20, gb20, gl20, cl20, HG20⟩ := Kd.R_form HO_3.out (by omega); (first | cases eo20 | (injection eo20 with ea_ en_ ec_; (first | subst ea_ | (injection ea_ with ea_; subst ea_)); subst ec_; clear en_)); have GB20 := Aside0.mk gb20; have GG20 := Aside0.mk HG20; clear gb20 gl20 HG20; (first | simp only [add_plain] at hx467_0 | skip); obtain ⟨hx20_0, hf20_0⟩ := Kd.R_celln 0 HO_3.out ((rd ((rd_T67 l0 x19_1).f1) x27_2) : Int) p20 q20; replace p20 := eq_true p20; replace q20 := eq_true q20; obtain ⟨hy22_, hz22_⟩ := Kd.R_celln 0 HO_3.out ((rd ((rd_T67 l0 x19_1).f1) x27_2) : Int) (of_decide_eq_true (by first | (with_reducible assumption) | assumption)) (of_decide_eq_true (by first | (with_reducible assumption) | assumption)); have HP22 := Kd.R_putg HO_3.out ((rd ((rd_T67 l0 x19_1).f1) x27_2) : Int) (wrap64 ((rd x3_2 (rd ((rd_T67 l0 x19_1).f1) x27_2)) + 1))) | ((with_reducible refine gate_store (t := 3) (p := 44) rfl ?_); refine store_event (t := 3) (p := 44) (v := ?vo_w23) (w1 := (wr.setCell ⟨go20, ((rd ((rd_T67 l0 x19_1).f1) x27_2) : Int).toNat, none⟩ (.int .i64 (wrap64 ((rd x3_2 (rd ((rd_T67 l0 x19_1).f1) x27_2)) + 1))))) ?hg ?ho ?hn ?hr ?_; (case ho => rfl); (case hg => rfl); (case hn => rfl); (case hr => first | (go_simp; done) | (go_simp; rfl)); intro w23 hw; have hg : wr.grownBy w23 (some go20) := (by rw [hw]; exact HP22.2); have hp_ : Kd.R (Kd.int .i64) 3 w23 w.heap.size (fun _ => True) (.slice (some ⟨go20, 0, none⟩) x3_2.length co21) y468 := (by rw [hw, Ny468.out]; exact HP22.1); clear HP22; have n0_ := Aside0.mk (hp_); have n1_ := Aside0.mk (blk_grown (g := gb464) (o := .cells #[.string ((rd_T67 l0 x19_1).f0), .slice (some ad465) ((rd_T67 l0 x19_1).f1).length c463_1, .int .i64 ((rd_T67 l0 x19_1).f2)] 67 (0, 0)) (by (with_reducible repeat (first | refine blk_drewN ?_ _ | refine blk_drew ?_ | refine blk_alloc ?_ _)); exact BK464.out) hg (Kd.R_ne HO_3.out BK464.out (by decide))); have n2_ := Aside0.mk ((by rw [hw]; exact below_set (HB.out) GB20.out : Below w.heap.size w w23)); clear HO_3; clear BK464; clear HB; have HO_3 := n0_; have BK464 := n1_; have HB := n2_; clear n0_ n1_ n2_; clear hg hw hp_))
                                  go_roundg k2
                                  case measure => have := HK1.out; have := HK2.out; omega
                                  case rel => exact ⟨(y468), (wrap64 (x27_2 + 1)), (by first | rfl | (simp; done) | (simp [*]; done)), H', ⟨by have := HK1.out; have := HK2.out; omega⟩, ⟨by (with_reducible repeat (first | apply Kd.R_alloc | apply Kd.R_drewN | apply Kd.R_drew)); exact HO_3.out⟩, ⟨by (with_reducible repeat (first | refine blk_drewN ?_ _ | refine blk_drew ?_ | refine blk_alloc ?_ _)); exact BK464.out⟩, ⟨by repeat (first | (with_reducible first | exact HB.out | apply below_alloc | apply pw_below_drewN | apply below_drew1 | refine below_set ?_ GE464.out) | exact HB.out)⟩⟩
                                · rw [if_neg c19] at H
                                  exact absurd H (by simp)
                              · rw [if_neg c18] at H
                                exact absurd H (by simp)
                            · replace c17 := Bool.eq_false_iff.mpr c17
                              subst c17
                              have H1 : (some false) = some r := by rw [if_neg (show ¬ (false = true) by decide)] at H; exact H
                              clear H
                              have H := H1
                              clear H1
                              obtain rfl := Option.some.inj H
                              have p465 : 0 ≤ (x27_2 : Int) := of_decide_eq_true (by first | (with_reducible assumption) | assumption)
                              have q465 : x27_2 < (((rd_T67 l0 x19_1).f1).length : Int) := of_decide_eq_true (by first | (with_reducible assumption) | assumption)
                              obtain ⟨ad465, e465, hx465_0⟩ := Kd.at_int HR463_1.out x27_2 p465 q465
                              cases e465
                              replace hx465_0 := (HB.out.cell (World.block_lt_of_cell? w _ hx465_0)).trans hx465_0
                              replace p465 := eq_true p465
                              replace q465 := eq_true q465
                              go_wp2_with (first | ((with_reducible refine gate_callee (f := 54) rfl ?_); refine goesL_ (some 37) rfl rfl Try.func54 (by kernel_rfl) rfl #[.int .i64 (rd ((rd_T67 l0 x19_1).f1) x27_2), .int .i64 (wrap64 (x19_1 + 1)), .int .i64 (wrap64 ((l0.length : Int) - 1))] rfl (by (try simp only [List.map_toArray, List.map_cons, List.map_nil]); first | done | rfl | (simp only [List.length_drop, List.length_take]; rfl)) ?_; (with_reducible refine (spec_l01In.calls (rd ((rd_T67 l0 x19_1).f1) x27_2) (wrap64 (x19_1 + 1)) (wrap64 ((l0.length : Int) - 1)) false _ A16.out).mono ?_); rintro e w' ⟨rfl, ⟨nd, rfl⟩⟩; refine ⟨_, rfl, ?_⟩))
                              go_ret
                              exact ⟨by first | rfl | (simp [errW_none, errW_some] <;> rfl) | (simp [*, errW_none, errW_some] <;> rfl), by repeat (first | (with_reducible first | exact HB.out | apply below_alloc | apply pw_below_drewN | apply below_drew1 | refine below_set ?_ GE464.out) | exact HB.out)⟩
                          · rw [if_neg c15] at H
                            exact absurd H (by simp)
                        · rw [if_neg c14] at H
                          exact absurd H (by simp)
                      · rw [if_neg c13] at H
                        have c13b0 : decide (x27_2 < (((rd_T67 l0 x19_1).f1).length : Int)) = false := decide_eq_false c13
                        clear c13
                        by_cases c24 : ((rd_T67 l0 x19_1).f2) < 0
                        · rw [if_pos c24] at H
                          have c24b0 : decide (((rd_T67 l0 x19_1).f2) < 0) = true := decide_eq_true c24
                          clear c24
                          obtain rfl := Option.some.inj H
                          have hcz25_0 : wr.cell? ⟨gb464, 0, none⟩ = some (.string ((rd_T67 l0 x19_1).f0)) := (blk_cell BK464.out 0).trans rfl
                          have hcz25_1 : wr.cell? ⟨gb464, 1, none⟩ = some (.slice A463_1 ((rd_T67 l0 x19_1).f1).length c463_1) := (blk_cell BK464.out 1).trans rfl
                          have hcz25_2 : wr.cell? ⟨gb464, 2, none⟩ = some (.int .i64 ((rd_T67 l0 x19_1).f2)) := (blk_cell BK464.out 2).trans rfl
                          have hfz25_0 := blk_frozen BK464.out 0
                          have hfz25_1 := blk_frozen BK464.out 1
                          have hfz25_2 := blk_frozen BK464.out 2
                          go_wp2
                          go_ret
                          exact ⟨by first | rfl | (simp [errW_none, errW_some] <;> rfl) | (simp [*, errW_none, errW_some] <;> rfl), by repeat (first | (with_reducible first | exact HB.out | apply below_alloc | apply pw_below_drewN | apply below_drew1 | refine below_set ?_ GE464.out) | exact HB.out)⟩
                        · rw [if_neg c24] at H
                          have c24b0 : decide (((rd_T67 l0 x19_1).f2) < 0) = false := decide_eq_false c24
                          clear c24
                          by_cases c26 : (((rd_T67 l0 x19_1).f1).length : Int) > 0
                          · rw [if_pos c26] at H
                            have c26b0 : decide (0 < (((rd_T67 l0 x19_1).f1).length : Int)) = true := decide_eq_true c26
                            have c26b1 : decide (0 < ((rd_T67 l0 x19_1).f1).length) = true := decide_eq_true (by omega)
                            clear c26
                            by_cases c27 : ((rd_T67 l0 x19_1).f2) = 0
                            · rw [if_pos c27] at H
                              have c27b0 : (((rd_T67 l0 x19_1).f2) == 0) = true := beq_iff_eq.mpr c27
                              have c27b1 : (((rd_T67 l0 x19_1).f2) != 0) = false := bne_eq_false_iff_eq.mpr c27
                              clear c27
                              have H' := Aside0.mk H
                              clear H
                              have hcz28_0 : wr.cell? ⟨gb464, 0, none⟩ = some (.string ((rd_T67 l0 x19_1).f0)) := (blk_cell BK464.out 0).trans rfl
                              have hcz28_1 : wr.cell? ⟨gb464, 1, none⟩ = some (.slice A463_1 ((rd_T67 l0 x19_1).f1).length c463_1) := (blk_cell BK464.out 1).trans rfl
                              have hcz28_2 : wr.cell? ⟨gb464, 2, none⟩ = some (.int .i64 ((rd_T67 l0 x19_1).f2)) := (blk_cell BK464.out 2).trans rfl
                              have hfz28_0 := blk_frozen BK464.out 0
                              have hfz28_1 := blk_frozen BK464.out 1
                              have hfz28_2 := blk_frozen BK464.out 2
                              go_wp2
                              go_roundg k2
                              case measure => have := HK1.out; have := HK2.out; omega
                              case rel => exact ⟨(x3_2), (wrap64 (x19_1 + 1)), (by first | rfl | (simp; done) | (simp [*]; done)), H', ⟨by have := HK1.out; have := HK2.out; omega⟩, ⟨by (with_reducible repeat (first | apply Kd.R_alloc | apply Kd.R_drewN | apply Kd.R_drew)); exact HO_3.out⟩, ⟨by repeat (first | (with_reducible first | exact HB.out | apply below_alloc | apply pw_below_drewN | apply below_drew1 | refine below_set ?_ GE464.out) | exact HB.out)⟩⟩
                            · rw [if_neg c27] at H
                              have c27b0 : (((rd_T67 l0 x19_1).f2) == 0) = false := beq_eq_false_iff_ne.mpr c27
                              have c27b1 : (((rd_T67 l0 x19_1).f2) != 0) = true := bne_iff_ne.mpr c27
                              obtain rfl := Option.some.inj H
                              have hcz29_0 : wr.cell? ⟨gb464, 0, none⟩ = some (.string ((rd_T67 l0 x19_1).f0)) := (blk_cell BK464.out 0).trans rfl
                              have hcz29_1 : wr.cell? ⟨gb464, 1, none⟩ = some (.slice A463_1 ((rd_T67 l0 x19_1).f1).length c463_1) := (blk_cell BK464.out 1).trans rfl
                              have hcz29_2 : wr.cell? ⟨gb464, 2, none⟩ = some (.int .i64 ((rd_T67 l0 x19_1).f2)) := (blk_cell BK464.out 2).trans rfl
                              have hfz29_0 := blk_frozen BK464.out 0
                              have hfz29_1 := blk_frozen BK464.out 1
                              have hfz29_2 := blk_frozen BK464.out 2
                              go_wp2
                              go_ret
                              exact ⟨by first | rfl | (simp [errW_none, errW_some] <;> rfl) | (simp [*, errW_none, errW_some] <;> rfl), by repeat (first | (with_reducible first | exact HB.out | apply below_alloc | apply pw_below_drewN | apply below_drew1 | refine below_set ?_ GE464.out) | exact HB.out)⟩
                          · rw [if_neg c26] at H
                            have c26b0 : decide (0 < (((rd_T67 l0 x19_1).f1).length : Int)) = false := decide_eq_false c26
                            have c26b1 : decide (0 < ((rd_T67 l0 x19_1).f1).length) = false := decide_eq_false (by omega)
                            clear c26
                            have H' := Aside0.mk H
                            clear H
                            have hcz30_0 : wr.cell? ⟨gb464, 0, none⟩ = some (.string ((rd_T67 l0 x19_1).f0)) := (blk_cell BK464.out 0).trans rfl
                            have hcz30_1 : wr.cell? ⟨gb464, 1, none⟩ = some (.slice A463_1 ((rd_T67 l0 x19_1).f1).length c463_1) := (blk_cell BK464.out 1).trans rfl
                            have hcz30_2 : wr.cell? ⟨gb464, 2, none⟩ = some (.int .i64 ((rd_T67 l0 x19_1).f2)) := (blk_cell BK464.out 2).trans rfl
                            have hfz30_0 := blk_frozen BK464.out 0
                            have hfz30_1 := blk_frozen BK464.out 1
                            have hfz30_2 := blk_frozen BK464.out 2
                            go_wp2
                            go_roundg k2
                            case measure => have := HK1.out; have := HK2.out; omega
                            case rel => exact ⟨(x3_2), (wrap64 (x19_1 + 1)), (by first | rfl | (simp; done) | (simp [*]; done)), H', ⟨by have := HK1.out; have := HK2.out; omega⟩, ⟨by (with_reducible repeat (first | apply Kd.R_alloc | apply Kd.R_drewN | apply Kd.R_drew)); exact HO_3.out⟩, ⟨by repeat (first | (with_reducible first | exact HB.out | apply below_alloc | apply pw_below_drewN | apply below_drew1 | refine below_set ?_ GE464.out) | exact HB.out)⟩⟩
                · rw [if_neg c10] at H
                  exact absurd H (by simp)
              · rw [if_neg c9] at H
                exact absurd H (by simp)
            · rw [if_neg c8] at H
              have c8b0 : decide (x19_1 < (l0.length : Int)) = false := decide_eq_false c8
              clear c8
              have H' := Aside0.mk H
              clear H
              obtain ⟨Ao31, co31, eo31⟩ := Kd.R_slice HO_3.out
              subst eo31
              go_wp2
              go_loopg [63] k1 (fun kq v63 w' => ∃ (x63_2 : Int), v63 = .int .i64 x63_2 ∧ Aside0 (spec_ForceOk.l2 kq x3_1 (x3_1.length : Int) x63_2 = some r) ∧ Aside0 (kq ≤ k1) ∧ Aside0 (Kd.R (Kd.int .i64) 3 w' w.heap.size (fun _ => True) (.slice Ao31 x3_1.length co31) x3_1) ∧ Aside0 (Below w.heap.size w w'))
              case atStart => exact ⟨(0), (by first | rfl | (simp; done) | (simp [*]; done)), H', ⟨Nat.le_refl _⟩, ⟨by (with_reducible repeat (first | apply Kd.R_alloc | apply Kd.R_drewN | apply Kd.R_drew)); exact HO_3.out⟩, ⟨by repeat (first | (with_reducible first | exact HB.out | apply below_alloc | apply pw_below_drewN | apply below_drew1) | exact HB.out)⟩⟩
              case round =>
                clear H'
                try clear c1
                try clear c2
                try clear p2
                try clear q2
                try clear hx2
                try clear hf2
                try clear c3
                try clear c4
                try clear c4b0
                try clear c4b1
                try clear p4
                try clear q4
                try clear hx4
                try clear c5
                try clear c5b0
                try clear c5b1
                try clear p6
                try clear c8
                try clear c8b0
                try clear c9
                try clear c9b0
                try clear c10
                try clear c10b0
                try clear c13
                try clear c13b0
                try clear c14
                try clear c14b0
                try clear c15
                try clear c15b0
                try clear c17
                try clear c18
                try clear c18b0
                try clear c19
                try clear c19b0
                try clear p20
                try clear q20
                try clear hx20
                try clear hf20
                try clear c24
                try clear c24b0
                try clear c26
                try clear c26b0
                try clear c26b1
                try clear c27
                try clear c27b0
                try clear c27b1
                try clear c31
                try clear hcz12_0
                try clear hcz12_1
                try clear hcz12_2
                try clear hcz25_0
                try clear hcz25_1
                try clear hcz25_2
                try clear hcz28_0
                try clear hcz28_1
                try clear hcz28_2
                try clear hcz29_0
                try clear hcz29_1
                try clear hcz29_2
                try clear hcz30_0
                try clear hcz30_1
                try clear hcz30_2
                try clear hfz12_0
                try clear hfz12_1
                try clear hfz12_2
                try clear hfz25_0
                try clear hfz25_1
                try clear hfz25_2
                try clear hfz28_0
                try clear hfz28_1
                try clear hfz28_2
                try clear hfz29_0
                try clear hfz29_1
                try clear hfz29_2
                try clear hfz30_0
                try clear hfz30_1
                try clear hfz30_2
                try clear hx20_0
                try clear hx463_0
                try clear hx463_1
                try clear hx463_2
                try clear hx465_0
                try clear hx467_0
                try clear p2
                try clear p20
                try clear p4
                try clear p463
                try clear p465
                try clear p467
                try clear q20
                try clear q4
                try clear q463
                try clear q465
                try clear q467
                obtain ⟨x63_2, rfl, HA, HK2, HO_61, HB⟩ := hrel
                cases gk with
                | zero => exact absurd HA.out (by simp [spec_ForceOk.l2])
                | succ k2 =>
                  have H := HA.out
                  clear HA
                  simp only [spec_ForceOk.l2] at H
                  by_cases c32 : x63_2 < (x3_1.length : Int)
                  · rw [if_pos c32] at H
                    have c32b0 : decide (x63_2 < (x3_1.length : Int)) = true := decide_eq_true c32
                    clear c32
                    by_cases c33 : 0 ≤ x63_2
                    · rw [if_pos c33] at H
                      have c33b0 : decide (0 ≤ x63_2) = true := decide_eq_true c33
                      clear c33
                      by_cases c34 : x63_2 < (x3_1.length : Int)
                      · rw [if_pos c34] at H
                        have c34b0 : decide (x63_2 < (x3_1.length : Int)) = true := decide_eq_true c34
                        clear c34
                        by_cases c35 : x63_2 > 0
                        · rw [if_pos c35] at H
                          have c35b0 : decide (0 < x63_2) = true := decide_eq_true c35
                          clear c35
                          by_cases c36 : (rd x3_1 x63_2) = 1
                          · rw [if_pos c36] at H
                            have c36b0 : ((rd x3_1 x63_2) == 1) = true := beq_iff_eq.mpr c36
                            have c36b1 : ((rd x3_1 x63_2) != 1) = false := bne_eq_false_iff_eq.mpr c36
                            clear c36
                            have H' := Aside0.mk H
                            clear H
                            have p469 : 0 ≤ (x63_2 : Int) := of_decide_eq_true (by first | (with_reducible assumption) | assumption)
                            have q469 : x63_2 < (x3_1.length : Int) := of_decide_eq_true (by first | (with_reducible assumption) | assumption)
                            obtain ⟨ad469, e469, hx469_0⟩ := Kd.at_int (Kd.R_reads' HO_61.out).2.2 x63_2 p469 q469
                            cases e469
                            replace p469 := eq_true p469
                            replace q469 := eq_true q469
                            go_wp2
                            go_roundg k2
                            case measure => have := HK1.out; have := HK2.out; omega
                            case rel => exact ⟨(wrap64 (x63_2 + 1)), (by first | rfl | (simp; done) | (simp [*]; done)), H', ⟨by have := HK1.out; have := HK2.out; omega⟩, ⟨by (with_reducible repeat (first | apply Kd.R_alloc | apply Kd.R_drewN | apply Kd.R_drew)); exact HO_61.out⟩, ⟨by repeat (first | (with_reducible first | exact HB.out | apply below_alloc | apply pw_below_drewN | apply below_drew1) | exact HB.out)⟩⟩
                          · rw [if_neg c36] at H
                            have c36b0 : ((rd x3_1 x63_2) == 1) = false := beq_eq_false_iff_ne.mpr c36
                            have c36b1 : ((rd x3_1 x63_2) != 1) = true := bne_iff_ne.mpr c36
                            obtain rfl := Option.some.inj H
                            have p469 : 0 ≤ (x63_2 : Int) := of_decide_eq_true (by first | (with_reducible assumption) | assumption)
                            have q469 : x63_2 < (x3_1.length : Int) := of_decide_eq_true (by first | (with_reducible assumption) | assumption)
                            obtain ⟨ad469, e469, hx469_0⟩ := Kd.at_int (Kd.R_reads' HO_61.out).2.2 x63_2 p469 q469
                            cases e469
                            replace p469 := eq_true p469
                            replace q469 := eq_true q469
                            go_wp2
                            go_ret
                            exact ⟨by first | rfl | (simp [errW_none, errW_some] <;> rfl) | (simp [*, errW_none, errW_some] <;> rfl), by repeat (first | (with_reducible first | exact HB.out | apply below_alloc | apply pw_below_drewN | apply below_drew1) | exact HB.out)⟩
                        · rw [if_neg c35] at H
                          have c35b0 : decide (0 < x63_2) = false := decide_eq_false c35
                          clear c35
                          have H' := Aside0.mk H
                          clear H
                          have p469 : 0 ≤ (x63_2 : Int) := of_decide_eq_true (by first | (with_reducible assumption) | assumption)
                          have q469 : x63_2 < (x3_1.length : Int) := of_decide_eq_true (by first | (with_reducible assumption) | assumption)
                          obtain ⟨ad469, e469, hx469_0⟩ := Kd.at_int (Kd.R_reads' HO_61.out).2.2 x63_2 p469 q469
                          cases e469
                          replace p469 := eq_true p469
                          replace q469 := eq_true q469
                          go_wp2
                          go_roundg k2
                          case measure => have := HK1.out; have := HK2.out; omega
                          case rel => exact ⟨(wrap64 (x63_2 + 1)), (by first | rfl | (simp; done) | (simp [*]; done)), H', ⟨by have := HK1.out; have := HK2.out; omega⟩, ⟨by (with_reducible repeat (first | apply Kd.R_alloc | apply Kd.R_drewN | apply Kd.R_drew)); exact HO_61.out⟩, ⟨by repeat (first | (with_reducible first | exact HB.out | apply below_alloc | apply pw_below_drewN | apply below_drew1) | exact HB.out)⟩⟩
                      · rw [if_neg c34] at H
                        exact absurd H (by simp)
                    · rw [if_neg c33] at H
                      exact absurd H (by simp)
                  · rw [if_neg c32] at H
                    have c32b0 : decide (x63_2 < (x3_1.length : Int)) = false := decide_eq_false c32
                    clear c32
                    obtain rfl := Option.some.inj H
                    go_wp2
                    go_ret
                    exact ⟨by first | rfl | (simp [errW_none, errW_some] <;> rfl) | (simp [*, errW_none, errW_some] <;> rfl), by repeat (first | (with_reducible first | exact HB.out | apply below_alloc | apply pw_below_drewN | apply below_drew1) | exact HB.out)⟩
      · rw [if_neg c5] at H
        exact absurd H (by simp)
    · rw [if_neg c4] at H
      exact absurd H (by simp)
  · replace c3 := Bool.eq_false_iff.mpr c3
    subst c3
    have H1 : (some false) = some r := by rw [if_neg (show ¬ (false = true) by decide)] at H; exact H
    clear H
    have H := H1
    clear H1
    obtain rfl := Option.some.inj H
    go_enter Try.func31, Try.ntmps31
    go_wp2_with (first | ((with_reducible refine gate_callee (f := 54) rfl ?_); refine goesL_ (some 12) rfl rfl Try.func54 (by kernel_rfl) rfl #[.int .i64 (l0.length : Int), .int .i64 1, .int .i64 40] rfl (by (try simp only [List.map_toArray, List.map_cons, List.map_nil]); first | done | rfl | (simp only [List.length_drop, List.length_take]; rfl)) ?_; (with_reducible refine (spec_l01In.calls (l0.length : Int) 1 40 false _ A2.out).mono ?_); rintro e w' ⟨rfl, ⟨nd, rfl⟩⟩; refine ⟨_, rfl, ?_⟩))
    go_ret
    exact ⟨by first | rfl | (simp [errW_none, errW_some] <;> rfl) | (simp [*, errW_none, errW_some] <;> rfl), by repeat (first | (with_reducible first | exact HB.out | apply below_alloc | apply pw_below_drewN | apply below_drew1) | exact HB.out)⟩

end Go.Proofs.Ytclmicogljidkaa.F
/- Laid by a program of this claim's own. What the Go function does, as a Lean function, and the proof that the Go code does just that; Lean checks it. -/
namespace Go.Proofs.Ytclmicogljidkaa.F
open Go.RowKit Go.Proofs.YtclmicogljidkaaW.PrintWords Go.Proofs.YtclmicogljidkaaW.PrintLast Go.Proofs.YtclmicogljidkaaW.PrintMore
attribute [local go_sem] max2_int min2_int max_two min_two max_three min_three max_four min_four   -- for this text's walks alone
set_option linter.unusedVariables false
set_option linter.unusedSimpArgs false

/-! ### spec_l13Depth: function 93 -/
mutual
def spec_l13Depth.l0 : Nat → List (S67) → Int → List Int → Int → Int → Option (Int)
  | 0, _, _, _, _, _ => none
  | k + 1, x0, x5, x12, x13, x14 => if x14 < x13 then (if 0 ≤ x14 then (if x14 < (x12.length : Int) then ((spec_l13Depth.f k x0 (rd x12 x14)).bind fun t1048 => (spec_l13Depth.l0 k x0 (mx x5 (wrap64 (1 + t1048))) x12 x13 (wrap64 (x14 + 1)))) else (none)) else (none)) else (some x5)
def spec_l13Depth.f : Nat → List (S67) → Int → Option (Int)
  | 0, _, _ => none
  | k + 1, l0, a1 => if 0 ≤ a1 then (if a1 < (l0.length : Int) then (spec_l13Depth.l0 k l0 0 ((rd_T67 l0 a1).f1) (((rd_T67 l0 a1).f1).length : Int) 0) else (none)) else (none)
end
theorem spec_l13Depth.mono_l : ∀ k, (∀ y0 y1, LeO (spec_l13Depth.f k y0 y1) (spec_l13Depth.f (k + 1) y0 y1)) ∧ (∀ y0 y1 y2 y3 y4, LeO (spec_l13Depth.l0 k y0 y1 y2 y3 y4) (spec_l13Depth.l0 (k + 1) y0 y1 y2 y3 y4))
  | 0 => ⟨fun _ _ r h => by simp [spec_l13Depth.f] at h, fun _ _ _ _ _ r h => by simp [spec_l13Depth.l0] at h⟩
  | k + 1 => by
    obtain ⟨ih0, ih1⟩ := spec_l13Depth.mono_l k
    refine ⟨?_, ?_⟩
    · intro y0 y1
      unfold spec_l13Depth.f
      repeat' first
      | (with_reducible exact ih0 _ _)
      | (with_reducible exact ih1 _ _ _ _ _)
      | (with_reducible exact LeO.refl _)
      | (with_reducible exact LeO.none _)
      | (with_reducible refine LeO.ite ?_ ?_)
      | (with_reducible refine LeO.bind ?_ (fun _ => ?_))
      | exact ih0 _ _
      | exact ih1 _ _ _ _ _
      | exact LeO.none _
      | refine LeO.ite ?_ ?_
      | refine LeO.bind ?_ (fun _ => ?_)
    · intro y0 y1 y2 y3 y4
      unfold spec_l13Depth.l0
      repeat' first
      | (with_reducible exact ih0 _ _)
      | (with_reducible exact ih1 _ _ _ _ _)
      | (with_reducible exact LeO.refl _)
      | (with_reducible exact LeO.none _)
      | (with_reducible refine LeO.ite ?_ ?_)
      | (with_reducible refine LeO.bind ?_ (fun _ => ?_))
      | exact ih0 _ _
      | exact ih1 _ _ _ _ _
      | exact LeO.none _
      | refine LeO.ite ?_ ?_
      | refine LeO.bind ?_ (fun _ => ?_)
theorem spec_l13Depth.mono : ∀ a0 a1 k, LeO (spec_l13Depth.f k a0 a1) (spec_l13Depth.f (k + 1) a0 a1) := by
  intro a0 a1 k
  obtain ⟨ih0, ih1⟩ := spec_l13Depth.mono_l k
  exact ih0 a0 a1
set_option maxHeartbeats 8000000 in
set_option maxRecDepth 100000 in
theorem spec_l13Depth.calls (k : Nat) : ∀ (A0 : Option Addr) (c0 : Nat) (l0 : List (S67)) (a1 : Int) (r : Int) (w : World) (hr0 : Kd.C k67 w A0 l0.length l0) (hc0 : l0.length ≤ c0) (h : spec_l13Depth.f k l0 a1 = some r),
    Calls Try.prog 93 #[.slice A0 l0.length c0, .int .i64 a1] w fun e w' => e = .returned (.int .i64 r) ∧ Below w.heap.size w w' := by
  induction k using Nat.strongRecOn with
  | _ k ih =>
  intro A0 c0 l0 a1 r w hr0 hc0 h
  cases k with
  | zero => exact absurd h (by simp [spec_l13Depth.f])
  | succ k =>
  simp only [spec_l13Depth.f] at h
  have HR0 := Aside0.mk hr0
  have HC0 := Aside0.mk hc0
  clear hr0 hc0
  have HB := Aside0.mk (Below.refl w.heap.size w)
  have H : (if 0 ≤ a1 then (if a1 < (l0.length : Int) then (spec_l13Depth.l0 k l0 0 ((rd_T67 l0 a1).f1) (((rd_T67 l0 a1).f1).length : Int) 0) else (none)) else (none)) = some r := h
  clear h
  by_cases c3 : 0 ≤ a1
  · rw [if_pos c3] at H
    have c3b0 : decide (0 ≤ a1) = true := decide_eq_true c3
    clear c3
    by_cases c4 : a1 < (l0.length : Int)
    · rw [if_pos c4] at H
      have c4b0 : decide (a1 < (l0.length : Int)) = true := decide_eq_true c4
      clear c4
      have H' := Aside0.mk H
      clear H
      have p1046 : 0 ≤ (a1 : Int) := of_decide_eq_true (by first | (with_reducible assumption) | assumption)
      have q1046 : a1 < (l0.length : Int) := of_decide_eq_true (by first | (with_reducible assumption) | assumption)
      obtain ⟨ad1046, A1046_1, c1046_1, e1046, hx1046_0, hx1046_1, hx1046_2, hl1046_1, hi1046_1⟩ := at_T67 HR0.out a1 p1046 q1046
      cases e1046
      have HR1046_1 := Aside0.mk hi1046_1
      have HC1046_1 := Aside0.mk hl1046_1
      clear hi1046_1 hl1046_1
      replace p1046 := eq_true p1046
      replace q1046 := eq_true q1046
      go_enter Try.func93, Try.ntmps93
      go_wp2
      go_loopg [5, 14] k (fun kq v5 v14 w' => ∃ (x5_1 : Int) (x14_1 : Int), v5 = .int .i64 x5_1 ∧ v14 = .int .i64 x14_1 ∧ Aside0 (spec_l13Depth.l0 kq l0 x5_1 ((rd_T67 l0 a1).f1) (((rd_T67 l0 a1).f1).length : Int) x14_1 = some r) ∧ Aside0 (kq ≤ k) ∧ Aside0 (Below w.heap.size w w'))
      case atStart => exact ⟨(0), (0), (by first | rfl | (simp; done) | (simp [*]; done)), (by first | rfl | (simp; done) | (simp [*]; done)), H', ⟨Nat.le_refl _⟩, ⟨by repeat (first | (with_reducible first | exact HB.out | apply below_alloc | apply pw_below_drewN | apply below_drew1) | exact HB.out)⟩⟩
      case round =>
        clear H'
        try clear c1
        try clear p1
        try clear q1
        try clear hx1
        try clear p2
        try clear c3
        try clear c3b0
        try clear c4
        try clear c4b0
        try clear hx1046_0
        try clear hx1046_1
        try clear hx1046_2
        try clear p1046
        try clear q1046
        obtain ⟨x5_1, x14_1, rfl, rfl, HA, HK1, HB⟩ := hrel
        cases gk with
        | zero => exact absurd HA.out (by simp [spec_l13Depth.l0])
        | succ k1 =>
          have H := HA.out
          clear HA
          simp only [spec_l13Depth.l0] at H
          by_cases c5 : x14_1 < (((rd_T67 l0 a1).f1).length : Int)
          · rw [if_pos c5] at H
            have c5b0 : decide (x14_1 < (((rd_T67 l0 a1).f1).length : Int)) = true := decide_eq_true c5
            clear c5
            by_cases c6 : 0 ≤ x14_1
            · rw [if_pos c6] at H
              have c6b0 : decide (0 ≤ x14_1) = true := decide_eq_true c6
              clear c6
              by_cases c7 : x14_1 < (((rd_T67 l0 a1).f1).length : Int)
              · rw [if_pos c7] at H
                have c7b0 : decide (x14_1 < (((rd_T67 l0 a1).f1).length : Int)) = true := decide_eq_true c7
                clear c7
                replace H := Option.bind_eq_some_iff.mp H
                obtain ⟨t1048, A80, H⟩ := H
                replace H : (spec_l13Depth.l0 k1 l0 (mx x5_1 (wrap64 (1 + t1048))) ((rd_T67 l0 a1).f1) (((rd_T67 l0 a1).f1).length : Int) (wrap64 (x14_1 + 1))) = some r := H
                have A8 := Aside0.mk A80
                clear A80
                obtain ⟨ji9, hji9⟩ : ∃ j_ : Int, (mx x5_1 (wrap64 (1 + t1048))) = j_ := ⟨_, rfl⟩
                replace H : (spec_l13Depth.l0 k1 l0 ji9 ((rd_T67 l0 a1).f1) (((rd_T67 l0 a1).f1).length : Int) (wrap64 (x14_1 + 1))) = some r := by first | (rw [hji9] at H; exact H) | (simp only [hji9] at H ⊢; exact H)
                (try rw [hji9] at A8)
                have hji9_ : (if x5_1 < (wrap64 (1 + t1048)) then (wrap64 (1 + t1048)) else x5_1) = ji9 := hji9
                have H' := Aside0.mk H
                clear H
                have p1047 : 0 ≤ (x14_1 : Int) := of_decide_eq_true (by first | (with_reducible assumption) | assumption)
                have q1047 : x14_1 < (((rd_T67 l0 a1).f1).length : Int) := of_decide_eq_true (by first | (with_reducible assumption) | assumption)
                obtain ⟨ad1047, e1047, hx1047_0⟩ := Kd.at_int HR1046_1.out x14_1 p1047 q1047
                cases e1047
                replace hx1047_0 := (HB.out.cell (World.block_lt_of_cell? w _ hx1047_0)).trans hx1047_0
                replace p1047 := eq_true p1047
                replace q1047 := eq_true q1047
                go_wp2_with (first | ((with_reducible refine gate_callee (f := 93) rfl ?_); refine goesL_ (some 21) rfl rfl Try.func93 (by kernel_rfl) rfl #[.slice (some ad1046) l0.length c0, .int .i64 (rd ((rd_T67 l0 a1).f1) x14_1)] rfl (by (try simp only [List.map_toArray, List.map_cons, List.map_nil]); first | done | rfl | (simp only [List.length_drop, List.length_take]; rfl)) ?_; (with_reducible refine (ih k1 (by have := HK1.out; omega) _ _ l0 (rd ((rd_T67 l0 a1).f1) x14_1) t1048 _ ?side1 ?side2 A8.out).mono ?_); (case side1 => repeat (first | exact (Kd.C_below HR0.out HB.out) | (with_reducible refine Kd.C_alloc ?_ _) | (with_reducible refine Kd.C_drewN ?_ _) | (with_reducible refine Kd.C_drew ?_))); (case side2 => exact HC0.out); rintro e w10 ⟨rfl, hb⟩; refine ⟨_, rfl, ?_⟩; have n0_ := Aside0.mk (below_step (by repeat (first | (with_reducible first | exact HB.out | apply below_alloc | apply pw_below_drewN | apply below_drew1) | exact HB.out)) hb); clear HB; have HB := n0_; clear n0_; (try clear hb); (try clear hb2); (try clear hk); (try clear hi)))
                go_roundg k1
                case measure => have := HK1.out; omega
                case rel => exact ⟨(ji9), (wrap64 (x14_1 + 1)), (by first | rfl | (simp; done) | (simp only [← hji9] <;> (first | rfl | simp)) | (simp [*]; done)), (by first | rfl | (simp; done) | (simp [*]; done)), H', ⟨by have := HK1.out; omega⟩, ⟨by repeat (first | (with_reducible first | exact HB.out | apply below_alloc | apply pw_below_drewN | apply below_drew1) | exact HB.out)⟩⟩
              · rw [if_neg c7] at H
                exact absurd H (by simp)
            · rw [if_neg c6] at H
              exact absurd H (by simp)
          · rw [if_neg c5] at H
            have c5b0 : decide (x14_1 < (((rd_T67 l0 a1).f1).length : Int)) = false := decide_eq_false c5
            clear c5
            obtain rfl := Option.some.inj H
            go_wp2
            go_ret
            exact ⟨by first | rfl | (simp [errW_none, errW_some] <;> rfl) | (simp [*, errW_none, errW_some] <;> rfl), by repeat (first | (with_reducible first | exact HB.out | apply below_alloc | apply pw_below_drewN | apply below_drew1) | exact HB.out)⟩
    · rw [if_neg c4] at H
      exact absurd H (by simp)
  · rw [if_neg c3] at H
    exact absurd H (by simp)

end Go.Proofs.Ytclmicogljidkaa.F
