import Derived.Test.YtgldcbcefncjjaaZFnEquivocal4
section
/- Laid by a program of this claim's own. What the Go function does, as a Lean function, and the proof that the Go code does just that; Lean checks it. -/
namespace Go.Proofs.Ytgldcbcefncjjaa.F
open Go.RowKit Go.Proofs.YtgldcbcefncjjaaW.PrintWords Go.Proofs.YtgldcbcefncjjaaW.PrintLast Go.Proofs.YtgldcbcefncjjaaW.PrintMore
attribute [local go_sem] max2_int min2_int max_two min_two max_three min_three max_four min_four   -- for this text's walks alone
set_option linter.unusedVariables false
set_option linter.unusedSimpArgs false
/-! ### slices_ContainsFunc_Lint_int: function 71 -/
theorem idxFrom_any (p : Int → Bool) : ∀ (l : List Int) (i : Int), 0 ≤ i → (decide (idxFrom p l i ≥ 0) = l.any p) ∧ (decide (0 ≤ idxFrom p l i) = l.any p)
  | [], i, h => by simp [idxFrom]
  | x :: xs, i, h => by
    unfold idxFrom
    by_cases c : p x = true
    · simp [c, h]
    · simp only [c, if_false, List.any_cons, Bool.false_or]
      have := idxFrom_any p xs (i + 1) (by omega)
      simpa [c] using this
set_option maxHeartbeats 8000000 in
set_option maxRecDepth 100000 in
theorem slices_ContainsFunc_Lint_int.pred (p : Int → Bool) (g : Nat) (lb : Array Value) (eg : ∀ args w, (callFunc g args).run Try.prog w = .ok (.enter g args) w) (A0 : Option Addr) (c0 : Nat) (l0 : List Int) (w : World) (hr0 : Kd.C (Kd.int .i64) w A0 l0.length l0) (hc0 : l0.length ≤ c0)
    (hp : ∀ (W : World) (x : Int), Below w.heap.size w W → Calls Try.prog g (#[.int .i64 x] ++ lb) W fun e w' => e = .returned (.bool (p x)) ∧ Drawn0 W w') :
    Calls Try.prog 71 #[.slice A0 l0.length c0, .func (.func g) #[] lb] w fun e w' => e = .returned (.bool (l0.any p)) ∧ Drawn0 w w' := by
  obtain ⟨h1, h2⟩ := idxFrom_any p l0 0 (by omega)
  have HR0 := Aside0.mk hr0
  have HC0 := Aside0.mk hc0
  have HP := Aside0.mk hp
  clear hr0 hc0 hp
  rw [← h2]
  clear h1 h2
  go_enter Try.func71, Try.ntmps71
  go_wp2_with (go_at_call 98; (with_reducible refine (slices_IndexFunc_Lint_int.pred p g lb eg _ _ l0 _ ?side1 ?side2 ?side3).mono ?_); (case side1 => exact HR0.out); (case side2 => exact HC0.out); (case side3 => exact HP.out); rintro e w' ⟨rfl, ⟨nd, rfl⟩⟩)
  go_ret
  exact ⟨rfl, by repeat (first | exact Drawn0.refl _ | apply Drawn0.step)⟩
end Go.Proofs.Ytgldcbcefncjjaa.F
end
section
/- Laid by a program of this claim's own. What the Go function does, as a Lean function, and the proof that the Go code does just that; Lean checks it. -/
namespace Go.Proofs.Ytgldcbcefncjjaa.F
open Go.RowKit Go.Proofs.YtgldcbcefncjjaaW.PrintWords Go.Proofs.YtgldcbcefncjjaaW.PrintLast Go.Proofs.YtgldcbcefncjjaaW.PrintMore
attribute [local go_sem] max2_int min2_int max_two min_two max_three min_three max_four min_four   -- for this text's walks alone
set_option linter.unusedVariables false
set_option linter.unusedSimpArgs false
/-! ### impl_ForceOk_1: function 72 -/
def impl_ForceOk_1.f (a0 : Int) : Option (Bool) := some (a0 != 1)
set_option maxHeartbeats 8000000 in
set_option maxRecDepth 100000 in
theorem impl_ForceOk_1.calls (a0 : Int) (r : Bool) (w : World) (h : impl_ForceOk_1.f a0 = some r) :
    Calls Try.prog 72 #[.int .i64 a0] w fun e w' => e = .returned (.bool r) ∧ Drawn0 w w' := by
  have H : (some (a0 != 1)) = some r := h
  clear h
  obtain rfl := Option.some.inj H
  go_enter Try.func72, Try.ntmps72
  go_wp2
  go_ret
  exact ⟨by first | rfl | (simp; done) | (simp [*]; done), by repeat (first | exact Drawn0.refl _ | apply Drawn0.step)⟩
end Go.Proofs.Ytgldcbcefncjjaa.F
end
section
/- Laid by a program of this claim's own. What the Go function does, as a Lean function, and the proof that the Go code does just that; Lean checks it. -/
namespace Go.Proofs.Ytgldcbcefncjjaa.F
open Go.RowKit Go.Proofs.YtgldcbcefncjjaaW.PrintWords Go.Proofs.YtgldcbcefncjjaaW.PrintLast Go.Proofs.YtgldcbcefncjjaaW.PrintMore
attribute [local go_sem] max2_int min2_int max_two min_two max_three min_three max_four min_four   -- for this text's walks alone
set_option linter.unusedVariables false
set_option linter.unusedSimpArgs false
/-! ### slices_ContainsFunc_Lint_int__impl_ForceOk_1: function 71 -/
theorem impl_ForceOk_1.some_ (x : Int) : ∃ b, impl_ForceOk_1.f x = some b := by
  unfold impl_ForceOk_1.f
  repeat' split
  all_goals exact ⟨_, rfl⟩
def slices_ContainsFunc_Lint_int__impl_ForceOk_1.f (l0 : List Int) : Option (Bool) := some (l0.any fun x => impl_ForceOk_1.f x == some true)
theorem slices_ContainsFunc_Lint_int__impl_ForceOk_1.calls (A0 : Option Addr) (c0 : Nat) (l0 : List Int) (r : Bool) (w : World) (hr0 : Kd.C (Kd.int .i64) w A0 l0.length l0) (hc0 : l0.length ≤ c0) (h : slices_ContainsFunc_Lint_int__impl_ForceOk_1.f l0 = some r) :
    Calls Try.prog 71 #[.slice A0 l0.length c0, .func (.func 72) #[] #[]] w fun e w' => e = .returned (.bool r) ∧ Drawn0 w w' := by
  obtain rfl := Option.some.inj h
  refine slices_ContainsFunc_Lint_int.pred (fun x => impl_ForceOk_1.f x == some true) 72 #[] (enters_of Try.func72 (by kernel_rfl) rfl) A0 c0 l0 w hr0 hc0 (fun W x _ => ?_)
  obtain ⟨b, hb⟩ := impl_ForceOk_1.some_ x
  have e : (impl_ForceOk_1.f x == some true) = b := by rw [hb]; cases b <;> rfl
  show Calls _ _ _ W fun e w' => e = .returned (.bool (impl_ForceOk_1.f x == some true)) ∧ Drawn0 W w'
  rw [e]
  exact impl_ForceOk_1.calls x b W hb
/-! ### impl_ForceOk: function 34 -/
mutual
def impl_ForceOk.j0 : Nat → List (S49) → Bool → Option (Bool)
  | 0, _, _ => none
  | k + 1, x0, x15 => if x15 = true then (some false) else (if 0 ≤ (x0.length : Int) then (if ((x0.length : Int) : Int).toNat ≤ 35184372088832 then (impl_ForceOk.l0 k x0 (List.replicate ((x0.length : Int) : Int).toNat 0) x0 (x0.length : Int) 0) else (none)) else (none))
def impl_ForceOk.l0 : Nat → List (S49) → List Int → List (S49) → Int → Int → Option (Bool)
  | 0, _, _, _, _, _ => none
  | k + 1, x0, x3, x19, x20, x21 => if x21 < x20 then (if 0 ≤ x21 then (if x21 < (x19.length : Int) then (if ((rd_T49 x19 x21).f2) < 0 then (impl_ForceOk.j2 k x0 x3 x21 x19 x20 x21 true ((rd_T49 x19 x21).f0) ((rd_T49 x19 x21).f1) ((rd_T49 x19 x21).f2)) else (if (((rd_T49 x19 x21).f1).length : Int) > 0 then (impl_ForceOk.j2 k x0 x3 x21 x19 x20 x21 (((rd_T49 x19 x21).f2) != 0) ((rd_T49 x19 x21).f0) ((rd_T49 x19 x21).f1) ((rd_T49 x19 x21).f2)) else (impl_ForceOk.j2 k x0 x3 x21 x19 x20 x21 false ((rd_T49 x19 x21).f0) ((rd_T49 x19 x21).f1) ((rd_T49 x19 x21).f2)))) else (none)) else (none)) else (if 1 ≤ (x3.length : Int) then ((slices_ContainsFunc_Lint_int__impl_ForceOk_1.f (x3.drop 1)).bind fun t224 => (some (!t224))) else (none))
def impl_ForceOk.j2 : Nat → List (S49) → List Int → Int → List (S49) → Int → Int → Bool → ByteArray → List Int → Int → Option (Bool)
  | 0, _, _, _, _, _, _, _, _, _, _ => none
  | k + 1, x0, x3, x4, x19, x20, x21, x39, x227000, x227001, x227002 => if x39 = true then (some false) else (impl_ForceOk.l1 k x0 x3 x4 x19 x20 x21 x227001 (x227001.length : Int) 0)
def impl_ForceOk.l1 : Nat → List (S49) → List Int → Int → List (S49) → Int → Int → List Int → Int → Int → Option (Bool)
  | 0, _, _, _, _, _, _, _, _, _ => none
  | k + 1, x0, x3, x4, x19, x20, x21, x41, x42, x43 => if x43 < x42 then (if 0 ≤ x43 then (if x43 < (x41.length : Int) then (if (rd x41 x43) ≤ x4 then (some false) else (if (rd x41 x43) ≥ (x0.length : Int) then (some false) else (if 0 ≤ (rd x41 x43) then (if (rd x41 x43) < (x3.length : Int) then (impl_ForceOk.l1 k x0 (x3.set ((rd x41 x43) : Int).toNat (wrap64 ((rd x3 (rd x41 x43)) + 1))) x4 x19 x20 x21 x41 x42 (wrap64 (x43 + 1))) else (none)) else (none)))) else (none)) else (none)) else (impl_ForceOk.l0 k x0 x3 x19 x20 (wrap64 (x21 + 1)))
end
def impl_ForceOk.f (k : Nat) (l0 : List (S49)) : Option (Bool) := if (l0.length : Int) < 1 then (impl_ForceOk.j0 k l0 true) else (impl_ForceOk.j0 k l0 (decide ((l0.length : Int) > 40)))
set_option maxHeartbeats 8000000 in
set_option maxRecDepth 100000 in
theorem impl_ForceOk.calls (k : Nat) (A0 : Option Addr) (c0 : Nat) (l0 : List (S49)) (r : Bool) (w : World) (hr0 : Kd.C k49 w A0 l0.length l0) (hc0 : l0.length ≤ c0) (h : impl_ForceOk.f k l0 = some r) :
    Calls Try.prog 34 #[.slice A0 l0.length c0] w fun e w' => e = .returned (.bool r) ∧ Below w.heap.size w w' := by
  have hu49 := Try.underlying49
  have HR0 := Aside0.mk hr0
  have HC0 := Aside0.mk hc0
  clear hr0 hc0
  have HB := Aside0.mk (Below.refl w.heap.size w)
  have H : (if (l0.length : Int) < 1 then (impl_ForceOk.j0 k l0 true) else (impl_ForceOk.j0 k l0 (decide ((l0.length : Int) > 40)))) = some r := h
  clear h
  have HC2 := Aside0.mk H
  clear H
  go_enter Try.func34, Try.ntmps34
  go_upto_region 1 with (fail)
  go_cut [15] (fun v15 wc => ∃ (kq : Nat) (x15_1 : Bool), v15 = .bool x15_1 ∧ Aside0 (impl_ForceOk.j0 kq l0 x15_1 = some r) ∧ Aside0 (kq ≤ k) ∧ Aside0 (Below w.heap.size w wc))
  case first =>
    have H := HC2.out
    clear HC2
    by_cases c3 : (l0.length : Int) < 1
    · rw [if_pos c3] at H
      have c3b0 : decide ((l0.length : Int) < 1) = true := decide_eq_true c3
      have c3b1 : decide (l0.length < 1) = true := decide_eq_true (by omega)
      clear c3
      (first | rw [c3b0] | (simp only [i64_w, i32_w]; rw [c3b0]) | skip)
      have H' := Aside0.mk H
      clear H
      go_wp2
      go_meet
      case rel => exact ⟨_, (true), (by first | rfl | (simp; done) | (simp [*]; done)), H', ⟨by first | omega | exact Nat.le_refl _⟩, ⟨by repeat (first | (with_reducible first | exact HB.out | apply below_alloc | apply pw_below_drewN | apply below_drew1) | exact HB.out)⟩⟩
    · rw [if_neg c3] at H
      have c3b0 : decide ((l0.length : Int) < 1) = false := decide_eq_false c3
      have c3b1 : decide (l0.length < 1) = false := decide_eq_false (by omega)
      clear c3
      (first | rw [c3b0] | (simp only [i64_w, i32_w]; rw [c3b0]) | skip)
      have H' := Aside0.mk H
      clear H
      go_wp2
      go_meet
      case rel => exact ⟨_, (decide ((l0.length : Int) > 40)), (by first | rfl | (simp; done) | (simp [*]; done)), H', ⟨by first | omega | exact Nat.le_refl _⟩, ⟨by repeat (first | (with_reducible first | exact HB.out | apply below_alloc | apply pw_below_drewN | apply below_drew1) | exact HB.out)⟩⟩
  case rest =>
    clear HC2
    try clear p2
    try clear c3
    try clear c3b0
    try clear c3b1
    obtain ⟨kq, x15_1, rfl, HA, HJ1, HB⟩ := hcut
    cases kq with
    | zero => exact absurd HA.out (by simp [impl_ForceOk.j0])
    | succ kj1 =>
      have H := HA.out
      clear HA
      simp only [impl_ForceOk.j0] at H
      by_cases c4 : x15_1 = true
      · subst c4
        have H1 : (some false) = some r := by rw [if_pos rfl] at H; exact H
        clear H
        have H := H1
        clear H1
        obtain rfl := Option.some.inj H
        go_wp2
        go_ret
        exact ⟨by first | rfl | (simp [errW_none, errW_some] <;> rfl) | (simp [*, errW_none, errW_some] <;> rfl), by repeat (first | (with_reducible first | exact HB.out | apply below_alloc | apply pw_below_drewN | apply below_drew1) | exact HB.out)⟩
      · replace c4 := Bool.eq_false_iff.mpr c4
        subst c4
        have H1 : (if 0 ≤ (l0.length : Int) then (if ((l0.length : Int) : Int).toNat ≤ 35184372088832 then (impl_ForceOk.l0 kj1 l0 (List.replicate ((l0.length : Int) : Int).toNat 0) l0 (l0.length : Int) 0) else (none)) else (none)) = some r := by rw [if_neg (show ¬ (false = true) by decide)] at H; exact H
        clear H
        have H := H1
        clear H1
        by_cases c5 : 0 ≤ (l0.length : Int)
        · rw [if_pos c5] at H
          have c5b0 := eq_true c5
          have c5b1 : decide (0 ≤ (l0.length : Int)) = true := decide_eq_true c5
          clear c5
          by_cases c6 : ((l0.length : Int) : Int).toNat ≤ 35184372088832
          · rw [if_pos c6] at H
            have c6b0 := eq_true c6
            have c6b1 : decide (((l0.length : Int) : Int).toNat ≤ 35184372088832) = true := decide_eq_true c6
            clear c6
            obtain ⟨y217, hy217⟩ : ∃ y_ : List Int, y_ = (List.replicate ((l0.length : Int) : Int).toNat 0) := ⟨_, rfl⟩
            replace H : (impl_ForceOk.l0 kj1 l0 y217 l0 (l0.length : Int) 0) = some r := by first | (rw [hy217]; with_reducible exact H) | (have H2_ := (Option.bind_some _ _).symm.trans H; rw [hy217]; with_reducible exact H2_) | (have H2_ := (Option.bind_some _ _).symm.trans H; with_reducible exact H2_) | with_reducible exact H | (rw [hy217]; exact H) | exact H
            have Ny217 := Aside0.mk hy217
            clear hy217
            have H' := Aside0.mk H
            clear H
            go_wp2_with (first | ((with_reducible refine gate_dst (N := 18) rfl ?_); (try (refine gate_guard (by rfl) ?_; dsimp only)); refine Kd.R_make (Kd.int .i64) _ 3 rfl (N := 18) rfl 22 _ _ rfl (l0.length : Int) rfl rfl Try.underlying22 (.int .i64 0) 8 info3 rfl (by decide) (by omega) 0 (ok := fun _ => True) (okp := fun _ => True) rfl (fun _ hk => hk) trivial (of_decide_eq_true (by first | (with_reducible assumption) | assumption)) (Nat.le_trans (Nat.mul_le_mul_right _ (of_decide_eq_true (by first | (with_reducible assumption) | assumption) : (l0.length : Int).toNat ≤ 35184372088832)) (by omega)) (Below.refl _ _) (Nat.le_refl _) ?_; intro v218 w7 ho8 hb hg_ hnew_; clear hg_ hnew_; (first | rw [← Ny217.out] at ho8 | (simp only [Int.reduceToNat] at ho8; rw [← Ny217.out] at ho8)); have n0_ := Aside0.mk (Kd.R_lower ho8 (below_size (by repeat (first | (with_reducible first | exact HB.out | apply below_alloc | apply pw_below_drewN | apply below_drew1) | exact HB.out)))); have n1_ := Aside0.mk (below_step (by repeat (first | (with_reducible first | exact HB.out | apply below_alloc | apply pw_below_drewN | apply below_drew1) | exact HB.out)) hb); clear HB; have HO219 := n0_; have HB := n1_; clear n0_ n1_; clear hb ho8))
            go_loopg [21] kj1 (fun kq v21 w' => ∃ (x3_2 : List Int) (x21_2 : Int), v21 = .int .i64 x21_2 ∧ Aside0 (impl_ForceOk.l0 kq l0 x3_2 l0 (l0.length : Int) x21_2 = some r) ∧ Aside0 (kq ≤ kj1) ∧ Aside0 (Kd.R (Kd.int .i64) 3 w' w.heap.size (fun _ => True) v218 x3_2) ∧ Aside0 (Below w.heap.size w w'))
            case atStart => exact ⟨(y217), (0), (by first | rfl | (simp; done) | (simp [*]; done)), H', ⟨Nat.le_refl _⟩, ⟨by (with_reducible repeat (first | apply Kd.R_alloc | apply Kd.R_drewN | apply Kd.R_drew)); exact HO219.out⟩, ⟨by repeat (first | (with_reducible first | exact HB.out | apply below_alloc | apply pw_below_drewN | apply below_drew1) | exact HB.out)⟩⟩
            case round =>
              clear H'
              try clear p2
              try clear c3
              try clear c3b0
              try clear c3b1
              try clear c4
              try clear c5
              try clear c5b0
              try clear c5b1
              try clear c6
              try clear c6b0
              try clear c6b1
              try clear p2
              obtain ⟨x3_2, x21_2, rfl, HA, HK2, HO_3, HB⟩ := hrel
              cases gk with
              | zero => exact absurd HA.out (by simp [impl_ForceOk.l0])
              | succ k2 =>
                have H := HA.out
                clear HA
                simp only [impl_ForceOk.l0] at H
                by_cases c9 : x21_2 < (l0.length : Int)
                · rw [if_pos c9] at H
                  have c9b0 : decide (x21_2 < (l0.length : Int)) = true := decide_eq_true c9
                  clear c9
                  by_cases c10 : 0 ≤ x21_2
                  · rw [if_pos c10] at H
                    have c10b0 : decide (0 ≤ x21_2) = true := decide_eq_true c10
                    clear c10
                    by_cases c11 : x21_2 < (l0.length : Int)
                    · rw [if_pos c11] at H
                      have c11b0 : decide (x21_2 < (l0.length : Int)) = true := decide_eq_true c11
                      clear c11
                      have HC12 := Aside0.mk H
                      clear H
                      have p225 : 0 ≤ (x21_2 : Int) := of_decide_eq_true (by first | (with_reducible assumption) | assumption)
                      have q225 : x21_2 < (l0.length : Int) := of_decide_eq_true (by first | (with_reducible assumption) | assumption)
                      obtain ⟨ad225, A225_1, c225_1, e225, hx225_0, hx225_1, hx225_2, hl225_1, hi225_1⟩ := at_T49 HR0.out x21_2 p225 q225
                      cases e225
                      replace hx225_0 := (HB.out.cell (World.block_lt_of_cell? w _ hx225_0)).trans hx225_0
                      replace hx225_1 := (HB.out.cell (World.block_lt_of_cell? w _ hx225_1)).trans hx225_1
                      replace hx225_2 := (HB.out.cell (World.block_lt_of_cell? w _ hx225_2)).trans hx225_2
                      have HR225_1 := Aside0.mk hi225_1
                      have HC225_1 := Aside0.mk hl225_1
                      clear hi225_1 hl225_1
                      replace p225 := eq_true p225
                      replace q225 := eq_true q225
                      go_upto_region 7 with (first | ((with_reducible refine gate_dst (N := 5) rfl ?_); (try (refine gate_guard (by rfl) ?_; dsimp only)); refine box_event ?hg (N := 5) ?hd (cs := #[.string (⟨#[]⟩ : ByteArray), .slice none 0 0, .int .i64 0]) (t := 49) ?hr ?_; (case hd => rfl); (case hg => rfl); (case hr => first | (go_simp; done) | (go_simp; rfl)); intro gb226 hg w13 hbox hb; have n0_ := Aside0.mk (Kd.R_below (by (with_reducible repeat (first | apply Kd.R_alloc | apply Kd.R_drewN | apply Kd.R_drew)); exact HO_3.out) hb); have n1_ := Aside0.mk (below_step (by repeat (first | (with_reducible first | exact HB.out | apply below_alloc | apply pw_below_drewN | apply below_drew1) | exact HB.out)) hb); have n2_ := Aside0.mk (hbox); have n3_ := Aside0.mk ((by rw [hg]; exact (below_size (by repeat (first | (with_reducible first | exact HB.out | apply below_alloc | apply pw_below_drewN | apply below_drew1) | exact HB.out))) : w.heap.size ≤ gb226)); have n4_ := Aside0.mk ((by rw [hg]; exact (below_size (by repeat (first | (with_reducible first | exact HB.out | apply below_alloc | apply pw_below_drewN | apply below_drew1) | exact HB.out))) : w.heap.size ≤ gb226)); clear HO_3; clear HB; have HO_3 := n0_; have HB := n1_; have BK226 := n2_; have GW226 := n3_; have GE226 := n4_; clear n0_ n1_ n2_ n3_ n4_; clear hb hbox hg; have hcz14_0 : w13.cell? ⟨gb226, 0, none⟩ = some (.string (⟨#[]⟩ : ByteArray)) := (blk_cell BK226.out 0).trans rfl; have hcz14_1 : w13.cell? ⟨gb226, 1, none⟩ = some (.slice none 0 0) := (blk_cell BK226.out 1).trans rfl; have hcz14_2 : w13.cell? ⟨gb226, 2, none⟩ = some (.int .i64 0) := (blk_cell BK226.out 2).trans rfl; have hfz14_0 := blk_frozen BK226.out 0; have hfz14_1 := blk_frozen BK226.out 1; have hfz14_2 := blk_frozen BK226.out 2))
                      (try simp only [Act.put, List.setIfInBounds_toArray, List.set_cons_zero, List.set_cons_succ])
                      go_cut [39] (fun v39 wc => ∃ (kq : Nat) (x39_11 : Bool), v39 = .bool x39_11 ∧ Aside0 (impl_ForceOk.j2 kq l0 x3_2 x21_2 l0 (l0.length : Int) x21_2 x39_11 ((rd_T49 l0 x21_2).f0) ((rd_T49 l0 x21_2).f1) ((rd_T49 l0 x21_2).f2) = some r) ∧ Aside0 (kq ≤ k2) ∧ Aside0 (Kd.R (Kd.int .i64) 3 wc w.heap.size (fun _ => True) v218 x3_2) ∧ Aside0 (wc.heap[gb226]? = some (.cells #[.string ((rd_T49 l0 x21_2).f0), (.slice A225_1 ((rd_T49 l0 x21_2).f1).length c225_1), .int .i64 ((rd_T49 l0 x21_2).f2)] 49 (0, 0))) ∧ Aside0 (Below w.heap.size w wc))
                      case first =>
                        have H := HC12.out
                        clear HC12
                        by_cases c15 : ((rd_T49 l0 x21_2).f2) < 0
                        · rw [if_pos c15] at H
                          have c15b0 : decide (((rd_T49 l0 x21_2).f2) < 0) = true := decide_eq_true c15
                          clear c15
                          (first | rw [c15b0] | (simp only [i64_w, i32_w]; rw [c15b0]) | skip)
                          have H' := Aside0.mk H
                          clear H
                          have hcz16_0 : w13.cell? ⟨gb226, 0, none⟩ = some (.string (⟨#[]⟩ : ByteArray)) := (blk_cell BK226.out 0).trans rfl
                          have hcz16_1 : w13.cell? ⟨gb226, 1, none⟩ = some (.slice none 0 0) := (blk_cell BK226.out 1).trans rfl
                          have hcz16_2 : w13.cell? ⟨gb226, 2, none⟩ = some (.int .i64 0) := (blk_cell BK226.out 2).trans rfl
                          have hfz16_0 := blk_frozen BK226.out 0
                          have hfz16_1 := blk_frozen BK226.out 1
                          have hfz16_2 := blk_frozen BK226.out 2
                          go_wp2
                          go_meet
                          case rel => exact ⟨_, (true), (by first | rfl | (simp; done) | (simp [*]; done)), H', ⟨by have := HJ1.out; have := HK2.out; first | omega | exact Nat.le_refl _⟩, ⟨by (with_reducible repeat (first | apply Kd.R_alloc | apply Kd.R_drewN | apply Kd.R_drew)); exact Kd.R_mono (Kd.R_far (p := ⟨gb226, 2, none⟩) (Kd.R_far (p := ⟨gb226, 1, none⟩) (Kd.R_far (p := ⟨gb226, 0, none⟩) (Kd.R_types HO_3.out BK226.out (by decide)) (fun _ hk => hk.2) (.string ((rd_T49 l0 x21_2).f0))) (fun _ hk => hk.2) (.slice A225_1 ((rd_T49 l0 x21_2).f1).length c225_1)) (fun _ hk => hk.2) (.int .i64 ((rd_T49 l0 x21_2).f2))) (fun _ hk => trivial)⟩, ⟨by (with_reducible repeat (first | refine blk_drewN ?_ _ | refine blk_drew ?_ | refine blk_alloc ?_ _)); refine blk_put (cs := #[.string ((rd_T49 l0 x21_2).f0), .slice A225_1 ((rd_T49 l0 x21_2).f1).length c225_1, .int .i64 0]) ?_ 2 _ rfl; (with_reducible repeat (first | refine blk_drewN ?_ _ | refine blk_drew ?_ | refine blk_alloc ?_ _)); refine blk_put (cs := #[.string ((rd_T49 l0 x21_2).f0), .slice none 0 0, .int .i64 0]) ?_ 1 _ rfl; (with_reducible repeat (first | refine blk_drewN ?_ _ | refine blk_drew ?_ | refine blk_alloc ?_ _)); refine blk_put (cs := #[.string (⟨#[]⟩ : ByteArray), .slice none 0 0, .int .i64 0]) ?_ 0 _ rfl; (with_reducible repeat (first | refine blk_drewN ?_ _ | refine blk_drew ?_ | refine blk_alloc ?_ _)); exact BK226.out⟩, ⟨by repeat (first | (with_reducible first | exact HB.out | apply below_alloc | apply pw_below_drewN | apply below_drew1 | refine below_set ?_ GE226.out) | exact HB.out)⟩⟩
                        · rw [if_neg c15] at H
                          have c15b0 : decide (((rd_T49 l0 x21_2).f2) < 0) = false := decide_eq_false c15
                          clear c15
                          (first | rw [c15b0] | (simp only [i64_w, i32_w]; rw [c15b0]) | skip)
                          by_cases c17 : (((rd_T49 l0 x21_2).f1).length : Int) > 0
                          · rw [if_pos c17] at H
                            have c17b0 : decide (0 < (((rd_T49 l0 x21_2).f1).length : Int)) = true := decide_eq_true c17
                            have c17b1 : decide (0 < ((rd_T49 l0 x21_2).f1).length) = true := decide_eq_true (by omega)
                            clear c17
                            have H' := Aside0.mk H
                            clear H
                            have hcz18_0 : w13.cell? ⟨gb226, 0, none⟩ = some (.string (⟨#[]⟩ : ByteArray)) := (blk_cell BK226.out 0).trans rfl
                            have hcz18_1 : w13.cell? ⟨gb226, 1, none⟩ = some (.slice none 0 0) := (blk_cell BK226.out 1).trans rfl
                            have hcz18_2 : w13.cell? ⟨gb226, 2, none⟩ = some (.int .i64 0) := (blk_cell BK226.out 2).trans rfl
                            have hfz18_0 := blk_frozen BK226.out 0
                            have hfz18_1 := blk_frozen BK226.out 1
                            have hfz18_2 := blk_frozen BK226.out 2
                            go_wp2
                            go_meet
                            case rel => exact ⟨_, ((((rd_T49 l0 x21_2).f2) != 0)), (by first | rfl | (simp; done) | (simp [*]; done)), H', ⟨by have := HJ1.out; have := HK2.out; first | omega | exact Nat.le_refl _⟩, ⟨by (with_reducible repeat (first | apply Kd.R_alloc | apply Kd.R_drewN | apply Kd.R_drew)); exact Kd.R_mono (Kd.R_far (p := ⟨gb226, 2, none⟩) (Kd.R_far (p := ⟨gb226, 1, none⟩) (Kd.R_far (p := ⟨gb226, 0, none⟩) (Kd.R_types HO_3.out BK226.out (by decide)) (fun _ hk => hk.2) (.string ((rd_T49 l0 x21_2).f0))) (fun _ hk => hk.2) (.slice A225_1 ((rd_T49 l0 x21_2).f1).length c225_1)) (fun _ hk => hk.2) (.int .i64 ((rd_T49 l0 x21_2).f2))) (fun _ hk => trivial)⟩, ⟨by (with_reducible repeat (first | refine blk_drewN ?_ _ | refine blk_drew ?_ | refine blk_alloc ?_ _)); refine blk_put (cs := #[.string ((rd_T49 l0 x21_2).f0), .slice A225_1 ((rd_T49 l0 x21_2).f1).length c225_1, .int .i64 0]) ?_ 2 _ rfl; (with_reducible repeat (first | refine blk_drewN ?_ _ | refine blk_drew ?_ | refine blk_alloc ?_ _)); refine blk_put (cs := #[.string ((rd_T49 l0 x21_2).f0), .slice none 0 0, .int .i64 0]) ?_ 1 _ rfl; (with_reducible repeat (first | refine blk_drewN ?_ _ | refine blk_drew ?_ | refine blk_alloc ?_ _)); refine blk_put (cs := #[.string (⟨#[]⟩ : ByteArray), .slice none 0 0, .int .i64 0]) ?_ 0 _ rfl; (with_reducible repeat (first | refine blk_drewN ?_ _ | refine blk_drew ?_ | refine blk_alloc ?_ _)); exact BK226.out⟩, ⟨by repeat (first | (with_reducible first | exact HB.out | apply below_alloc | apply pw_below_drewN | apply below_drew1 | refine below_set ?_ GE226.out) | exact HB.out)⟩⟩
                          · rw [if_neg c17] at H
                            have c17b0 : decide (0 < (((rd_T49 l0 x21_2).f1).length : Int)) = false := decide_eq_false c17
                            have c17b1 : decide (0 < ((rd_T49 l0 x21_2).f1).length) = false := decide_eq_false (by omega)
                            clear c17
                            have H' := Aside0.mk H
                            clear H
                            have hcz19_0 : w13.cell? ⟨gb226, 0, none⟩ = some (.string (⟨#[]⟩ : ByteArray)) := (blk_cell BK226.out 0).trans rfl
                            have hcz19_1 : w13.cell? ⟨gb226, 1, none⟩ = some (.slice none 0 0) := (blk_cell BK226.out 1).trans rfl
                            have hcz19_2 : w13.cell? ⟨gb226, 2, none⟩ = some (.int .i64 0) := (blk_cell BK226.out 2).trans rfl
                            have hfz19_0 := blk_frozen BK226.out 0
                            have hfz19_1 := blk_frozen BK226.out 1
                            have hfz19_2 := blk_frozen BK226.out 2
                            go_wp2
                            go_meet
                            case rel => exact ⟨_, (false), (by first | rfl | (simp; done) | (simp [*]; done)), H', ⟨by have := HJ1.out; have := HK2.out; first | omega | exact Nat.le_refl _⟩, ⟨by (with_reducible repeat (first | apply Kd.R_alloc | apply Kd.R_drewN | apply Kd.R_drew)); exact Kd.R_mono (Kd.R_far (p := ⟨gb226, 2, none⟩) (Kd.R_far (p := ⟨gb226, 1, none⟩) (Kd.R_far (p := ⟨gb226, 0, none⟩) (Kd.R_types HO_3.out BK226.out (by decide)) (fun _ hk => hk.2) (.string ((rd_T49 l0 x21_2).f0))) (fun _ hk => hk.2) (.slice A225_1 ((rd_T49 l0 x21_2).f1).length c225_1)) (fun _ hk => hk.2) (.int .i64 ((rd_T49 l0 x21_2).f2))) (fun _ hk => trivial)⟩, ⟨by (with_reducible repeat (first | refine blk_drewN ?_ _ | refine blk_drew ?_ | refine blk_alloc ?_ _)); refine blk_put (cs := #[.string ((rd_T49 l0 x21_2).f0), .slice A225_1 ((rd_T49 l0 x21_2).f1).length c225_1, .int .i64 0]) ?_ 2 _ rfl; (with_reducible repeat (first | refine blk_drewN ?_ _ | refine blk_drew ?_ | refine blk_alloc ?_ _)); refine blk_put (cs := #[.string ((rd_T49 l0 x21_2).f0), .slice none 0 0, .int .i64 0]) ?_ 1 _ rfl; (with_reducible repeat (first | refine blk_drewN ?_ _ | refine blk_drew ?_ | refine blk_alloc ?_ _)); refine blk_put (cs := #[.string (⟨#[]⟩ : ByteArray), .slice none 0 0, .int .i64 0]) ?_ 0 _ rfl; (with_reducible repeat (first | refine blk_drewN ?_ _ | refine blk_drew ?_ | refine blk_alloc ?_ _)); exact BK226.out⟩, ⟨by repeat (first | (with_reducible first | exact HB.out | apply below_alloc | apply pw_below_drewN | apply below_drew1 | refine below_set ?_ GE226.out) | exact HB.out)⟩⟩
                      case rest =>
                        clear HC12
                        try clear c1
                        try clear c2
                        try clear p2
                        try clear q2
                        try clear hx2
                        try clear c3
                        try clear c3b0
                        try clear c3b1
                        try clear c4
                        try clear c5
                        try clear c5b0
                        try clear c5b1
                        try clear c6
                        try clear c6b0
                        try clear c6b1
                        try clear c9
                        try clear c9b0
                        try clear c10
                        try clear c10b0
                        try clear c11
                        try clear c11b0
                        try clear c15
                        try clear c15b0
                        try clear c17
                        try clear c17b0
                        try clear c17b1
                        try clear hcz14_0
                        try clear hcz14_1
                        try clear hcz14_2
                        try clear hcz16_0
                        try clear hcz16_1
                        try clear hcz16_2
                        try clear hcz18_0
                        try clear hcz18_1
                        try clear hcz18_2
                        try clear hcz19_0
                        try clear hcz19_1
                        try clear hcz19_2
                        try clear hfz14_0
                        try clear hfz14_1
                        try clear hfz14_2
                        try clear hfz16_0
                        try clear hfz16_1
                        try clear hfz16_2
                        try clear hfz18_0
                        try clear hfz18_1
                        try clear hfz18_2
                        try clear hfz19_0
                        try clear hfz19_1
                        try clear hfz19_2
                        try clear hx225_0
                        try clear hx225_1
                        try clear hx225_2
                        try clear p2
                        try clear p225
                        try clear q225
                        obtain ⟨kq, x39_11, rfl, HA, HJ11, HO_3, BK226, HB⟩ := hcut
                        cases kq with
                        | zero => exact absurd HA.out (by simp [impl_ForceOk.j2])
                        | succ kj11 =>
                          have H := HA.out
                          clear HA
                          simp only [impl_ForceOk.j2] at H
                          by_cases c20 : x39_11 = true
                          · subst c20
                            have H1 : (some false) = some r := by rw [if_pos rfl] at H; exact H
                            clear H
                            have H := H1
                            clear H1
                            obtain rfl := Option.some.inj H
                            go_wp2
                            go_ret
                            exact ⟨by first | rfl | (simp [errW_none, errW_some] <;> rfl) | (simp [*, errW_none, errW_some] <;> rfl), by repeat (first | (with_reducible first | exact HB.out | apply below_alloc | apply pw_below_drewN | apply below_drew1 | refine below_set ?_ GE226.out) | exact HB.out)⟩
                          · replace c20 := Bool.eq_false_iff.mpr c20
                            subst c20
                            have H1 : (impl_ForceOk.l1 kj11 l0 x3_2 x21_2 l0 (l0.length : Int) x21_2 ((rd_T49 l0 x21_2).f1) (((rd_T49 l0 x21_2).f1).length : Int) 0) = some r := by rw [if_neg (show ¬ (false = true) by decide)] at H; exact H
                            clear H
                            have H := H1
                            clear H1
                            have H' := Aside0.mk H
                            clear H
                            have hcz21_0 : wc.cell? ⟨gb226, 0, none⟩ = some (.string ((rd_T49 l0 x21_2).f0)) := (blk_cell BK226.out 0).trans rfl
                            have hcz21_1 : wc.cell? ⟨gb226, 1, none⟩ = some (.slice A225_1 ((rd_T49 l0 x21_2).f1).length c225_1) := (blk_cell BK226.out 1).trans rfl
                            have hcz21_2 : wc.cell? ⟨gb226, 2, none⟩ = some (.int .i64 ((rd_T49 l0 x21_2).f2)) := (blk_cell BK226.out 2).trans rfl
                            have hfz21_0 := blk_frozen BK226.out 0
                            have hfz21_1 := blk_frozen BK226.out 1
                            have hfz21_2 := blk_frozen BK226.out 2
                            go_wp2
                            go_loopg [43] kj11 (fun kq v43 w' => ∃ (x3_4 : List Int) (x43_4 : Int), v43 = .int .i64 x43_4 ∧ Aside0 (impl_ForceOk.l1 kq l0 x3_4 x21_2 l0 (l0.length : Int) x21_2 ((rd_T49 l0 x21_2).f1) (((rd_T49 l0 x21_2).f1).length : Int) x43_4 = some r) ∧ Aside0 (kq ≤ kj11) ∧ Aside0 (Kd.R (Kd.int .i64) 3 w' w.heap.size (fun _ => True) v218 x3_4) ∧ Aside0 (w'.heap[gb226]? = some (.cells #[.string ((rd_T49 l0 x21_2).f0), (.slice A225_1 ((rd_T49 l0 x21_2).f1).length c225_1), .int .i64 ((rd_T49 l0 x21_2).f2)] 49 (0, 0))) ∧ Aside0 (Below w.heap.size w w'))
                            case atStart => exact ⟨(x3_2), (0), (by first | rfl | (simp; done) | (simp [*]; done)), H', ⟨Nat.le_refl _⟩, ⟨by (with_reducible repeat (first | apply Kd.R_alloc | apply Kd.R_drewN | apply Kd.R_drew)); exact HO_3.out⟩, ⟨by (with_reducible repeat (first | refine blk_drewN ?_ _ | refine blk_drew ?_ | refine blk_alloc ?_ _)); exact BK226.out⟩, ⟨by repeat (first | (with_reducible first | exact HB.out | apply below_alloc | apply pw_below_drewN | apply below_drew1 | refine below_set ?_ GE226.out) | exact HB.out)⟩⟩
                            case round =>
                              clear H'
                              try clear c1
                              try clear c2
                              try clear p2
                              try clear q2
                              try clear hx2
                              try clear c3
                              try clear c3b0
                              try clear c3b1
                              try clear c4
                              try clear c5
                              try clear c5b0
                              try clear c5b1
                              try clear c6
                              try clear c6b0
                              try clear c6b1
                              try clear c9
                              try clear c9b0
                              try clear c10
                              try clear c10b0
                              try clear c11
                              try clear c11b0
                              try clear c15
                              try clear c15b0
                              try clear c17
                              try clear c17b0
                              try clear c17b1
                              try clear c20
                              try clear hcz14_0
                              try clear hcz14_1
                              try clear hcz14_2
                              try clear hcz16_0
                              try clear hcz16_1
                              try clear hcz16_2
                              try clear hcz18_0
                              try clear hcz18_1
                              try clear hcz18_2
                              try clear hcz19_0
                              try clear hcz19_1
                              try clear hcz19_2
                              try clear hcz21_0
                              try clear hcz21_1
                              try clear hcz21_2
                              try clear hfz14_0
                              try clear hfz14_1
                              try clear hfz14_2
                              try clear hfz16_0
                              try clear hfz16_1
                              try clear hfz16_2
                              try clear hfz18_0
                              try clear hfz18_1
                              try clear hfz18_2
                              try clear hfz19_0
                              try clear hfz19_1
                              try clear hfz19_2
                              try clear hfz21_0
                              try clear hfz21_1
                              try clear hfz21_2
                              try clear hx225_0
                              try clear hx225_1
                              try clear hx225_2
                              try clear p2
                              try clear p225
                              try clear q2
                              try clear q225
                              obtain ⟨x3_4, x43_4, rfl, HA, HK4, HO_3, BK226, HB⟩ := hrel
                              cases gk with
                              | zero => exact absurd HA.out (by simp [impl_ForceOk.l1])
                              | succ k4 =>
                                have H := HA.out
                                clear HA
                                simp only [impl_ForceOk.l1] at H
                                by_cases c22 : x43_4 < (((rd_T49 l0 x21_2).f1).length : Int)
                                · rw [if_pos c22] at H
                                  have c22b0 : decide (x43_4 < (((rd_T49 l0 x21_2).f1).length : Int)) = true := decide_eq_true c22
                                  clear c22
                                  by_cases c23 : 0 ≤ x43_4
                                  · rw [if_pos c23] at H
                                    have c23b0 : decide (0 ≤ x43_4) = true := decide_eq_true c23
                                    clear c23
                                    by_cases c24 : x43_4 < (((rd_T49 l0 x21_2).f1).length : Int)
                                    · rw [if_pos c24] at H
                                      have c24b0 : decide (x43_4 < (((rd_T49 l0 x21_2).f1).length : Int)) = true := decide_eq_true c24
                                      clear c24
                                      by_cases c25 : (rd ((rd_T49 l0 x21_2).f1) x43_4) ≤ x21_2
                                      · rw [if_pos c25] at H
                                        have c25b0 : decide ((rd ((rd_T49 l0 x21_2).f1) x43_4) ≤ x21_2) = true := decide_eq_true c25
                                        clear c25
                                        obtain rfl := Option.some.inj H
                                        have p227 : 0 ≤ (x43_4 : Int) := of_decide_eq_true (by first | (with_reducible assumption) | assumption)
                                        have q227 : x43_4 < (((rd_T49 l0 x21_2).f1).length : Int) := of_decide_eq_true (by first | (with_reducible assumption) | assumption)
                                        obtain ⟨ad227, e227, hx227_0⟩ := Kd.at_int HR225_1.out x43_4 p227 q227
                                        cases e227
                                        replace hx227_0 := (HB.out.cell (World.block_lt_of_cell? w _ hx227_0)).trans hx227_0
                                        replace p227 := eq_true p227
                                        replace q227 := eq_true q227
                                        go_wp2
                                        go_ret
                                        exact ⟨by first | rfl | (simp [errW_none, errW_some] <;> rfl) | (simp [*, errW_none, errW_some] <;> rfl), by repeat (first | (with_reducible first | exact HB.out | apply below_alloc | apply pw_below_drewN | apply below_drew1 | refine below_set ?_ GE226.out) | exact HB.out)⟩
                                      · rw [if_neg c25] at H
                                        have c25b0 : decide ((rd ((rd_T49 l0 x21_2).f1) x43_4) ≤ x21_2) = false := decide_eq_false c25
                                        clear c25
                                        by_cases c26 : (rd ((rd_T49 l0 x21_2).f1) x43_4) ≥ (l0.length : Int)
                                        · rw [if_pos c26] at H
                                          have c26b0 : decide ((l0.length : Int) ≤ (rd ((rd_T49 l0 x21_2).f1) x43_4)) = true := decide_eq_true c26
                                          clear c26
                                          obtain rfl := Option.some.inj H
                                          have p227 : 0 ≤ (x43_4 : Int) := of_decide_eq_true (by first | (with_reducible assumption) | assumption)
                                          have q227 : x43_4 < (((rd_T49 l0 x21_2).f1).length : Int) := of_decide_eq_true (by first | (with_reducible assumption) | assumption)
                                          obtain ⟨ad227, e227, hx227_0⟩ := Kd.at_int HR225_1.out x43_4 p227 q227
                                          cases e227
                                          replace hx227_0 := (HB.out.cell (World.block_lt_of_cell? w _ hx227_0)).trans hx227_0
                                          replace p227 := eq_true p227
                                          replace q227 := eq_true q227
                                          go_wp2
                                          go_ret
                                          exact ⟨by first | rfl | (simp [errW_none, errW_some] <;> rfl) | (simp [*, errW_none, errW_some] <;> rfl), by repeat (first | (with_reducible first | exact HB.out | apply below_alloc | apply pw_below_drewN | apply below_drew1 | refine below_set ?_ GE226.out) | exact HB.out)⟩
                                        · rw [if_neg c26] at H
                                          have c26b0 : decide ((l0.length : Int) ≤ (rd ((rd_T49 l0 x21_2).f1) x43_4)) = false := decide_eq_false c26
                                          clear c26
                                          by_cases c27 : 0 ≤ (rd ((rd_T49 l0 x21_2).f1) x43_4)
                                          · rw [if_pos c27] at H
                                            have c27b0 : decide (0 ≤ (rd ((rd_T49 l0 x21_2).f1) x43_4)) = true := decide_eq_true c27
                                            clear c27
                                            by_cases c28 : (rd ((rd_T49 l0 x21_2).f1) x43_4) < (x3_4.length : Int)
                                            · rw [if_pos c28] at H
                                              have c28b0 : decide ((rd ((rd_T49 l0 x21_2).f1) x43_4) < (x3_4.length : Int)) = true := decide_eq_true c28
                                              clear c28
                                              obtain ⟨y229, hy229⟩ : ∃ y_ : List Int, y_ = (x3_4.set ((rd ((rd_T49 l0 x21_2).f1) x43_4) : Int).toNat (wrap64 ((rd x3_4 (rd ((rd_T49 l0 x21_2).f1) x43_4)) + 1))) := ⟨_, rfl⟩
                                              replace H : (impl_ForceOk.l1 k4 l0 y229 x21_2 l0 (l0.length : Int) x21_2 ((rd_T49 l0 x21_2).f1) (((rd_T49 l0 x21_2).f1).length : Int) (wrap64 (x43_4 + 1))) = some r := by first | (rw [hy229]; with_reducible exact H) | (have H2_ := (Option.bind_some _ _).symm.trans H; rw [hy229]; with_reducible exact H2_) | (have H2_ := (Option.bind_some _ _).symm.trans H; with_reducible exact H2_) | with_reducible exact H | (rw [hy229]; exact H) | exact H
                                              have Ny229 := Aside0.mk hy229
                                              clear hy229
                                              have H' := Aside0.mk H
                                              clear H
                                              have p227 : 0 ≤ (x43_4 : Int) := of_decide_eq_true (by first | (with_reducible assumption) | assumption)
                                              have q227 : x43_4 < (((rd_T49 l0 x21_2).f1).length : Int) := of_decide_eq_true (by first | (with_reducible assumption) | assumption)
                                              obtain ⟨ad227, e227, hx227_0⟩ := Kd.at_int HR225_1.out x43_4 p227 q227
                                              cases e227
                                              replace hx227_0 := (HB.out.cell (World.block_lt_of_cell? w _ hx227_0)).trans hx227_0
                                              replace p227 := eq_true p227
                                              replace q227 := eq_true q227
                                              obtain ⟨Ao30, co30, eo30⟩ := Kd.R_slice HO_3.out
                                              subst eo30
                                              have p228 : 0 ≤ ((rd ((rd_T49 l0 x21_2).f1) x43_4) : Int) := of_decide_eq_true (by first | (with_reducible assumption) | assumption)
                                              have q228 : (rd ((rd_T49 l0 x21_2).f1) x43_4) < (x3_4.length : Int) := of_decide_eq_true (by first | (with_reducible assumption) | assumption)
                                              obtain ⟨ad228, e228, hx228_0⟩ := Kd.at_int (Kd.R_reads' HO_3.out).2.2 (rd ((rd_T49 l0 x21_2).f1) x43_4) p228 q228
                                              cases e228
                                              replace p228 := eq_true p228
                                              replace q228 := eq_true q228
                                              have p29 : 0 ≤ ((rd ((rd_T49 l0 x21_2).f1) x43_4) : Int) := of_decide_eq_true (by first | (with_reducible assumption) | assumption)
                                              have q29 : ((rd ((rd_T49 l0 x21_2).f1) x43_4) : Int) < ((x3_4.length : Int) : Int) := of_decide_eq_true (by first | (with_reducible assumption) | assumption)
                                              obtain ⟨go29, co29, eo29, gb29, gl29, cl29, HG29⟩ := Kd.R_form HO_3.out (by omega)
                                              (first | cases eo29 | (injection eo29 with ea_ en_ ec_; (first | subst ea_ | (injection ea_ with ea_; subst ea_)); subst ec_; clear en_))
                                              have GB29 := Aside0.mk gb29
                                              have GG29 := Aside0.mk HG29
                                              clear gb29 gl29 HG29
                                              (first | simp only [add_plain] at hx228_0 | skip)
                                              obtain ⟨hx29_0, hf29_0⟩ := Kd.R_celln 0 HO_3.out ((rd ((rd_T49 l0 x21_2).f1) x43_4) : Int) p29 q29
                                              replace p29 := eq_true p29
                                              replace q29 := eq_true q29
                                              have HP31 := Kd.R_putg HO_3.out ((rd ((rd_T49 l0 x21_2).f1) x43_4) : Int) (wrap64 ((rd x3_4 (rd ((rd_T49 l0 x21_2).f1) x43_4)) + 1))
                                              go_wp2_with (first | ((with_reducible refine gate_store (t := 3) (p := 61) rfl ?_); refine store_event (t := 3) (p := 61) (v := ?vo_w32) (w1 := (wr.setCell ⟨go29, ((rd ((rd_T49 l0 x21_2).f1) x43_4) : Int).toNat, none⟩ (.int .i64 (wrap64 ((rd x3_4 (rd ((rd_T49 l0 x21_2).f1) x43_4)) + 1))))) ?hg ?ho ?hn ?hr ?_; (case ho => rfl); (case hg => rfl); (case hn => rfl); (case hr => first | (go_simp; done) | (go_simp; rfl)); intro w32 hw; have hg : wr.grownBy w32 (some go29) := (by rw [hw]; exact HP31.2); have hp_ : Kd.R (Kd.int .i64) 3 w32 w.heap.size (fun _ => True) (.slice (some ⟨go29, 0, none⟩) x3_4.length co30) y229 := (by rw [hw, Ny229.out]; exact HP31.1); clear HP31; have n0_ := Aside0.mk (hp_); have n1_ := Aside0.mk (blk_grown (g := gb226) (o := .cells #[.string ((rd_T49 l0 x21_2).f0), .slice (some ad227) ((rd_T49 l0 x21_2).f1).length c225_1, .int .i64 ((rd_T49 l0 x21_2).f2)] 49 (0, 0)) (by (with_reducible repeat (first | refine blk_drewN ?_ _ | refine blk_drew ?_ | refine blk_alloc ?_ _)); exact BK226.out) hg (Kd.R_ne HO_3.out BK226.out (by decide))); have n2_ := Aside0.mk ((by rw [hw]; exact below_set (HB.out) GB29.out : Below w.heap.size w w32)); clear HO_3; clear BK226; clear HB; have HO_3 := n0_; have BK226 := n1_; have HB := n2_; clear n0_ n1_ n2_; clear hg hw hp_))
                                              go_roundg k4
                                              case measure => have := HJ1.out; have := HK2.out; have := HJ11.out; have := HK4.out; omega
                                              case rel => exact ⟨(y229), (wrap64 (x43_4 + 1)), (by first | rfl | (simp; done) | (simp [*]; done)), H', ⟨by have := HJ1.out; have := HK2.out; have := HJ11.out; have := HK4.out; omega⟩, ⟨by (with_reducible repeat (first | apply Kd.R_alloc | apply Kd.R_drewN | apply Kd.R_drew)); exact HO_3.out⟩, ⟨by (with_reducible repeat (first | refine blk_drewN ?_ _ | refine blk_drew ?_ | refine blk_alloc ?_ _)); exact BK226.out⟩, ⟨by repeat (first | (with_reducible first | exact HB.out | apply below_alloc | apply pw_below_drewN | apply below_drew1 | refine below_set ?_ GE226.out) | exact HB.out)⟩⟩
                                            · rw [if_neg c28] at H
                                              exact absurd H (by simp)
                                          · rw [if_neg c27] at H
                                            exact absurd H (by simp)
                                    · rw [if_neg c24] at H
                                      exact absurd H (by simp)
                                  · rw [if_neg c23] at H
                                    exact absurd H (by simp)
                                · rw [if_neg c22] at H
                                  have c22b0 : decide (x43_4 < (((rd_T49 l0 x21_2).f1).length : Int)) = false := decide_eq_false c22
                                  clear c22
                                  have H' := Aside0.mk H
                                  clear H
                                  go_wp2
                                  go_roundg k4
                                  case measure => have := HJ1.out; have := HK2.out; have := HJ11.out; have := HK4.out; omega
                                  case rel => exact ⟨(x3_4), (wrap64 (x21_2 + 1)), (by first | rfl | (simp; done) | (simp [*]; done)), H', ⟨by have := HJ1.out; have := HK2.out; have := HJ11.out; have := HK4.out; omega⟩, ⟨by (with_reducible repeat (first | apply Kd.R_alloc | apply Kd.R_drewN | apply Kd.R_drew)); exact HO_3.out⟩, ⟨by repeat (first | (with_reducible first | exact HB.out | apply below_alloc | apply pw_below_drewN | apply below_drew1 | refine below_set ?_ GE226.out) | exact HB.out)⟩⟩
                    · rw [if_neg c11] at H
                      exact absurd H (by simp)
                  · rw [if_neg c10] at H
                    exact absurd H (by simp)
                · rw [if_neg c9] at H
                  have c9b0 : decide (x21_2 < (l0.length : Int)) = false := decide_eq_false c9
                  clear c9
                  by_cases c33 : 1 ≤ (x3_2.length : Int)
                  · rw [if_pos c33] at H
                    have c33b0 := eq_true c33
                    have c33b1 : decide (1 ≤ (x3_2.length : Int)) = true := decide_eq_true c33
                    clear c33
                    obtain ⟨y220, hy220⟩ : ∃ y_ : List Int, y_ = (x3_2.drop 1) := ⟨_, rfl⟩
                    replace H : ((slices_ContainsFunc_Lint_int__impl_ForceOk_1.f y220).bind fun t224 => (some (!t224))) = some r := by first | (rw [hy220]; with_reducible exact H) | (have H2_ := (Option.bind_some _ _).symm.trans H; rw [hy220]; with_reducible exact H2_) | (have H2_ := (Option.bind_some _ _).symm.trans H; with_reducible exact H2_) | with_reducible exact H | (rw [hy220]; exact H) | exact H
                    have Ny220 := Aside0.mk hy220
                    clear hy220
                    replace H := Option.bind_eq_some_iff.mp H
                    obtain ⟨t224, A340, H⟩ := H
                    replace H : (some (!t224)) = some r := H
                    have A34 := Aside0.mk A340
                    clear A340
                    obtain rfl := Option.some.inj H
                    obtain ⟨Ao36, co36, eo36⟩ := Kd.R_slice HO_3.out
                    subst eo36
                    have q35 : (1 : Int) ≤ ((x3_2.length : Int) : Int) := of_decide_eq_true (by first | (with_reducible assumption) | assumption)
                    obtain ⟨i035, hi035, _, hsz35, _⟩ := info_parts info3
                    have hroom35 : x3_2.length ≤ co36 := (Kd.R_reads' HO_3.out).2.1
                    have hC35 : Kd.C (Kd.int .i64) _ Ao36 x3_2.length x3_2 := (Kd.R_reads' HO_3.out).2.2
                    have hcut35 := cut_from (P := Try.prog) 22 3 .i64 Try.underlying22 hi035 1 hsz35 Ao36 x3_2.length co36 1 (by omega) q35
                    have hr35 := Kd.C_drop (m := (1 : Int).toNat) (c := co36) hC35 (by omega) hroom35
                    obtain ⟨A35, hA35⟩ : ∃ A1, A1 = (if co36 = (1 : Int).toNat then Ao36 else (Ao36 : Option Addr).map (·.add ((1 : Int).toNat * 1))) := ⟨_, rfl⟩
                    obtain ⟨c35, hc35⟩ : ∃ c1, c1 = co36 - (1 : Int).toNat := ⟨_, rfl⟩
                    have hy35 : y220.length = x3_2.length - (1 : Int).toNat := (by rw [Ny220.out, List.length_drop] <;> omega)
                    rw [show (x3_2).drop (1 : Int).toNat = y220 from Ny220.out.symm] at hr35
                    replace hr35 : Kd.C (Kd.int .i64) _ A35 y220.length y220 := (by rw [hA35]; exact hr35)
                    rw [← hy35, ← hA35, ← hc35] at hcut35
                    have HR223 := Aside0.mk hr35
                    have HC223 := Aside0.mk (show y220.length ≤ c35 from by rw [hy35, hc35]; exact Nat.sub_le_sub_right hroom35 _)
                    clear hr35 hC35 hroom35 hi035 hsz35 hc35
                    have KY35 := Aside0.mk hy35
                    have KA35 := Aside0.mk hA35
                    clear hy35 hA35
                    have KL35 := Aside0.mk (show 1 ≤ x3_2.length from by omega)
                    replace q35 := eq_true q35
                    go_wp2_with (first | ((with_reducible refine gate_callee (f := 71) rfl ?_); refine goesL_ (some 66) rfl rfl Try.func71 (by kernel_rfl) rfl #[.slice A35 y220.length c35, .func (.func 72) #[] #[]] rfl (by (try simp only [List.map_toArray, List.map_cons, List.map_nil]); first | done | rfl | (simp only [List.length_drop, List.length_take]; rfl)) ?_; (with_reducible refine (slices_ContainsFunc_Lint_int__impl_ForceOk_1.calls _ _ y220 t224 _ ?side1 ?side2 A34.out).mono ?_); (case side1 => repeat (first | exact (by repeat (first | (with_reducible exact HR223.out) | (with_reducible refine Kd.C_alloc ?_ _) | (with_reducible refine Kd.C_drewN ?_ _) | (with_reducible refine Kd.C_drew ?_) | exact HR223.out)) | (with_reducible refine Kd.C_alloc ?_ _) | (with_reducible refine Kd.C_drewN ?_ _) | (with_reducible refine Kd.C_drew ?_))); (case side2 => exact HC223.out); rintro e w' ⟨rfl, ⟨nd, rfl⟩⟩; refine ⟨_, rfl, ?_⟩))
                    go_ret
                    exact ⟨by first | rfl | (simp [errW_none, errW_some] <;> rfl) | (simp [*, errW_none, errW_some] <;> rfl), by repeat (first | (with_reducible first | exact HB.out | apply below_alloc | apply pw_below_drewN | apply below_drew1) | exact HB.out)⟩
                  · rw [if_neg c33] at H
                    exact absurd H (by simp)
          · rw [if_neg c6] at H
            exact absurd H (by simp)
        · rw [if_neg c5] at H
          exact absurd H (by simp)
end Go.Proofs.Ytgldcbcefncjjaa.F
end
