import Derived.Test.YtbeehklibkeecaaZFnRounds4
import Derived.Test.YtbeehklibkeecaaZFnRounds5
section
/- Laid by a program of this claim's own. What the Go function does, as a Lean function, and the proof that the Go code does just that; Lean checks it. -/
namespace Go.Proofs.Ytbeehklibkeecaa.F
open Go.RowKit Go.Proofs.YtbeehklibkeecaaW.PrintWords Go.Proofs.YtbeehklibkeecaaW.PrintLast Go.Proofs.YtbeehklibkeecaaW.PrintMore
attribute [local go_sem] max2_int min2_int max_two min_two max_three min_three max_four min_four   -- for this text's walks alone
set_option linter.unusedVariables false
set_option linter.unusedSimpArgs false
/-! ### impl_PileRound: function 51 -/
/-- Has the pile the card? -/
def pileHas (a2 : Int) (pile : List Int) : Bool := match impl_PositionOf.f pile a2 with
  | some x => decide (0 ≤ x)
  | none => false
theorem posOf_some (l : List Int) (c : Int) : ∃ x, impl_PositionOf.f l c = some x := by
  unfold impl_PositionOf.f
  split
  · exact ⟨_, rfl⟩
  · exact ⟨_, rfl⟩
set_option maxHeartbeats 8000000 in
set_option maxRecDepth 100000 in
theorem impl_PileRound.at_ (x : List Int) (A : Option Addr) (c : Nat) (card : Int) (B : Nat) (W : World) (hr : Kd.C (Kd.int .i64) W A x.length x) (hc : x.length ≤ c) (hcell : W.cell? ⟨B, 0, none⟩ = some (.int .i64 card)) :
    Calls Try.prog 86 (#[.slice A x.length c] ++ #[.pointer (some ⟨B, 0, none⟩)]) W fun e w' => e = .returned (.bool (pileHas card x)) ∧ Below W.heap.size W w' := by
  obtain ⟨p, hp⟩ := posOf_some x card
  have HR := Aside0.mk hr
  have HC := Aside0.mk hc
  have HP := Aside0.mk hp
  rw [show pileHas card x = decide (0 ≤ p) by unfold pileHas; rw [hp]]
  clear hr hc hp
  show Calls Try.prog 86 #[.slice A x.length c, .pointer (some ⟨B, 0, none⟩)] W _
  go_enter Try.func86, Try.ntmps86
  go_wp2_with (go_at_call 60; refine (impl_PositionOf.calls A c x card p _ HR.out HC.out HP.out).mono ?_; rintro e w' ⟨rfl, hb⟩; have HB := Aside0.mk hb; clear hb)
  go_ret
  exact ⟨rfl, HB.out⟩
def impl_PileRound.f (k : Nat) (l0 : List Int) (a1 a2 a3 : Int) : Option (List Int × Bool) :=
  (impl_PilesOf.f k l0 a1).bind fun list => if idxFromL (pileHas a2) list 0 < 0 then some ([], false) else impl_GatherPiles.f k list (idxFromL (pileHas a2) list 0) a3
set_option maxHeartbeats 16000000 in
set_option maxRecDepth 100000 in
theorem impl_PileRound.calls (k : Nat) (A0 : Option Addr) (c0 : Nat) (l0 : List Int) (a1 : Int) (a2 : Int) (a3 : Int) (r1 : List Int) (r2 : Bool) (w : World) (hr0 : Kd.C (Kd.int .i64) w A0 l0.length l0) (hc0 : l0.length ≤ c0) (h : impl_PileRound.f k l0 a1 a2 a3 = some (r1, r2)) :
    Calls Try.prog 51 #[.slice A0 l0.length c0, .int .i64 a1, .int .i64 a2, .int .i64 a3] w fun e w' => ∃ v0_ : Value, e = .returned (.tuple #[v0_, .bool r2]) ∧ Kd.R (Kd.int .i64) 3 w' w.heap.size (fun _ => True) v0_ r1 ∧ Below w.heap.size w w' := by
  unfold impl_PileRound.f at h
  obtain ⟨list, h1, h⟩ := Option.bind_eq_some_iff.mp h
  have HR0 := Aside0.mk (Kd.C_alloc hr0 (.cells #[.int .i64 a2] 3))
  have HC0 := Aside0.mk hc0
  have HB := Aside0.mk (below_alloc (Below.refl w.heap.size w) (.cells #[.int .i64 a2] 3))
  have A1 := Aside0.mk h1
  have H := Aside0.mk h
  have hcell : (w.alloc (.cells #[.int .i64 a2] 3)).cell? ⟨w.heap.size, 0, none⟩ = some (.int .i64 a2) := (Whole.new w 3 #[.int .i64 a2]).cell 0
  have HCE := Aside0.mk hcell
  clear hr0 hc0 h1 h hcell
  obtain ⟨ch, hch⟩ : ∃ ch, ch = idxFromL (pileHas a2) list 0 := ⟨_, rfl⟩
  have HCH := Aside0.mk hch
  rw [← hch] at H
  clear hch
  have eg : ∀ args w, (callFunc 86 args).run Try.prog w = .ok (.enter 86 args) w := enters_of (P := Try.prog) Try.func86 (by kernel_rfl) rfl
  by_cases c1 : ch < 0
  · obtain ⟨rfl, rfl⟩ : ([], false) = (r1, r2) := by have := H.out; rw [if_pos c1] at this; exact Option.some.inj this
    clear H
    go_enter Try.func51, Try.ntmps51
    go_wp2_with (first
      | (go_at_call 84; (with_reducible refine (impl_PilesOf.calls k _ _ l0 a1 list _ HR0.out HC0.out A1.out).mono ?_); rintro e w1 ⟨v1, rfl, ho0, hb⟩; have HS := Aside0.mk ho0; have HB1 := Aside0.mk hb; have HB2 := Aside0.mk (below_then HB.out (by simp) hb); clear HB hb ho0; obtain ⟨A2, c2, e2⟩ := Kd.S_slice HS.out; subst e2)
      | (go_at_call 85; (with_reducible refine (slices_IndexFunc_LLint_Lint.predB (pileHas a2) _ _ eg _ _ list _ (Kd.S_reads' HS.out).2.2 (Kd.S_reads' HS.out).2.1 (fun W x A c hb hx hC hl => impl_PileRound.at_ x A c a2 w.heap.size W hC hl (pw_cell_below hb (pw_cell_below HB1.out HCE.out)))).mono ?_); rintro e w2 ⟨rfl, hb⟩; have HB3 := Aside0.mk (below_step HB2.out hb); clear hb; rw [← HCH.out]))
    go_ret2
    exact ⟨_, rfl, Kd.R_nil _ _ _ _ _, HB3.out⟩
  · have H2 := Aside0.mk (show impl_GatherPiles.f k list ch a3 = some (r1, r2) by have := H.out; rw [if_neg c1] at this; exact this)
    clear H
    go_enter Try.func51, Try.ntmps51
    go_wp2_with (first
      | (go_at_call 84; (with_reducible refine (impl_PilesOf.calls k _ _ l0 a1 list _ HR0.out HC0.out A1.out).mono ?_); rintro e w1 ⟨v1, rfl, ho0, hb⟩; have HS := Aside0.mk ho0; have HB1 := Aside0.mk hb; have HB2 := Aside0.mk (below_then HB.out (by simp) hb); clear HB hb ho0; obtain ⟨A2, c2, e2⟩ := Kd.S_slice HS.out; subst e2)
      | (go_at_call 85; (with_reducible refine (slices_IndexFunc_LLint_Lint.predB (pileHas a2) _ _ eg _ _ list _ (Kd.S_reads' HS.out).2.2 (Kd.S_reads' HS.out).2.1 (fun W x A c hb hx hC hl => impl_PileRound.at_ x A c a2 w.heap.size W hC hl (pw_cell_below hb (pw_cell_below HB1.out HCE.out)))).mono ?_); rintro e w2 ⟨rfl, hb⟩; have HS2 := Aside0.mk (Kd.S_below HS.out hb); have HB3 := Aside0.mk (below_step HB2.out hb); clear hb; rw [← HCH.out])
      | (go_at_call 87; (with_reducible refine (impl_GatherPiles.calls k _ _ list ch a3 r1 r2 _ (Kd.S_reads' HS2.out).2.2 (Kd.S_reads' HS2.out).2.1 H2.out).mono ?_); rintro e w3 ⟨v3, rfl, ho0, hb⟩; have HO := Aside0.mk (Kd.R_lower ho0 HB3.out.size); have HB4 := Aside0.mk (below_step HB3.out hb); clear hb ho0))
    go_ret2
    exact ⟨_, rfl, HO.out, HB4.out⟩
end Go.Proofs.Ytbeehklibkeecaa.F
end
section
/- Laid by a program of this claim's own. What the Go function does, as a Lean function, and the proof that the Go code does just that; Lean checks it. -/
namespace Go.Proofs.Ytbeehklibkeecaa.F
open Go.RowKit Go.Proofs.YtbeehklibkeecaaW.PrintWords Go.Proofs.YtbeehklibkeecaaW.PrintLast Go.Proofs.YtbeehklibkeecaaW.PrintMore
attribute [local go_sem] max2_int min2_int max_two min_two max_three min_three max_four min_four   -- for this text's walks alone
set_option linter.unusedVariables false
set_option linter.unusedSimpArgs false
/-! ### impl_upTo: function 52 -/
def impl_upTo.l0 : Nat → Int → List Int → Int → Option (List Int)
  | 0, _, _, _ => none
  | k + 1, x0, x3, x4 => if x4 < x0 then (if x3.length < 17592186044416 then (impl_upTo.l0 k x0 (x3 ++ [x4]) (wrap64 (x4 + 1))) else (none)) else (some x3)
def impl_upTo.f (k : Nat) (a0 : Int) : Option (List Int) := impl_upTo.l0 k a0 ([] : List Int) 0
set_option maxHeartbeats 8000000 in
set_option maxRecDepth 100000 in
theorem impl_upTo.calls (k : Nat) (a0 : Int) (r : List Int) (w : World) (h : impl_upTo.f k a0 = some r) :
    Calls Try.prog 52 #[.int .i64 a0] w fun e w' => ∃ v0_ : Value, e = .returned (v0_) ∧ Kd.R (Kd.int .i64) 3 w' w.heap.size (fun _ => True) v0_ r ∧ Below w.heap.size w w' := by
  have HB := Aside0.mk (Below.refl w.heap.size w)
  have H : (impl_upTo.l0 k a0 ([] : List Int) 0) = some r := h
  clear h
  have H' := Aside0.mk H
  clear H
  go_enter Try.func52, Try.ntmps52
  go_wp2
  go_loopg [3, 4] k (fun kq v3 v4 w' => ∃ (x3_1 : List Int) (x4_1 : Int), v4 = .int .i64 x4_1 ∧ Aside0 (impl_upTo.l0 kq a0 x3_1 x4_1 = some r) ∧ Aside0 (kq ≤ k) ∧ Aside0 (Kd.R (Kd.int .i64) 3 w' w.heap.size (fun _ => True) v3 x3_1) ∧ Aside0 (Below w.heap.size w w'))
  case atStart => exact ⟨(([] : List Int)), (0), (by first | rfl | (simp; done) | (simp [*]; done)), H', ⟨Nat.le_refl _⟩, ⟨by first | exact Kd.R_nil _ _ _ _ _ | exact Kd.N_nil _ _ _ _ _ | exact Kd.V_nil _ _ _ _ _ | exact Kd.Q_nil _ _ _ _ _ | exact Kd.S_nil _ _ _ _ _⟩, ⟨by repeat (first | (with_reducible first | exact HB.out | apply below_alloc | apply pw_below_drewN | apply below_drew1) | exact HB.out)⟩⟩
  case round =>
    clear H'
    obtain ⟨x3_1, x4_1, rfl, HA, HK1, HO_3, HB⟩ := hrel
    cases gk with
    | zero => exact absurd HA.out (by simp [impl_upTo.l0])
    | succ k1 =>
      have H := HA.out
      clear HA
      simp only [impl_upTo.l0] at H
      by_cases c2 : x4_1 < a0
      · rw [if_pos c2] at H
        have c2b0 : decide (x4_1 < a0) = true := decide_eq_true c2
        clear c2
        by_cases c3 : x3_1.length < 17592186044416
        · rw [if_pos c3] at H
          have LMc3 := Aside0.mk c3
          clear c3
          obtain ⟨y225, hy225⟩ : ∃ y_ : List Int, y_ = (x3_1 ++ [x4_1]) := ⟨_, rfl⟩
          replace H : (impl_upTo.l0 k1 a0 y225 (wrap64 (x4_1 + 1))) = some r := by first | (rw [hy225]; with_reducible exact H) | (have H2_ := (Option.bind_some _ _).symm.trans H; rw [hy225]; with_reducible exact H2_) | (have H2_ := (Option.bind_some _ _).symm.trans H; with_reducible exact H2_) | with_reducible exact H | (rw [hy225]; exact H) | exact H
          have Ny225 := Aside0.mk hy225
          clear hy225
          have H' := Aside0.mk H
          clear H
          go_wp2_with (first | ((with_reducible refine gate_builtin (b := .append) (xs := #[.tmp 10, .tmp 12]) rfl ?_); at_builtin; refine Kd.R_append (Kd.int .i64) (w0 := w) w.heap.size rfl (.tmp 10) (.tmp 12) 24 3 (.int .i64 0) 8 rfl Try.underlying24 info3 rfl (by decide) (by omega) u3 x3_1 x4_1 [.int .i64 x4_1] (fun _ => True) (fun _ => False) rfl rfl ?aP (fun _ hk => hk.elim) ?aF ?aO ?aB ?aS ?aL ?_; (case aP => exact rfl); (case aB => exact (by repeat (first | (with_reducible first | exact HB.out | apply below_alloc | apply pw_below_drewN | apply below_drew1) | exact HB.out))); (case aF => exact (fun _ _ => trivial)); (case aO => exact (by (with_reducible repeat (first | apply Kd.R_alloc | apply Kd.R_drewN | apply Kd.R_drew)); exact HO_3.out)); (case aS => exact (below_size (by repeat (first | (with_reducible first | exact HB.out | apply below_alloc | apply pw_below_drewN | apply below_drew1) | exact HB.out)))); (case aL => have := LMc3.out; omega); intro v226 w4 ho hb hg hat; rw [← Ny225.out] at ho; have n0_ := Aside0.mk (hb); have n1_ := Aside0.mk (ho); clear HB; clear HO_3; have HB := n0_; have HO227 := n1_; clear n0_ n1_; clear ho hb hg hat))
          go_roundg k1
          case measure => have := HK1.out; omega
          case rel => exact ⟨(y225), (wrap64 (x4_1 + 1)), (by first | rfl | (simp; done) | (simp [*]; done)), H', ⟨by have := HK1.out; omega⟩, ⟨by (with_reducible repeat (first | apply Kd.R_alloc | apply Kd.R_drewN | apply Kd.R_drew)); exact HO227.out⟩, ⟨by repeat (first | (with_reducible first | exact HB.out | apply below_alloc | apply pw_below_drewN | apply below_drew1) | exact HB.out)⟩⟩
        · rw [if_neg c3] at H
          exact absurd H (by simp)
      · rw [if_neg c2] at H
        have c2b0 : decide (x4_1 < a0) = false := decide_eq_false c2
        clear c2
        obtain rfl := Option.some.inj H
        go_wp2
        go_ret
        exact ⟨_, by first | rfl | (simp [errW_none, errW_some] <;> rfl) | (simp [*, errW_none, errW_some] <;> rfl), by (with_reducible repeat (first | apply Kd.R_alloc | apply Kd.R_drewN | apply Kd.R_drew)); exact HO_3.out, by repeat (first | (with_reducible first | exact HB.out | apply below_alloc | apply pw_below_drewN | apply below_drew1) | exact HB.out)⟩
end Go.Proofs.Ytbeehklibkeecaa.F
end
section
/- Laid by a program of this claim's own. What the Go function does, as a Lean function, and the proof that the Go code does just that; Lean checks it. -/
namespace Go.Proofs.Ytbeehklibkeecaa.F
open Go.RowKit Go.Proofs.YtbeehklibkeecaaW.PrintWords Go.Proofs.YtbeehklibkeecaaW.PrintLast Go.Proofs.YtbeehklibkeecaaW.PrintMore
attribute [local go_sem] max2_int min2_int max_two min_two max_three min_three max_four min_four   -- for this text's walks alone
set_option linter.unusedVariables false
set_option linter.unusedSimpArgs false
/-! ### slices_Index_Lint_int: function 53 -/
def slices_Index_Lint_int.l0 : Nat → List Int → Int → Int → Int → Option (Int)
  | 0, _, _, _, _ => none
  | k + 1, x0, x1, x7, x8 => if x8 < x7 then (if 0 ≤ x8 then (if x8 < (x0.length : Int) then (if x1 = (rd x0 x8) then (some x8) else (slices_Index_Lint_int.l0 k x0 x1 x7 (wrap64 (x8 + 1)))) else (none)) else (none)) else (some (-1))
def slices_Index_Lint_int.f (k : Nat) (l0 : List Int) (a1 : Int) : Option (Int) := slices_Index_Lint_int.l0 k l0 a1 (l0.length : Int) 0
set_option maxHeartbeats 8000000 in
set_option maxRecDepth 100000 in
theorem slices_Index_Lint_int.calls (k : Nat) (A0 : Option Addr) (c0 : Nat) (l0 : List Int) (a1 : Int) (r : Int) (w : World) (hr0 : Kd.C (Kd.int .i64) w A0 l0.length l0) (hc0 : l0.length ≤ c0) (h : slices_Index_Lint_int.f k l0 a1 = some r) :
    Calls Try.prog 53 #[.slice A0 l0.length c0, .int .i64 a1] w fun e w' => e = .returned (.int .i64 r) ∧ Drawn0 w w' := by
  have HR0 := Aside0.mk hr0
  have HC0 := Aside0.mk hc0
  clear hr0 hc0
  have H : (slices_Index_Lint_int.l0 k l0 a1 (l0.length : Int) 0) = some r := h
  clear h
  have H' := Aside0.mk H
  clear H
  go_enter Try.func53, Try.ntmps53
  go_wp2
  go_loopg [8] k (fun kq v8 w' => ∃ (x8_1 : Int), v8 = .int .i64 x8_1 ∧ Aside0 (slices_Index_Lint_int.l0 kq l0 a1 (l0.length : Int) x8_1 = some r) ∧ Aside0 (kq ≤ k) ∧ Drawn0 w w')
  case atStart => exact ⟨(0), (by first | rfl | (simp; done) | (simp [*]; done)), H', ⟨Nat.le_refl _⟩, by repeat (first | exact Drawn0.refl _ | apply Drawn0.step)⟩
  case round =>
    clear H'
    try clear p2
    obtain ⟨x8_1, rfl, HA, HK1, ⟨m1, rfl⟩⟩ := hrel
    cases gk with
    | zero => exact absurd HA.out (by simp [slices_Index_Lint_int.l0])
    | succ k1 =>
      have H := HA.out
      clear HA
      simp only [slices_Index_Lint_int.l0] at H
      by_cases c3 : x8_1 < (l0.length : Int)
      · rw [if_pos c3] at H
        have c3b0 : decide (x8_1 < (l0.length : Int)) = true := decide_eq_true c3
        clear c3
        by_cases c4 : 0 ≤ x8_1
        · rw [if_pos c4] at H
          have c4b0 : decide (0 ≤ x8_1) = true := decide_eq_true c4
          clear c4
          by_cases c5 : x8_1 < (l0.length : Int)
          · rw [if_pos c5] at H
            have c5b0 : decide (x8_1 < (l0.length : Int)) = true := decide_eq_true c5
            clear c5
            by_cases c6 : a1 = (rd l0 x8_1)
            · rw [if_pos c6] at H
              have c6b0 : (a1 == (rd l0 x8_1)) = true := beq_iff_eq.mpr c6
              have c6b1 : (a1 != (rd l0 x8_1)) = false := bne_eq_false_iff_eq.mpr c6
              clear c6
              obtain rfl := Option.some.inj H
              have p228 : 0 ≤ (x8_1 : Int) := of_decide_eq_true (by first | (with_reducible assumption) | assumption)
              have q228 : x8_1 < (l0.length : Int) := of_decide_eq_true (by first | (with_reducible assumption) | assumption)
              obtain ⟨ad228, e228, hx228_0⟩ := Kd.at_int HR0.out x8_1 p228 q228
              cases e228
              replace p228 := eq_true p228
              replace q228 := eq_true q228
              go_wp2
              go_ret
              exact ⟨by first | rfl | (simp; done) | (simp [*]; done), by repeat (first | exact Drawn0.refl _ | apply Drawn0.step)⟩
            · rw [if_neg c6] at H
              have c6b0 : (a1 == (rd l0 x8_1)) = false := beq_eq_false_iff_ne.mpr c6
              have c6b1 : (a1 != (rd l0 x8_1)) = true := bne_iff_ne.mpr c6
              have H' := Aside0.mk H
              clear H
              have p228 : 0 ≤ (x8_1 : Int) := of_decide_eq_true (by first | (with_reducible assumption) | assumption)
              have q228 : x8_1 < (l0.length : Int) := of_decide_eq_true (by first | (with_reducible assumption) | assumption)
              obtain ⟨ad228, e228, hx228_0⟩ := Kd.at_int HR0.out x8_1 p228 q228
              cases e228
              replace p228 := eq_true p228
              replace q228 := eq_true q228
              go_wp2
              go_roundg k1
              case measure => have := HK1.out; omega
              case rel => exact ⟨(wrap64 (x8_1 + 1)), (by first | rfl | (simp; done) | (simp [*]; done)), H', ⟨by have := HK1.out; omega⟩, by repeat (first | exact Drawn0.refl _ | apply Drawn0.step)⟩
          · rw [if_neg c5] at H
            exact absurd H (by simp)
        · rw [if_neg c4] at H
          exact absurd H (by simp)
      · rw [if_neg c3] at H
        have c3b0 : decide (x8_1 < (l0.length : Int)) = false := decide_eq_false c3
        clear c3
        obtain rfl := Option.some.inj H
        go_wp2
        go_ret
        exact ⟨by first | rfl | (simp; done) | (simp [*]; done), by repeat (first | exact Drawn0.refl _ | apply Drawn0.step)⟩
end Go.Proofs.Ytbeehklibkeecaa.F
end
section
/- Laid by a program of this claim's own. What the Go function does, as a Lean function, and the proof that the Go code does just that; Lean checks it. -/
namespace Go.Proofs.Ytbeehklibkeecaa.F
open Go.RowKit Go.Proofs.YtbeehklibkeecaaW.PrintWords Go.Proofs.YtbeehklibkeecaaW.PrintLast Go.Proofs.YtbeehklibkeecaaW.PrintMore
attribute [local go_sem] max2_int min2_int max_two min_two max_three min_three max_four min_four   -- for this text's walks alone
set_option linter.unusedVariables false
set_option linter.unusedSimpArgs false
/-! ### impl_IndexAfter: function 23 -/
def impl_IndexAfter.j0 : Nat → Int → Int → Int → Int → Bool → Option (Int)
  | 0, _, _, _, _, _ => none
  | k + 1, x0, x1, x2, x3, x23 => if x23 = true then (some (-1)) else ((impl_upTo.f k x0).bind fun t230 => ((impl_PileRound.f k t230 x1 x2 x3).bind fun bt233 => (if bt233.2 = true then ((slices_Index_Lint_int.f k bt233.1 x2).bind fun t237 => (some t237)) else (some (-1)))))
def impl_IndexAfter.f (k : Nat) (a0 : Int) (a1 : Int) (a2 : Int) (a3 : Int) : Option (Int) := (impl_PilesOk.f a0 a1).bind fun t229 => (if t229 = true then (if a2 < 0 then (impl_IndexAfter.j0 k a0 a1 a2 a3 true) else (impl_IndexAfter.j0 k a0 a1 a2 a3 (decide (a2 ≥ a0)))) else (impl_IndexAfter.j0 k a0 a1 a2 a3 true))
set_option maxHeartbeats 8000000 in
set_option maxRecDepth 100000 in
theorem impl_IndexAfter.calls (k : Nat) (a0 : Int) (a1 : Int) (a2 : Int) (a3 : Int) (r : Int) (w : World) (h : impl_IndexAfter.f k a0 a1 a2 a3 = some r) :
    Calls Try.prog 23 #[.int .i64 a0, .int .i64 a1, .int .i64 a2, .int .i64 a3] w fun e w' => e = .returned (.int .i64 r) ∧ Below w.heap.size w w' := by
  have HB := Aside0.mk (Below.refl w.heap.size w)
  have H : ((impl_PilesOk.f a0 a1).bind fun t229 => (if t229 = true then (if a2 < 0 then (impl_IndexAfter.j0 k a0 a1 a2 a3 true) else (impl_IndexAfter.j0 k a0 a1 a2 a3 (decide (a2 ≥ a0)))) else (impl_IndexAfter.j0 k a0 a1 a2 a3 true))) = some r := h
  clear h
  have HC5 := Aside0.mk H
  clear H
  go_enter Try.func23, Try.ntmps23
  go_upto_region 1 with (fail)
  go_cut [23] (fun v23 wc => ∃ (kq : Nat) (x23_4 : Bool), v23 = .bool x23_4 ∧ Aside0 (impl_IndexAfter.j0 kq a0 a1 a2 a3 x23_4 = some r) ∧ Aside0 (kq ≤ k) ∧ Aside0 (Below w.heap.size w wc))
  case first =>
    have H := HC5.out
    clear HC5
    replace H := Option.bind_eq_some_iff.mp H
    obtain ⟨t229, A60, H⟩ := H
    replace H : (if t229 = true then (if a2 < 0 then (impl_IndexAfter.j0 k a0 a1 a2 a3 true) else (impl_IndexAfter.j0 k a0 a1 a2 a3 (decide (a2 ≥ a0)))) else (impl_IndexAfter.j0 k a0 a1 a2 a3 true)) = some r := H
    have A6 := Aside0.mk A60
    clear A60
    by_cases c7 : t229 = true
    · subst c7
      have H1 : (if a2 < 0 then (impl_IndexAfter.j0 k a0 a1 a2 a3 true) else (impl_IndexAfter.j0 k a0 a1 a2 a3 (decide (a2 ≥ a0)))) = some r := by rw [if_pos rfl] at H; exact H
      clear H
      have H := H1
      clear H1
      by_cases c8 : a2 < 0
      · rw [if_pos c8] at H
        have c8b0 : decide (a2 < 0) = true := decide_eq_true c8
        clear c8
        (first | rw [c8b0] | (simp only [i64_w, i32_w]; rw [c8b0]) | skip)
        have H' := Aside0.mk H
        clear H
        go_wp2_with (first | ((with_reducible refine gate_callee (f := 22) rfl ?_); refine goesL_ (some 13) rfl rfl Try.func22 (by kernel_rfl) rfl #[.int .i64 a0, .int .i64 a1] rfl (by (try simp only [List.map_toArray, List.map_cons, List.map_nil]); first | done | rfl | (simp only [List.length_drop, List.length_take]; rfl)) ?_; (with_reducible refine (impl_PilesOk.calls a0 a1 true _ A6.out).mono ?_); rintro e w' ⟨rfl, ⟨nd, rfl⟩⟩; refine ⟨_, rfl, ?_⟩))
        go_meet
        case rel => exact ⟨_, (true), (by first | rfl | (simp; done) | (simp [*]; done)), H', ⟨by first | omega | exact Nat.le_refl _⟩, ⟨by repeat (first | (with_reducible first | exact HB.out | apply below_alloc | apply pw_below_drewN | apply below_drew1) | exact HB.out)⟩⟩
      · rw [if_neg c8] at H
        have c8b0 : decide (a2 < 0) = false := decide_eq_false c8
        clear c8
        (first | rw [c8b0] | (simp only [i64_w, i32_w]; rw [c8b0]) | skip)
        have H' := Aside0.mk H
        clear H
        go_wp2_with (first | ((with_reducible refine gate_callee (f := 22) rfl ?_); refine goesL_ (some 13) rfl rfl Try.func22 (by kernel_rfl) rfl #[.int .i64 a0, .int .i64 a1] rfl (by (try simp only [List.map_toArray, List.map_cons, List.map_nil]); first | done | rfl | (simp only [List.length_drop, List.length_take]; rfl)) ?_; (with_reducible refine (impl_PilesOk.calls a0 a1 true _ A6.out).mono ?_); rintro e w' ⟨rfl, ⟨nd, rfl⟩⟩; refine ⟨_, rfl, ?_⟩))
        go_meet
        case rel => exact ⟨_, (decide (a2 ≥ a0)), (by first | rfl | (simp; done) | (simp [*]; done)), H', ⟨by first | omega | exact Nat.le_refl _⟩, ⟨by repeat (first | (with_reducible first | exact HB.out | apply below_alloc | apply pw_below_drewN | apply below_drew1) | exact HB.out)⟩⟩
    · replace c7 := Bool.eq_false_iff.mpr c7
      subst c7
      have H1 : (impl_IndexAfter.j0 k a0 a1 a2 a3 true) = some r := by rw [if_neg (show ¬ (false = true) by decide)] at H; exact H
      clear H
      have H := H1
      clear H1
      have H' := Aside0.mk H
      clear H
      go_wp2_with (first | ((with_reducible refine gate_callee (f := 22) rfl ?_); refine goesL_ (some 13) rfl rfl Try.func22 (by kernel_rfl) rfl #[.int .i64 a0, .int .i64 a1] rfl (by (try simp only [List.map_toArray, List.map_cons, List.map_nil]); first | done | rfl | (simp only [List.length_drop, List.length_take]; rfl)) ?_; (with_reducible refine (impl_PilesOk.calls a0 a1 false _ A6.out).mono ?_); rintro e w' ⟨rfl, ⟨nd, rfl⟩⟩; refine ⟨_, rfl, ?_⟩))
      go_meet
      case rel => exact ⟨_, (true), (by first | rfl | (simp; done) | (simp [*]; done)), H', ⟨by first | omega | exact Nat.le_refl _⟩, ⟨by repeat (first | (with_reducible first | exact HB.out | apply below_alloc | apply pw_below_drewN | apply below_drew1) | exact HB.out)⟩⟩
  case rest =>
    clear HC5
    try clear c2
    try clear p2
    try clear c7
    try clear c8
    try clear c8b0
    obtain ⟨kq, x23_4, rfl, HA, HJ4, HB⟩ := hcut
    cases kq with
    | zero => exact absurd HA.out (by simp [impl_IndexAfter.j0])
    | succ kj4 =>
      have H := HA.out
      clear HA
      simp only [impl_IndexAfter.j0] at H
      by_cases c9 : x23_4 = true
      · subst c9
        have H1 : (some (-1)) = some r := by rw [if_pos rfl] at H; exact H
        clear H
        have H := H1
        clear H1
        obtain rfl := Option.some.inj H
        go_wp2
        go_ret
        exact ⟨by first | rfl | (simp [errW_none, errW_some] <;> rfl) | (simp [*, errW_none, errW_some] <;> rfl), by repeat (first | (with_reducible first | exact HB.out | apply below_alloc | apply pw_below_drewN | apply below_drew1) | exact HB.out)⟩
      · replace c9 := Bool.eq_false_iff.mpr c9
        subst c9
        have H1 : ((impl_upTo.f kj4 a0).bind fun t230 => ((impl_PileRound.f kj4 t230 a1 a2 a3).bind fun bt233 => (if bt233.2 = true then ((slices_Index_Lint_int.f kj4 bt233.1 a2).bind fun t237 => (some t237)) else (some (-1))))) = some r := by rw [if_neg (show ¬ (false = true) by decide)] at H; exact H
        clear H
        have H := H1
        clear H1
        replace H := Option.bind_eq_some_iff.mp H
        obtain ⟨t230, A100, H⟩ := H
        replace H : ((impl_PileRound.f kj4 t230 a1 a2 a3).bind fun bt233 => (if bt233.2 = true then ((slices_Index_Lint_int.f kj4 bt233.1 a2).bind fun t237 => (some t237)) else (some (-1)))) = some r := H
        have A10 := Aside0.mk A100
        clear A100
        replace H := Option.bind_eq_some_iff.mp H
        obtain ⟨⟨t233, t234⟩, A110, H⟩ := H
        replace H : (if t234 = true then ((slices_Index_Lint_int.f kj4 t233 a2).bind fun t237 => (some t237)) else (some (-1))) = some r := H
        have A11 := Aside0.mk A110
        clear A110
        by_cases c12 : t234 = true
        · subst c12
          have H1 : ((slices_Index_Lint_int.f kj4 t233 a2).bind fun t237 => (some t237)) = some r := by rw [if_pos rfl] at H; exact H
          clear H
          have H := H1
          clear H1
          replace H := Option.bind_eq_some_iff.mp H
          obtain ⟨t237, A130, H⟩ := H
          replace H : (some t237) = some r := H
          have A13 := Aside0.mk A130
          clear A130
          obtain rfl := Option.some.inj H
          go_wp2_with (first | ((with_reducible refine gate_callee (f := 52) rfl ?_); refine goesL_ (some 26) rfl rfl Try.func52 (by kernel_rfl) rfl #[.int .i64 a0] rfl (by (try simp only [List.map_toArray, List.map_cons, List.map_nil]); first | done | rfl | (simp only [List.length_drop, List.length_take]; rfl)) ?_; (with_reducible refine (impl_upTo.calls kj4 a0 t230 _ A10.out).mono ?_); rintro e w14 ⟨v231, rfl, ho0, hb⟩; refine ⟨_, rfl, ?_⟩; have n0_ := Aside0.mk (Kd.R_lower ho0 (below_size (by repeat (first | (with_reducible first | exact HB.out | apply below_alloc | apply pw_below_drewN | apply below_drew1) | exact HB.out)))); have n1_ := Aside0.mk (below_step (by repeat (first | (with_reducible first | exact HB.out | apply below_alloc | apply pw_below_drewN | apply below_drew1) | exact HB.out)) hb); clear HB; have HO232 := n0_; have HB := n1_; clear n0_ n1_; (try clear hb); (try clear hb2); (try clear hk); (try clear hi); (try clear ho0); obtain ⟨Ao15, co15, eo15⟩ := Kd.R_slice HO232.out; subst eo15) | ((with_reducible refine gate_callee (f := 51) rfl ?_); refine goesL_ (some 30) rfl rfl Try.func51 (by kernel_rfl) rfl #[.slice Ao15 t230.length co15, .int .i64 a1, .int .i64 a2, .int .i64 a3] rfl (by (try simp only [List.map_toArray, List.map_cons, List.map_nil]); first | done | rfl | (simp only [List.length_drop, List.length_take]; rfl)) ?_; (with_reducible refine (impl_PileRound.calls kj4 _ _ t230 a1 a2 a3 t233 true _ ?side1 ?side2 A11.out).mono ?_); (case side1 => repeat (first | exact (Kd.R_reads' HO232.out).2.2 | (with_reducible refine Kd.C_alloc ?_ _) | (with_reducible refine Kd.C_drewN ?_ _) | (with_reducible refine Kd.C_drew ?_))); (case side2 => exact (Kd.R_reads' HO232.out).2.1); rintro e w16 ⟨v235, rfl, ho0, hb⟩; refine ⟨_, rfl, ?_⟩; have n0_ := Aside0.mk (Kd.R_elder' (by (with_reducible repeat (first | apply Kd.R_alloc | apply Kd.R_drewN | apply Kd.R_drew)); exact HO232.out) (Kd.R_base ho0) hb); have n1_ := Aside0.mk (Kd.R_lower (Kd.R_new' ho0 (Kd.R_lt (by (with_reducible repeat (first | apply Kd.R_alloc | apply Kd.R_drewN | apply Kd.R_drew)); exact HO232.out))) (below_size (by repeat (first | (with_reducible first | exact HB.out | apply below_alloc | apply pw_below_drewN | apply below_drew1) | exact HB.out)))); have n2_ := Aside0.mk (below_step (by repeat (first | (with_reducible first | exact HB.out | apply below_alloc | apply pw_below_drewN | apply below_drew1) | exact HB.out)) hb); clear HO232; clear HB; have HO232 := n0_; have HO236 := n1_; have HB := n2_; clear n0_ n1_ n2_; (try clear hb); (try clear hb2); (try clear hk); (try clear hi); (try clear ho0); obtain ⟨Ao17, co17, eo17⟩ := Kd.R_slice HO236.out; subst eo17) | ((with_reducible refine gate_callee (f := 53) rfl ?_); refine goesL_ (some 37) rfl rfl Try.func53 (by kernel_rfl) rfl #[.slice Ao17 t233.length co17, .int .i64 a2] rfl (by (try simp only [List.map_toArray, List.map_cons, List.map_nil]); first | done | rfl | (simp only [List.length_drop, List.length_take]; rfl)) ?_; (with_reducible refine (slices_Index_Lint_int.calls kj4 _ _ t233 a2 t237 _ ?side1 ?side2 A13.out).mono ?_); (case side1 => repeat (first | exact (Kd.R_reads' HO236.out).2.2 | (with_reducible refine Kd.C_alloc ?_ _) | (with_reducible refine Kd.C_drewN ?_ _) | (with_reducible refine Kd.C_drew ?_))); (case side2 => exact (Kd.R_reads' HO236.out).2.1); rintro e w' ⟨rfl, ⟨nd, rfl⟩⟩; refine ⟨_, rfl, ?_⟩))
          go_ret
          exact ⟨by first | rfl | (simp [errW_none, errW_some] <;> rfl) | (simp [*, errW_none, errW_some] <;> rfl), by repeat (first | (with_reducible first | exact HB.out | apply below_alloc | apply pw_below_drewN | apply below_drew1) | exact HB.out)⟩
        · replace c12 := Bool.eq_false_iff.mpr c12
          subst c12
          have H1 : (some (-1)) = some r := by rw [if_neg (show ¬ (false = true) by decide)] at H; exact H
          clear H
          have H := H1
          clear H1
          obtain rfl := Option.some.inj H
          go_wp2_with (first | ((with_reducible refine gate_callee (f := 52) rfl ?_); refine goesL_ (some 26) rfl rfl Try.func52 (by kernel_rfl) rfl #[.int .i64 a0] rfl (by (try simp only [List.map_toArray, List.map_cons, List.map_nil]); first | done | rfl | (simp only [List.length_drop, List.length_take]; rfl)) ?_; (with_reducible refine (impl_upTo.calls kj4 a0 t230 _ A10.out).mono ?_); rintro e w18 ⟨v231, rfl, ho0, hb⟩; refine ⟨_, rfl, ?_⟩; have n0_ := Aside0.mk (Kd.R_lower ho0 (below_size (by repeat (first | (with_reducible first | exact HB.out | apply below_alloc | apply pw_below_drewN | apply below_drew1) | exact HB.out)))); have n1_ := Aside0.mk (below_step (by repeat (first | (with_reducible first | exact HB.out | apply below_alloc | apply pw_below_drewN | apply below_drew1) | exact HB.out)) hb); clear HB; have HO232 := n0_; have HB := n1_; clear n0_ n1_; (try clear hb); (try clear hb2); (try clear hk); (try clear hi); (try clear ho0); obtain ⟨Ao19, co19, eo19⟩ := Kd.R_slice HO232.out; subst eo19) | ((with_reducible refine gate_callee (f := 51) rfl ?_); refine goesL_ (some 30) rfl rfl Try.func51 (by kernel_rfl) rfl #[.slice Ao19 t230.length co19, .int .i64 a1, .int .i64 a2, .int .i64 a3] rfl (by (try simp only [List.map_toArray, List.map_cons, List.map_nil]); first | done | rfl | (simp only [List.length_drop, List.length_take]; rfl)) ?_; (with_reducible refine (impl_PileRound.calls kj4 _ _ t230 a1 a2 a3 t233 false _ ?side1 ?side2 A11.out).mono ?_); (case side1 => repeat (first | exact (Kd.R_reads' HO232.out).2.2 | (with_reducible refine Kd.C_alloc ?_ _) | (with_reducible refine Kd.C_drewN ?_ _) | (with_reducible refine Kd.C_drew ?_))); (case side2 => exact (Kd.R_reads' HO232.out).2.1); rintro e w20 ⟨v235, rfl, ho0, hb⟩; refine ⟨_, rfl, ?_⟩; have n0_ := Aside0.mk (Kd.R_elder' (by (with_reducible repeat (first | apply Kd.R_alloc | apply Kd.R_drewN | apply Kd.R_drew)); exact HO232.out) (Kd.R_base ho0) hb); have n1_ := Aside0.mk (Kd.R_lower (Kd.R_new' ho0 (Kd.R_lt (by (with_reducible repeat (first | apply Kd.R_alloc | apply Kd.R_drewN | apply Kd.R_drew)); exact HO232.out))) (below_size (by repeat (first | (with_reducible first | exact HB.out | apply below_alloc | apply pw_below_drewN | apply below_drew1) | exact HB.out)))); have n2_ := Aside0.mk (below_step (by repeat (first | (with_reducible first | exact HB.out | apply below_alloc | apply pw_below_drewN | apply below_drew1) | exact HB.out)) hb); clear HO232; clear HB; have HO232 := n0_; have HO236 := n1_; have HB := n2_; clear n0_ n1_ n2_; (try clear hb); (try clear hb2); (try clear hk); (try clear hi); (try clear ho0)))
          go_ret
          exact ⟨by first | rfl | (simp [errW_none, errW_some] <;> rfl) | (simp [*, errW_none, errW_some] <;> rfl), by repeat (first | (with_reducible first | exact HB.out | apply below_alloc | apply pw_below_drewN | apply below_drew1) | exact HB.out)⟩
end Go.Proofs.Ytbeehklibkeecaa.F
end
section
/- Laid by a program of this claim's own. What the Go function does, as a Lean function, and the proof that the Go code does just that; Lean checks it. -/
namespace Go.Proofs.Ytbeehklibkeecaa.F
open Go.RowKit Go.Proofs.YtbeehklibkeecaaW.PrintWords Go.Proofs.YtbeehklibkeecaaW.PrintLast Go.Proofs.YtbeehklibkeecaaW.PrintMore
attribute [local go_sem] max2_int min2_int max_two min_two max_three min_three max_four min_four   -- for this text's walks alone
set_option linter.unusedVariables false
set_option linter.unusedSimpArgs false
/-! ### slices_Max_Lint_int: function 64 -/
def slices_Max_Lint_int.l0 : Nat → List Int → Int → Int → Option (Int)
  | 0, _, _, _ => none
  | k + 1, x0, x3, x4 => if x4 < (x0.length : Int) then (if 0 ≤ x4 then (slices_Max_Lint_int.l0 k x0 (mx x3 (rd x0 x4)) (wrap64 (x4 + 1))) else (none)) else (some x3)
def slices_Max_Lint_int.f (k : Nat) (l0 : List Int) : Option (Int) := if (l0.length : Int) < 1 then (none) else (if 0 < (l0.length : Int) then (slices_Max_Lint_int.l0 k l0 (rd l0 0) 1) else (none))
set_option maxHeartbeats 8000000 in
set_option maxRecDepth 100000 in
theorem slices_Max_Lint_int.calls (k : Nat) (A0 : Option Addr) (c0 : Nat) (l0 : List Int) (r : Int) (w : World) (hr0 : Kd.C (Kd.int .i64) w A0 l0.length l0) (hc0 : l0.length ≤ c0) (h : slices_Max_Lint_int.f k l0 = some r) :
    Calls Try.prog 64 #[.slice A0 l0.length c0] w fun e w' => e = .returned (.int .i64 r) ∧ Below w.heap.size w w' := by
  have HR0 := Aside0.mk hr0
  have HC0 := Aside0.mk hc0
  clear hr0 hc0
  have HB := Aside0.mk (Below.refl w.heap.size w)
  have H : (if (l0.length : Int) < 1 then (none) else (if 0 < (l0.length : Int) then (slices_Max_Lint_int.l0 k l0 (rd l0 0) 1) else (none))) = some r := h
  clear h
  by_cases c2 : (l0.length : Int) < 1
  · rw [if_pos c2] at H
    exact absurd H (by simp)
  · rw [if_neg c2] at H
    have c2b0 : decide ((l0.length : Int) < 1) = false := decide_eq_false c2
    have c2b1 : decide (l0.length < 1) = false := decide_eq_false (by omega)
    clear c2
    by_cases c3 : 0 < (l0.length : Int)
    · rw [if_pos c3] at H
      have c3b0 : decide (0 < (l0.length : Int)) = true := decide_eq_true c3
      have c3b1 : decide (0 < l0.length) = true := decide_eq_true (by omega)
      clear c3
      have H' := Aside0.mk H
      clear H
      have p238 : 0 ≤ (0 : Int) := (by omega)
      have q238 : 0 < (l0.length : Int) := of_decide_eq_true (by first | (with_reducible assumption) | assumption)
      obtain ⟨ad238, e238, hx238_0⟩ := Kd.at_int HR0.out 0 p238 q238
      cases e238
      have qi238 : (0 < l0.length) = True := eq_true (by omega)
      (try rw [show ((0 : Int)).toNat = 0 from rfl] at hx238_0)
      (try rw [Addr.add_zero'] at hx238_0)
      replace p238 := eq_true p238
      replace q238 := eq_true q238
      go_enter Try.func64, Try.ntmps64
      go_wp2
      go_loopg [3, 4] k (fun kq v3 v4 w' => ∃ (x3_1 : Int) (x4_1 : Int), v3 = .int .i64 x3_1 ∧ v4 = .int .i64 x4_1 ∧ Aside0 (slices_Max_Lint_int.l0 kq l0 x3_1 x4_1 = some r) ∧ Aside0 (kq ≤ k) ∧ Aside0 (Below w.heap.size w w'))
      case atStart => exact ⟨(rd l0 0), (1), (by first | rfl | (simp; done) | (simp [*]; done)), (by first | rfl | (simp; done) | (simp [*]; done)), H', ⟨Nat.le_refl _⟩, ⟨by repeat (first | (with_reducible first | exact HB.out | apply below_alloc | apply pw_below_drewN | apply below_drew1) | exact HB.out)⟩⟩
      case round =>
        clear H'
        try clear c2
        try clear c2b0
        try clear c2b1
        try clear p2
        try clear q2
        try clear hx2
        try clear qi2
        try clear c3
        try clear c3b0
        try clear c3b1
        try clear hx238_0
        try clear p238
        try clear q238
        obtain ⟨x3_1, x4_1, rfl, rfl, HA, HK1, HB⟩ := hrel
        cases gk with
        | zero => exact absurd HA.out (by simp [slices_Max_Lint_int.l0])
        | succ k1 =>
          have H := HA.out
          clear HA
          simp only [slices_Max_Lint_int.l0] at H
          by_cases c4 : x4_1 < (l0.length : Int)
          · rw [if_pos c4] at H
            have c4b0 : decide (x4_1 < (l0.length : Int)) = true := decide_eq_true c4
            clear c4
            by_cases c5 : 0 ≤ x4_1
            · rw [if_pos c5] at H
              have c5b0 : decide (0 ≤ x4_1) = true := decide_eq_true c5
              clear c5
              obtain ⟨ji6, hji6⟩ : ∃ j_ : Int, (mx x3_1 (rd l0 x4_1)) = j_ := ⟨_, rfl⟩
              replace H : (slices_Max_Lint_int.l0 k1 l0 ji6 (wrap64 (x4_1 + 1))) = some r := by first | (rw [hji6] at H; exact H) | (simp only [hji6] at H ⊢; exact H)
              have hji6_ : (if x3_1 < (rd l0 x4_1) then (rd l0 x4_1) else x3_1) = ji6 := hji6
              have H' := Aside0.mk H
              clear H
              have p239 : 0 ≤ (x4_1 : Int) := of_decide_eq_true (by first | (with_reducible assumption) | assumption)
              have q239 : x4_1 < (l0.length : Int) := of_decide_eq_true (by first | (with_reducible assumption) | assumption)
              obtain ⟨ad239, e239, hx239_0⟩ := Kd.at_int HR0.out x4_1 p239 q239
              obtain rfl : ad238 = ad239 := (by injection e239)
              replace hx239_0 := (HB.out.cell (World.block_lt_of_cell? w _ hx239_0)).trans hx239_0
              replace p239 := eq_true p239
              replace q239 := eq_true q239
              go_wp2
              go_roundg k1
              case measure => have := HK1.out; omega
              case rel => exact ⟨(ji6), (wrap64 (x4_1 + 1)), (by first | rfl | (simp; done) | (simp only [← hji6] <;> (first | rfl | simp)) | (simp [*]; done)), (by first | rfl | (simp; done) | (simp [*]; done)), H', ⟨by have := HK1.out; omega⟩, ⟨by repeat (first | (with_reducible first | exact HB.out | apply below_alloc | apply pw_below_drewN | apply below_drew1) | exact HB.out)⟩⟩
            · rw [if_neg c5] at H
              exact absurd H (by simp)
          · rw [if_neg c4] at H
            have c4b0 : decide (x4_1 < (l0.length : Int)) = false := decide_eq_false c4
            clear c4
            obtain rfl := Option.some.inj H
            go_wp2
            go_ret
            exact ⟨by first | rfl | (simp [errW_none, errW_some] <;> rfl) | (simp [*, errW_none, errW_some] <;> rfl), by repeat (first | (with_reducible first | exact HB.out | apply below_alloc | apply pw_below_drewN | apply below_drew1) | exact HB.out)⟩
    · rw [if_neg c3] at H
      exact absurd H (by simp)
end Go.Proofs.Ytbeehklibkeecaa.F
end
section
/- Laid by a program of this claim's own. What the Go function does, as a Lean function, and the proof that the Go code does just that; Lean checks it. -/
namespace Go.Proofs.Ytbeehklibkeecaa.F
open Go.RowKit Go.Proofs.YtbeehklibkeecaaW.PrintWords Go.Proofs.YtbeehklibkeecaaW.PrintLast Go.Proofs.YtbeehklibkeecaaW.PrintMore
attribute [local go_sem] max2_int min2_int max_two min_two max_three min_three max_four min_four   -- for this text's walks alone
set_option linter.unusedVariables false
set_option linter.unusedSimpArgs false
/-! ### slices_Min_Lint_int: function 65 -/
def slices_Min_Lint_int.l0 : Nat → List Int → Int → Int → Option (Int)
  | 0, _, _, _ => none
  | k + 1, x0, x3, x4 => if x4 < (x0.length : Int) then (if 0 ≤ x4 then (slices_Min_Lint_int.l0 k x0 (mn x3 (rd x0 x4)) (wrap64 (x4 + 1))) else (none)) else (some x3)
def slices_Min_Lint_int.f (k : Nat) (l0 : List Int) : Option (Int) := if (l0.length : Int) < 1 then (none) else (if 0 < (l0.length : Int) then (slices_Min_Lint_int.l0 k l0 (rd l0 0) 1) else (none))
set_option maxHeartbeats 8000000 in
set_option maxRecDepth 100000 in
theorem slices_Min_Lint_int.calls (k : Nat) (A0 : Option Addr) (c0 : Nat) (l0 : List Int) (r : Int) (w : World) (hr0 : Kd.C (Kd.int .i64) w A0 l0.length l0) (hc0 : l0.length ≤ c0) (h : slices_Min_Lint_int.f k l0 = some r) :
    Calls Try.prog 65 #[.slice A0 l0.length c0] w fun e w' => e = .returned (.int .i64 r) ∧ Below w.heap.size w w' := by
  have HR0 := Aside0.mk hr0
  have HC0 := Aside0.mk hc0
  clear hr0 hc0
  have HB := Aside0.mk (Below.refl w.heap.size w)
  have H : (if (l0.length : Int) < 1 then (none) else (if 0 < (l0.length : Int) then (slices_Min_Lint_int.l0 k l0 (rd l0 0) 1) else (none))) = some r := h
  clear h
  by_cases c2 : (l0.length : Int) < 1
  · rw [if_pos c2] at H
    exact absurd H (by simp)
  · rw [if_neg c2] at H
    have c2b0 : decide ((l0.length : Int) < 1) = false := decide_eq_false c2
    have c2b1 : decide (l0.length < 1) = false := decide_eq_false (by omega)
    clear c2
    by_cases c3 : 0 < (l0.length : Int)
    · rw [if_pos c3] at H
      have c3b0 : decide (0 < (l0.length : Int)) = true := decide_eq_true c3
      have c3b1 : decide (0 < l0.length) = true := decide_eq_true (by omega)
      clear c3
      have H' := Aside0.mk H
      clear H
      have p240 : 0 ≤ (0 : Int) := (by omega)
      have q240 : 0 < (l0.length : Int) := of_decide_eq_true (by first | (with_reducible assumption) | assumption)
      obtain ⟨ad240, e240, hx240_0⟩ := Kd.at_int HR0.out 0 p240 q240
      cases e240
      have qi240 : (0 < l0.length) = True := eq_true (by omega)
      (try rw [show ((0 : Int)).toNat = 0 from rfl] at hx240_0)
      (try rw [Addr.add_zero'] at hx240_0)
      replace p240 := eq_true p240
      replace q240 := eq_true q240
      go_enter Try.func65, Try.ntmps65
      go_wp2
      go_loopg [3, 4] k (fun kq v3 v4 w' => ∃ (x3_1 : Int) (x4_1 : Int), v3 = .int .i64 x3_1 ∧ v4 = .int .i64 x4_1 ∧ Aside0 (slices_Min_Lint_int.l0 kq l0 x3_1 x4_1 = some r) ∧ Aside0 (kq ≤ k) ∧ Aside0 (Below w.heap.size w w'))
      case atStart => exact ⟨(rd l0 0), (1), (by first | rfl | (simp; done) | (simp [*]; done)), (by first | rfl | (simp; done) | (simp [*]; done)), H', ⟨Nat.le_refl _⟩, ⟨by repeat (first | (with_reducible first | exact HB.out | apply below_alloc | apply pw_below_drewN | apply below_drew1) | exact HB.out)⟩⟩
      case round =>
        clear H'
        try clear c2
        try clear c2b0
        try clear c2b1
        try clear p2
        try clear q2
        try clear hx2
        try clear qi2
        try clear c3
        try clear c3b0
        try clear c3b1
        try clear hx240_0
        try clear p240
        try clear q240
        obtain ⟨x3_1, x4_1, rfl, rfl, HA, HK1, HB⟩ := hrel
        cases gk with
        | zero => exact absurd HA.out (by simp [slices_Min_Lint_int.l0])
        | succ k1 =>
          have H := HA.out
          clear HA
          simp only [slices_Min_Lint_int.l0] at H
          by_cases c4 : x4_1 < (l0.length : Int)
          · rw [if_pos c4] at H
            have c4b0 : decide (x4_1 < (l0.length : Int)) = true := decide_eq_true c4
            clear c4
            by_cases c5 : 0 ≤ x4_1
            · rw [if_pos c5] at H
              have c5b0 : decide (0 ≤ x4_1) = true := decide_eq_true c5
              clear c5
              obtain ⟨ji6, hji6⟩ : ∃ j_ : Int, (mn x3_1 (rd l0 x4_1)) = j_ := ⟨_, rfl⟩
              replace H : (slices_Min_Lint_int.l0 k1 l0 ji6 (wrap64 (x4_1 + 1))) = some r := by first | (rw [hji6] at H; exact H) | (simp only [hji6] at H ⊢; exact H)
              have hji6_ : (if (rd l0 x4_1) < x3_1 then (rd l0 x4_1) else x3_1) = ji6 := hji6
              have H' := Aside0.mk H
              clear H
              have p241 : 0 ≤ (x4_1 : Int) := of_decide_eq_true (by first | (with_reducible assumption) | assumption)
              have q241 : x4_1 < (l0.length : Int) := of_decide_eq_true (by first | (with_reducible assumption) | assumption)
              obtain ⟨ad241, e241, hx241_0⟩ := Kd.at_int HR0.out x4_1 p241 q241
              obtain rfl : ad240 = ad241 := (by injection e241)
              replace hx241_0 := (HB.out.cell (World.block_lt_of_cell? w _ hx241_0)).trans hx241_0
              replace p241 := eq_true p241
              replace q241 := eq_true q241
              go_wp2
              go_roundg k1
              case measure => have := HK1.out; omega
              case rel => exact ⟨(ji6), (wrap64 (x4_1 + 1)), (by first | rfl | (simp; done) | (simp only [← hji6] <;> (first | rfl | simp)) | (simp [*]; done)), (by first | rfl | (simp; done) | (simp [*]; done)), H', ⟨by have := HK1.out; omega⟩, ⟨by repeat (first | (with_reducible first | exact HB.out | apply below_alloc | apply pw_below_drewN | apply below_drew1) | exact HB.out)⟩⟩
            · rw [if_neg c5] at H
              exact absurd H (by simp)
          · rw [if_neg c4] at H
            have c4b0 : decide (x4_1 < (l0.length : Int)) = false := decide_eq_false c4
            clear c4
            obtain rfl := Option.some.inj H
            go_wp2
            go_ret
            exact ⟨by first | rfl | (simp [errW_none, errW_some] <;> rfl) | (simp [*, errW_none, errW_some] <;> rfl), by repeat (first | (with_reducible first | exact HB.out | apply below_alloc | apply pw_below_drewN | apply below_drew1) | exact HB.out)⟩
    · rw [if_neg c3] at H
      exact absurd H (by simp)
end Go.Proofs.Ytbeehklibkeecaa.F
end
section
/- Laid by a program of this claim's own. What the Go function does, as a Lean function, and the proof that the Go code does just that; Lean checks it. -/
namespace Go.Proofs.Ytbeehklibkeecaa.F
open Go.RowKit Go.Proofs.YtbeehklibkeecaaW.PrintWords Go.Proofs.YtbeehklibkeecaaW.PrintLast Go.Proofs.YtbeehklibkeecaaW.PrintMore
attribute [local go_sem] max2_int min2_int max_two min_two max_three min_three max_four min_four   -- for this text's walks alone
set_option linter.unusedVariables false
set_option linter.unusedSimpArgs false
/-! ### impl_rounds: function 42 -/
mutual
def impl_rounds.l0 : Nat → Int → Int → Int → List Int → Int → Option (Int × Int)
  | 0, _, _, _, _, _ => none
  | k + 1, n, p, pl, xs, j => if j ≤ n then ((slices_Max_Lint_int.f k xs).bind fun a => (slices_Min_Lint_int.f k xs).bind fun b => if a = b then (if 0 < (xs.length : Int) then some (j, rd xs 0) else none) else impl_rounds.l1 k n p pl xs j 0) else some (-1, -1)
def impl_rounds.l1 : Nat → Int → Int → Int → List Int → Int → Int → Option (Int × Int)
  | 0, _, _, _, _, _, _ => none
  | k + 1, n, p, pl, xs, j, i => if i < (xs.length : Int) then (if 0 ≤ i then ((impl_IndexAfter.f k n p (rd xs i) pl).bind fun y => impl_rounds.l1 k n p pl (xs.set i.toNat y) j (wrap64 (i + 1))) else none) else impl_rounds.l0 k n p pl xs (wrap64 (j + 1))
end
def impl_rounds.f (k : Nat) (a0 a1 a2 : Int) : Option (Int × Int) := (impl_PilesOk.f a0 a1).bind fun b => if b = true then (if a2 < 0 then some (-1, -1) else if a1 ≤ a2 then some (-1, -1) else (impl_upTo.f k a0).bind fun xs => impl_rounds.l0 k a0 a1 a2 xs 0) else some (-1, -1)
set_option maxHeartbeats 8000000 in
set_option maxRecDepth 100000 in
theorem impl_rounds.calls_in (k : Nat) (a0 a1 a2 : Int) (x0 : List Int) (r1 r2 : Int) (w : World) (hok : impl_PilesOk.f a0 a1 = some true) (hp : ¬ a2 < 0) (hq : ¬ a1 ≤ a2) (h1 : impl_upTo.f k a0 = some x0) (h : impl_rounds.l0 k a0 a1 a2 x0 0 = some (r1, r2)) :
    Calls Try.prog 42 #[.int .i64 a0, .int .i64 a1, .int .i64 a2] w fun e w' => e = .returned (.tuple #[.int .i64 r1, .int .i64 r2]) ∧ Below w.heap.size w w' := by
  have A1 := Aside0.mk h1
  have H0 := Aside0.mk h
  have HOK := Aside0.mk hok
  have g1 : decide (a2 < 0) = false := decide_eq_false hp
  have g2 : decide (a1 ≤ a2) = false := decide_eq_false hq
  have g3 : decide (a2 ≥ a1) = false := decide_eq_false hq
  clear h1 h hok hp hq
  go_enter Try.func42, Try.ntmps42
  go_wp2_with (first
    | (go_at_call 22; (with_reducible refine (impl_PilesOk.calls a0 a1 true _ HOK.out).mono ?_); rintro e w' ⟨rfl, ⟨nd, rfl⟩⟩)
    | (go_at_call 52; (with_reducible refine (impl_upTo.calls k a0 x0 _ A1.out).mono ?_); rintro e w1 ⟨v1, rfl, ho, hb⟩; obtain ⟨A, c, rfl⟩ := Kd.R_slice ho; have HO : Aside0 (Kd.R (Kd.int .i64) 3 w1 w.heap.size (fun _ => True) (.slice A x0.length c) x0) := ⟨ho⟩; have HB : Aside0 (Below w.heap.size w w1) := ⟨below_step (pw_below_drewN (Below.refl _ w) _) hb⟩; clear ho hb))
  have hL : ∃ L, L = x0.length := ⟨_, rfl⟩
  obtain ⟨L, hL⟩ := hL
  have HX := Aside0.mk hL
  rw [← hL]
  clear hL
  go_loopg [9] k (fun kq v9 w' => ∃ (xs : List Int) (j : Int), v9 = .int .i64 j ∧ Aside0 (impl_rounds.l0 kq a0 a1 a2 xs j = some (r1, r2)) ∧ Aside0 (kq ≤ k) ∧ Aside0 (xs.length = L) ∧ Aside0 (Kd.R (Kd.int .i64) 3 w' w.heap.size (fun _ => True) (.slice A L c) xs) ∧ Aside0 (Below w.heap.size w w'))
  case atStart => exact ⟨x0, 0, rfl, H0, ⟨Nat.le_refl _⟩, ⟨HX.out.symm⟩, ⟨by rw [HX.out]; exact HO.out⟩, HB⟩
  case round =>
    clear HO HB H0
    obtain ⟨xs, j, rfl, HA, HK, HL, HO, HB⟩ := hrel
    cases gk with
    | zero => exact absurd HA.out (by simp [impl_rounds.l0])
    | succ k2 =>
      have H := HA.out
      clear HA
      simp only [impl_rounds.l0] at H
      by_cases c1 : j ≤ a0
      · rw [if_pos c1] at H
        have c1b : decide (j ≤ a0) = true := decide_eq_true c1
        obtain ⟨ma, h3, H⟩ := Option.bind_eq_some_iff.mp H
        obtain ⟨mi, h4, H⟩ := Option.bind_eq_some_iff.mp H
        have A3 := Aside0.mk h3
        have A4 := Aside0.mk h4
        have hc := (Kd.R_reads' HO.out).2.1
        have HC := Aside0.mk hc
        clear c1 h3 h4 hc
        by_cases c2 : ma = mi
        · rw [if_pos c2] at H
          have c2b : (ma == mi) = true := beq_iff_eq.mpr c2
          by_cases c3 : 0 < (xs.length : Int)
          · rw [if_pos c3] at H
            simp only [Option.some.injEq, Prod.mk.injEq] at H
            obtain ⟨rfl, rfl⟩ := H
            have C3 := Aside0.mk c3
            have hl := HL.out
            have c3' : 0 < L := by omega
            have c3b : decide (0 < L) = true := decide_eq_true c3'
            have c3d : decide ((0 : Int) < (L : Int)) = true := decide_eq_true (by omega)
            clear c2 c3 hl
            replace c3' := eq_true c3'
            have hOx := HO.out
            rw [← HL.out] at hOx
            obtain ⟨g, cg, eg, gb, gl, cl, HG⟩ := Kd.R_form hOx (by have := C3.out; omega)
            rw [HL.out] at eg
            cases eg
            clear hOx gb gl cl HG
            go_wp2_with (first
              | (go_at_call 64; refine calls_of_args (args' := #[.slice (some ⟨g, 0, none⟩) xs.length c]) (by rw [HL.out]) ?_; (with_reducible refine (slices_Max_Lint_int.calls k2 _ c xs ma _ (Kd.R_reads' HO.out).2.2 (by rw [HL.out]; exact HC.out) A3.out).mono ?_); rintro e w3 ⟨rfl, hb⟩; have HO3 := Aside0.mk (Kd.R_below HO.out hb); have HB3 := Aside0.mk (below_step HB.out hb); clear hb HO HB)
              | (go_at_call 65; refine calls_of_args (args' := #[.slice (some ⟨g, 0, none⟩) xs.length c]) (by rw [HL.out]) ?_; (with_reducible refine (slices_Min_Lint_int.calls k2 _ c xs mi _ (Kd.R_reads' HO3.out).2.2 (by rw [HL.out]; exact HC.out) A4.out).mono ?_); rintro e w4 ⟨rfl, hb⟩; have HO4 := Aside0.mk (Kd.R_below HO3.out hb); have HB4 := Aside0.mk (below_step HB3.out hb); clear hb HO3 HB3; obtain ⟨ad6, e6, hx6⟩ := Kd.at_int (Kd.R_reads' HO4.out).2.2 (0 : Int) (by omega) C3.out; cases e6; have hx7 : w4.cell? ⟨g, 0, none⟩ = some (.int .i64 (rd xs 0)) := by (rw [Addr.add_lit] at hx6; exact hx6)))
            go_region
            go_wp2
            go_ret2
            exact ⟨rfl, by repeat (first | exact HB4.out | apply pw_below_drewN | apply below_drew1)⟩
          · rw [if_neg c3] at H
            exact absurd H (by simp)
        · rw [if_neg c2] at H
          have c2b : (ma == mi) = false := beq_eq_false_iff_ne.mpr c2
          have H' := Aside0.mk H
          clear c2 H
          go_wp2_with (first
            | (go_at_call 64; refine calls_of_args (args' := #[.slice A xs.length c]) (by rw [HL.out]) ?_; (with_reducible refine (slices_Max_Lint_int.calls k2 _ c xs ma _ (Kd.R_reads' HO.out).2.2 (by rw [HL.out]; exact HC.out) A3.out).mono ?_); rintro e w3 ⟨rfl, hb⟩; have HO3 := Aside0.mk (Kd.R_below HO.out hb); have HB3 := Aside0.mk (below_step HB.out hb); clear hb HO HB)
            | (go_at_call 65; refine calls_of_args (args' := #[.slice A xs.length c]) (by rw [HL.out]) ?_; (with_reducible refine (slices_Min_Lint_int.calls k2 _ c xs mi _ (Kd.R_reads' HO3.out).2.2 (by rw [HL.out]; exact HC.out) A4.out).mono ?_); rintro e w4 ⟨rfl, hb⟩; have HO4 := Aside0.mk (Kd.R_below HO3.out hb); have HB4 := Aside0.mk (below_step HB3.out hb); clear hb HO3 HB3))
          go_loopg [43] k2 (fun kq v43 w' => ∃ (ys : List Int) (i : Int), v43 = .int .i64 i ∧ Aside0 (impl_rounds.l1 kq a0 a1 a2 ys j i = some (r1, r2)) ∧ Aside0 (kq ≤ k2) ∧ Aside0 (ys.length = L) ∧ Aside0 (Kd.R (Kd.int .i64) 3 w' w.heap.size (fun _ => True) (.slice A L c) ys) ∧ Aside0 (Below w.heap.size w w'))
          case atStart => exact ⟨xs, 0, rfl, H', ⟨Nat.le_refl _⟩, HL, HO4, HB4⟩
          case round =>
            clear H' HO4 HB4 HL
            obtain ⟨ys, i, rfl, HA, HK3, HL, HO, HB⟩ := hrel
            cases gk with
            | zero => exact absurd HA.out (by simp [impl_rounds.l1])
            | succ k3 =>
              have H := HA.out
              clear HA
              simp only [impl_rounds.l1] at H
              have hl := HL.out
              by_cases c2 : i < (ys.length : Int)
              · rw [if_pos c2] at H
                have c2' : i < (L : Int) := by omega
                have c2b : decide (i < (L : Int)) = true := decide_eq_true c2'
                by_cases c3 : 0 ≤ i
                · rw [if_pos c3] at H
                  have c3b : decide (0 ≤ i) = true := decide_eq_true c3
                  obtain ⟨y, A5, H⟩ := Option.bind_eq_some_iff.mp H
                  have A6 := Aside0.mk A5
                  have H' := Aside0.mk H
                  clear A5 H
                  have hO := HO.out
                  rw [← hl] at hO
                  obtain ⟨g, cg, eg, gb, gl, cl, HG⟩ := Kd.R_form hO (by omega)
                  rw [hl] at eg
                  cases eg
                  obtain ⟨ad, e5, hx5⟩ := Kd.at_int (Kd.R_reads' hO).2.2 i c3 c2
                  cases e5
                  have HGB := Aside0.mk gb
                  clear gb gl cl HG hl
                  have C2 := Aside0.mk c2
                  have C3 := Aside0.mk c3
                  have HO2 := Aside0.mk hO
                  have hcell : wr.cell? ⟨g, i.toNat, none⟩ = some (.int .i64 (rd ys i)) := by simpa [Addr.add_lit] using hx5
                  clear hx5 hO c2
                  replace c2' := eq_true c2'
                  replace c3 := eq_true c3
                  go_wp2_with (first
                    | (go_at_call 23; (with_reducible refine (impl_IndexAfter.calls k3 a0 a1 (rd ys i) a2 y _ A6.out).mono ?_); rintro e w6 ⟨rfl, hb⟩; have HO3 := Aside0.mk (Kd.R_below HO2.out hb); have HB3 := Aside0.mk (below_step HB.out hb); clear hb hcell HO2 HO HB; obtain ⟨hx6, hf6⟩ := Kd.R_celln 0 HO3.out i C3.out C2.out; have HP := Kd.R_putg HO3.out i y)
                    | ((with_reducible refine gate_store (t := 3) (p := 55) rfl ?_); refine store_event (t := 3) (p := 55) (v := ?vo) (w1 := (w6.setCell ⟨g, i.toNat, none⟩ (.int .i64 y))) ?hg ?ho ?hn ?hr ?_; (case ho => rfl); (case hg => rfl); (case hn => rfl); (case hr => first | (go_simp; done) | (go_simp; rfl)); intro w7 hw; have hp_ : Kd.R (Kd.int .i64) 3 w7 w.heap.size (fun _ => True) (.slice (some ⟨g, 0, none⟩) L c) (ys.set i.toNat y) := (by rw [hw]; have h9 := HP.1; rw [HL.out] at h9; exact h9); have HO7 := Aside0.mk hp_; have HB7 := Aside0.mk ((by rw [hw]; exact below_set (HB3.out) HGB.out : Below w.heap.size w w7)); clear HP hw hp_ HO3 HB3))
                  go_roundg k3
                  case measure => have := HK.out; have := HK3.out; omega
                  case rel => exact ⟨ys.set i.toNat y, wrap64 (i + 1), rfl, H', ⟨by have := HK.out; have := HK3.out; omega⟩, ⟨by rw [List.length_set]; exact HL.out⟩, HO7, HB7⟩
                · rw [if_neg c3] at H
                  exact absurd H (by simp)
              · rw [if_neg c2] at H
                have c2' : ¬ i < (L : Int) := by omega
                have c2b : decide (i < (L : Int)) = false := decide_eq_false c2'
                have H' := Aside0.mk H
                clear c2 c2' H hl
                go_wp2
                go_roundg k3
                case measure => have := HK.out; have := HK3.out; omega
                case rel => exact ⟨ys, wrap64 (j + 1), rfl, H', ⟨by have := HK.out; have := HK3.out; omega⟩, HL, HO, HB⟩
      · rw [if_neg c1] at H
        have c1b : decide (j ≤ a0) = false := decide_eq_false c1
        simp only [Option.some.injEq, Prod.mk.injEq] at H
        obtain ⟨rfl, rfl⟩ := H
        clear c1
        go_wp2
        go_ret2
        exact ⟨rfl, HB.out⟩
set_option maxHeartbeats 8000000 in
set_option maxRecDepth 100000 in
theorem impl_rounds.calls (k : Nat) (a0 a1 a2 : Int) (r1 r2 : Int) (w : World) (h : impl_rounds.f k a0 a1 a2 = some (r1, r2)) :
    Calls Try.prog 42 #[.int .i64 a0, .int .i64 a1, .int .i64 a2] w fun e w' => e = .returned (.tuple #[.int .i64 r1, .int .i64 r2]) ∧ Below w.heap.size w w' := by
  unfold impl_rounds.f at h
  obtain ⟨b, hb, h⟩ := Option.bind_eq_some_iff.mp h
  cases b with
  | false =>
    rw [if_neg (by decide)] at h
    simp only [Option.some.injEq, Prod.mk.injEq] at h
    obtain ⟨rfl, rfl⟩ := h
    have HOK := Aside0.mk hb
    clear hb
    go_enter Try.func42, Try.ntmps42
    go_wp2_with (go_at_call 22; (with_reducible refine (impl_PilesOk.calls a0 a1 false _ HOK.out).mono ?_); rintro e w' ⟨rfl, ⟨nd, rfl⟩⟩)
    go_ret2
    exact ⟨rfl, by repeat (first | exact Below.refl _ _ | apply pw_below_drewN | apply below_drew1)⟩
  | true =>
    rw [if_pos rfl] at h
    by_cases hp : a2 < 0
    · rw [if_pos hp] at h
      simp only [Option.some.injEq, Prod.mk.injEq] at h
      obtain ⟨rfl, rfl⟩ := h
      have HOK := Aside0.mk hb
      have g1 : decide (a2 < 0) = true := decide_eq_true hp
      clear hb hp
      go_enter Try.func42, Try.ntmps42
      go_wp2_with (go_at_call 22; (with_reducible refine (impl_PilesOk.calls a0 a1 true _ HOK.out).mono ?_); rintro e w' ⟨rfl, ⟨nd, rfl⟩⟩)
      go_ret2
      exact ⟨rfl, by repeat (first | exact Below.refl _ _ | apply pw_below_drewN | apply below_drew1)⟩
    · rw [if_neg hp] at h
      by_cases hq : a1 ≤ a2
      · rw [if_pos hq] at h
        simp only [Option.some.injEq, Prod.mk.injEq] at h
        obtain ⟨rfl, rfl⟩ := h
        have HOK := Aside0.mk hb
        have g1 : decide (a2 < 0) = false := decide_eq_false hp
        have g2 : decide (a1 ≤ a2) = true := decide_eq_true hq
        have g3 : decide (a2 ≥ a1) = true := decide_eq_true hq
        clear hb hp hq
        go_enter Try.func42, Try.ntmps42
        go_wp2_with (go_at_call 22; (with_reducible refine (impl_PilesOk.calls a0 a1 true _ HOK.out).mono ?_); rintro e w' ⟨rfl, ⟨nd, rfl⟩⟩)
        go_ret2
        exact ⟨rfl, by repeat (first | exact Below.refl _ _ | apply pw_below_drewN | apply below_drew1)⟩
      · rw [if_neg hq] at h
        obtain ⟨x0, h1, h⟩ := Option.bind_eq_some_iff.mp h
        exact impl_rounds.calls_in k a0 a1 a2 x0 r1 r2 w hb hp hq h1 h
end Go.Proofs.Ytbeehklibkeecaa.F
end
section
/- Laid by a program of this claim's own. What the Go function does, as a Lean function, and the proof that the Go code does just that; Lean checks it. -/
namespace Go.Proofs.Ytbeehklibkeecaa.F
open Go.RowKit Go.Proofs.YtbeehklibkeecaaW.PrintWords Go.Proofs.YtbeehklibkeecaaW.PrintLast Go.Proofs.YtbeehklibkeecaaW.PrintMore
attribute [local go_sem] max2_int min2_int max_two min_two max_three min_three max_four min_four   -- for this text's walks alone
set_option linter.unusedVariables false
set_option linter.unusedSimpArgs false
/-! ### impl_RoundsNeeded: function 12 -/
def impl_RoundsNeeded.f (k : Nat) (a0 : Int) (a1 : Int) (a2 : Int) : Option (Int) := (impl_rounds.f k a0 a1 a2).bind fun bt242 => (some bt242.1)
set_option maxHeartbeats 8000000 in
set_option maxRecDepth 100000 in
theorem impl_RoundsNeeded.calls (k : Nat) (a0 : Int) (a1 : Int) (a2 : Int) (r : Int) (w : World) (h : impl_RoundsNeeded.f k a0 a1 a2 = some r) :
    Calls Try.prog 12 #[.int .i64 a0, .int .i64 a1, .int .i64 a2] w fun e w' => e = .returned (.int .i64 r) ∧ Below w.heap.size w w' := by
  have HB := Aside0.mk (Below.refl w.heap.size w)
  have H : ((impl_rounds.f k a0 a1 a2).bind fun bt242 => (some bt242.1)) = some r := h
  clear h
  replace H := Option.bind_eq_some_iff.mp H
  obtain ⟨⟨t242, t243⟩, A40, H⟩ := H
  replace H : (some t242) = some r := H
  have A4 := Aside0.mk A40
  clear A40
  obtain rfl := Option.some.inj H
  go_enter Try.func12, Try.ntmps12
  go_wp2_with (first | ((with_reducible refine gate_callee (f := 42) rfl ?_); refine goesL_ (some 13) rfl rfl Try.func42 (by kernel_rfl) rfl #[.int .i64 a0, .int .i64 a1, .int .i64 a2] rfl (by (try simp only [List.map_toArray, List.map_cons, List.map_nil]); first | done | rfl | (simp only [List.length_drop, List.length_take]; rfl)) ?_; (with_reducible refine (impl_rounds.calls k a0 a1 a2 t242 t243 _ A4.out).mono ?_); rintro e w5 ⟨rfl, hb⟩; refine ⟨_, rfl, ?_⟩; have n0_ := Aside0.mk (below_step (by repeat (first | (with_reducible first | exact HB.out | apply below_alloc | apply pw_below_drewN | apply below_drew1) | exact HB.out)) hb); clear HB; have HB := n0_; clear n0_; (try clear hb); (try clear hb2); (try clear hk); (try clear hi)))
  go_ret
  exact ⟨by first | rfl | (simp [errW_none, errW_some] <;> rfl) | (simp [*, errW_none, errW_some] <;> rfl), by repeat (first | (with_reducible first | exact HB.out | apply below_alloc | apply pw_below_drewN | apply below_drew1) | exact HB.out)⟩
end Go.Proofs.Ytbeehklibkeecaa.F
end
