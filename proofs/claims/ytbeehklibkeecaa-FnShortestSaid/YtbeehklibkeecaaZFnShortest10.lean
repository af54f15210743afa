import Derived.Test.YtbeehklibkeecaaZFnShortest4
import Derived.Test.YtbeehklibkeecaaZFnShortest9
import Derived.Test.YtbeehklibkeecaaZFnShortest5
import Derived.Test.YtbeehklibkeecaaZFnShortest8
import Derived.Shelf.SlSortCmp.Whole1
import Derived.Shelf.SlSortCmp.NoneTotal
import Derived.Lib.SlicesCompact
import Derived.Shelf.SlLaysF
import Derived.Shelf.SlGeneric
import Derived.Test.YtbeehklibkeecaaProg
section
/- Laid by a program of this claim's own. What the Go function does, as a Lean function, and the proof that the Go code does just that; Lean checks it. -/
namespace Go.Proofs.Ytbeehklibkeecaa.F
open Go.RowKit Go.Proofs.YtbeehklibkeecaaW.PrintWords Go.Proofs.YtbeehklibkeecaaW.PrintLast Go.Proofs.YtbeehklibkeecaaW.PrintMore
attribute [local go_sem] max2_int min2_int max_two min_two max_three min_three max_four min_four   -- for this text's walks alone
set_option linter.unusedVariables false
set_option linter.unusedSimpArgs false
/-! ### impl_areColors_1: function 104 -/
def impl_areColors_1.f (a0 : Int) : Option (Bool) := if a0 = 0 then (some false) else (some (a0 != 1))
set_option maxHeartbeats 8000000 in
set_option maxRecDepth 100000 in
theorem impl_areColors_1.calls (a0 : Int) (r : Bool) (w : World) (h : impl_areColors_1.f a0 = some r) :
    Calls Try.prog 104 #[.int .i64 a0] w fun e w' => e = .returned (.bool r) ∧ Drawn0 w w' := by
  have H : (if a0 = 0 then (some false) else (some (a0 != 1))) = some r := h
  clear h
  by_cases c2 : a0 = 0
  · rw [if_pos c2] at H
    have c2b0 : (a0 == 0) = true := beq_iff_eq.mpr c2
    have c2b1 : (a0 != 0) = false := bne_eq_false_iff_eq.mpr c2
    clear c2
    obtain rfl := Option.some.inj H
    go_enter Try.func104, Try.ntmps104
    go_wp2
    go_ret
    exact ⟨by first | rfl | (simp; done) | (simp [*]; done), by repeat (first | exact Drawn0.refl _ | apply Drawn0.step)⟩
  · rw [if_neg c2] at H
    have c2b0 : (a0 == 0) = false := beq_eq_false_iff_ne.mpr c2
    have c2b1 : (a0 != 0) = true := bne_iff_ne.mpr c2
    obtain rfl := Option.some.inj H
    go_enter Try.func104, Try.ntmps104
    go_wp2
    go_ret
    exact ⟨by first | rfl | (simp; done) | (simp [*]; done), by repeat (first | exact Drawn0.refl _ | apply Drawn0.step)⟩
end Go.Proofs.Ytbeehklibkeecaa.F
end
section
/- Laid by a program of this claim's own. What the Go function does, as a Lean function, and the proof that the Go code does just that; Lean checks it. -/
namespace Go.Proofs.Ytbeehklibkeecaa.F
open Go.RowKit Go.Proofs.YtbeehklibkeecaaW.PrintWords Go.Proofs.YtbeehklibkeecaaW.PrintLast Go.Proofs.YtbeehklibkeecaaW.PrintMore
attribute [local go_sem] max2_int min2_int max_two min_two max_three min_three max_four min_four   -- for this text's walks alone
set_option linter.unusedVariables false
set_option linter.unusedSimpArgs false
/-! ### slices_ContainsFunc_Lint_int__impl_areColors_1: function 95 -/
theorem impl_areColors_1.some_ (x : Int) : ∃ b, impl_areColors_1.f x = some b := by
  unfold impl_areColors_1.f
  repeat' split
  all_goals exact ⟨_, rfl⟩
def slices_ContainsFunc_Lint_int__impl_areColors_1.f (l0 : List Int) : Option (Bool) := some (l0.any fun x => impl_areColors_1.f x == some true)
theorem slices_ContainsFunc_Lint_int__impl_areColors_1.calls (A0 : Option Addr) (c0 : Nat) (l0 : List Int) (r : Bool) (w : World) (hr0 : Kd.C (Kd.int .i64) w A0 l0.length l0) (hc0 : l0.length ≤ c0) (h : slices_ContainsFunc_Lint_int__impl_areColors_1.f l0 = some r) :
    Calls Try.prog 95 #[.slice A0 l0.length c0, .func (.func 104) #[] #[]] w fun e w' => e = .returned (.bool r) ∧ Drawn0 w w' := by
  obtain rfl := Option.some.inj h
  refine slices_ContainsFunc_Lint_int.pred (fun x => impl_areColors_1.f x == some true) 104 #[] (enters_of Try.func104 (by kernel_rfl) rfl) A0 c0 l0 w hr0 hc0 (fun W x _ => ?_)
  obtain ⟨b, hb⟩ := impl_areColors_1.some_ x
  have e : (impl_areColors_1.f x == some true) = b := by rw [hb]; cases b <;> rfl
  show Calls _ _ _ W fun e w' => e = .returned (.bool (impl_areColors_1.f x == some true)) ∧ Drawn0 W w'
  rw [e]
  exact impl_areColors_1.calls x b W hb
/-! ### impl_areColors: function 76 -/
def impl_areColors.f (l0 : List Int) (a1 : Int) : Option (Bool) := if (l0.length : Int) ≤ a1 then ((slices_ContainsFunc_Lint_int__impl_areColors_1.f l0).bind fun t766 => (some (!t766))) else (some false)
set_option maxHeartbeats 8000000 in
set_option maxRecDepth 100000 in
theorem impl_areColors.calls (A0 : Option Addr) (c0 : Nat) (l0 : List Int) (a1 : Int) (r : Bool) (w : World) (hr0 : Kd.C (Kd.int .i64) w A0 l0.length l0) (hc0 : l0.length ≤ c0) (h : impl_areColors.f l0 a1 = some r) :
    Calls Try.prog 76 #[.slice A0 l0.length c0, .int .i64 a1] w fun e w' => e = .returned (.bool r) ∧ Drawn0 w w' := by
  have HR0 := Aside0.mk hr0
  have HC0 := Aside0.mk hc0
  clear hr0 hc0
  have H : (if (l0.length : Int) ≤ a1 then ((slices_ContainsFunc_Lint_int__impl_areColors_1.f l0).bind fun t766 => (some (!t766))) else (some false)) = some r := h
  clear h
  by_cases c3 : (l0.length : Int) ≤ a1
  · rw [if_pos c3] at H
    have c3b0 : decide ((l0.length : Int) ≤ a1) = true := decide_eq_true c3
    clear c3
    replace H := Option.bind_eq_some_iff.mp H
    obtain ⟨t766, A40, H⟩ := H
    replace H : (some (!t766)) = some r := H
    have A4 := Aside0.mk A40
    clear A40
    obtain rfl := Option.some.inj H
    go_enter Try.func76, Try.ntmps76
    go_wp2_with (first | (go_at_call 95; (with_reducible refine (slices_ContainsFunc_Lint_int__impl_areColors_1.calls _ _ l0 t766 _ ?side1 ?side2 A4.out).mono ?_); (case side1 => repeat (first | exact HR0.out | (with_reducible refine Kd.C_alloc ?_ _) | (with_reducible refine Kd.C_drewN ?_ _) | (with_reducible refine Kd.C_drew ?_))); (case side2 => exact HC0.out); rintro e w' ⟨rfl, ⟨nd, rfl⟩⟩))
    go_ret
    exact ⟨by first | rfl | (simp; done) | (simp [*]; done), by repeat (first | exact Drawn0.refl _ | apply Drawn0.step)⟩
  · rw [if_neg c3] at H
    have c3b0 : decide ((l0.length : Int) ≤ a1) = false := decide_eq_false c3
    clear c3
    obtain rfl := Option.some.inj H
    go_enter Try.func76, Try.ntmps76
    go_wp2
    go_ret
    exact ⟨by first | rfl | (simp; done) | (simp [*]; done), by repeat (first | exact Drawn0.refl _ | apply Drawn0.step)⟩
end Go.Proofs.Ytbeehklibkeecaa.F
end
section
/- Laid by a program of this claim's own. What the Go function does, as a Lean function, and the proof that the Go code does just that; Lean checks it. -/
namespace Go.Proofs.Ytbeehklibkeecaa.F
open Go.RowKit Go.Proofs.YtbeehklibkeecaaW.PrintWords Go.Proofs.YtbeehklibkeecaaW.PrintLast Go.Proofs.YtbeehklibkeecaaW.PrintMore
attribute [local go_sem] max2_int min2_int max_two min_two max_three min_three max_four min_four   -- for this text's walks alone
set_option linter.unusedVariables false
set_option linter.unusedSimpArgs false
/-! ### impl_FaroRun: function 35 -/
mutual
def impl_FaroRun.j0 : Nat → List Int → List Int → Bool → Option (List Int × Bool)
  | 0, _, _, _ => none
  | k + 1, x0, x1, x22 => if x22 = true then (some (([] : List Int), false)) else ((slices_Clone_Lint_int.f x0).bind fun t770 => (impl_FaroRun.l0 k t770 x1 (x1.length : Int) 0))
def impl_FaroRun.l0 : Nat → List Int → List Int → Int → Int → Option (List Int × Bool)
  | 0, _, _, _, _ => none
  | k + 1, x6, x25, x26, x27 => if x27 < x26 then (if 0 ≤ x27 then (if x27 < (x25.length : Int) then ((impl_faro.f k x6 (rd x25 x27)).bind fun t774 => (impl_FaroRun.l0 k t774 x25 x26 (wrap64 (x27 + 1)))) else (none)) else (none)) else (some (x6, true))
end
def impl_FaroRun.f (k : Nat) (l0 : List Int) (l1 : List Int) : Option (List Int × Bool) := (impl_PacketOk.f k l0).bind fun t767 => (if t767 = true then ((impl_isPaired.f (l0.length : Int)).bind fun t768 => (if t768 = true then ((impl_areColors.f l1 20).bind fun t769 => (impl_FaroRun.j0 k l0 l1 (!t769))) else (impl_FaroRun.j0 k l0 l1 true))) else (impl_FaroRun.j0 k l0 l1 true))
set_option maxHeartbeats 8000000 in
set_option maxRecDepth 100000 in
theorem impl_FaroRun.calls (k : Nat) (A0 : Option Addr) (c0 : Nat) (l0 : List Int) (A1 : Option Addr) (c1 : Nat) (l1 : List Int) (r1 : List Int) (r2 : Bool) (w : World) (hr0 : Kd.C (Kd.int .i64) w A0 l0.length l0) (hc0 : l0.length ≤ c0) (hr1 : Kd.C (Kd.int .i64) w A1 l1.length l1) (hc1 : l1.length ≤ c1) (h : impl_FaroRun.f k l0 l1 = some (r1, r2)) :
    Calls Try.prog 35 #[.slice A0 l0.length c0, .slice A1 l1.length c1] w fun e w' => ∃ v0_ : Value, e = .returned (.tuple #[v0_, .bool r2]) ∧ Kd.R (Kd.int .i64) 3 w' w.heap.size (fun _ => True) v0_ r1 ∧ Below w.heap.size w w' := by
  have HR0 := Aside0.mk hr0
  have HC0 := Aside0.mk hc0
  clear hr0 hc0
  have HR1 := Aside0.mk hr1
  have HC1 := Aside0.mk hc1
  clear hr1 hc1
  have HB := Aside0.mk (Below.refl w.heap.size w)
  have H : ((impl_PacketOk.f k l0).bind fun t767 => (if t767 = true then ((impl_isPaired.f (l0.length : Int)).bind fun t768 => (if t768 = true then ((impl_areColors.f l1 20).bind fun t769 => (impl_FaroRun.j0 k l0 l1 (!t769))) else (impl_FaroRun.j0 k l0 l1 true))) else (impl_FaroRun.j0 k l0 l1 true))) = some (r1, r2) := h
  clear h
  have HC3 := Aside0.mk H
  clear H
  go_enter Try.func35, Try.ntmps35
  go_upto_region 1 with (fail)
  go_cut [22] (fun v22 wc => ∃ (kq : Nat) (x22_2 : Bool), v22 = .bool x22_2 ∧ Aside0 (impl_FaroRun.j0 kq l0 l1 x22_2 = some (r1, r2)) ∧ Aside0 (kq ≤ k) ∧ Aside0 (Below w.heap.size w wc))
  case first =>
    have H := HC3.out
    clear HC3
    replace H := Option.bind_eq_some_iff.mp H
    obtain ⟨t767, A40, H⟩ := H
    replace H : (if t767 = true then ((impl_isPaired.f (l0.length : Int)).bind fun t768 => (if t768 = true then ((impl_areColors.f l1 20).bind fun t769 => (impl_FaroRun.j0 k l0 l1 (!t769))) else (impl_FaroRun.j0 k l0 l1 true))) else (impl_FaroRun.j0 k l0 l1 true)) = some (r1, r2) := H
    have A4 := Aside0.mk A40
    clear A40
    by_cases c5 : t767 = true
    · subst c5
      have H1 : ((impl_isPaired.f (l0.length : Int)).bind fun t768 => (if t768 = true then ((impl_areColors.f l1 20).bind fun t769 => (impl_FaroRun.j0 k l0 l1 (!t769))) else (impl_FaroRun.j0 k l0 l1 true))) = some (r1, r2) := by rw [if_pos rfl] at H; exact H
      clear H
      have H := H1
      clear H1
      replace H := Option.bind_eq_some_iff.mp H
      obtain ⟨t768, A60, H⟩ := H
      replace H : (if t768 = true then ((impl_areColors.f l1 20).bind fun t769 => (impl_FaroRun.j0 k l0 l1 (!t769))) else (impl_FaroRun.j0 k l0 l1 true)) = some (r1, r2) := H
      have A6 := Aside0.mk A60
      clear A60
      by_cases c7 : t768 = true
      · subst c7
        have H1 : ((impl_areColors.f l1 20).bind fun t769 => (impl_FaroRun.j0 k l0 l1 (!t769))) = some (r1, r2) := by rw [if_pos rfl] at H; exact H
        clear H
        have H := H1
        clear H1
        replace H := Option.bind_eq_some_iff.mp H
        obtain ⟨t769, A80, H⟩ := H
        replace H : (impl_FaroRun.j0 k l0 l1 (!t769)) = some (r1, r2) := H
        have A8 := Aside0.mk A80
        clear A80
        have H' := Aside0.mk H
        clear H
        go_wp2_with (first | ((with_reducible refine gate_callee (f := 56) rfl ?_); refine goesL_ (some 10) rfl rfl Try.func56 (by kernel_rfl) rfl #[.slice A0 l0.length c0] rfl (by (try simp only [List.map_toArray, List.map_cons, List.map_nil]); first | done | rfl | (simp only [List.length_drop, List.length_take]; rfl)) ?_; (with_reducible refine (impl_PacketOk.calls k _ _ l0 true _ ?side1 ?side2 A4.out).mono ?_); (case side1 => repeat (first | exact (Kd.C_below HR0.out HB.out) | (with_reducible refine Kd.C_alloc ?_ _) | (with_reducible refine Kd.C_drewN ?_ _) | (with_reducible refine Kd.C_drew ?_))); (case side2 => exact HC0.out); rintro e w9 ⟨rfl, hb⟩; refine ⟨_, rfl, ?_⟩; have n0_ := Aside0.mk (below_step (by repeat (first | (with_reducible first | exact HB.out | apply below_alloc | apply pw_below_drewN | apply below_drew1) | exact HB.out)) hb); clear HB; have HB := n0_; clear n0_; (try clear hb); (try clear hb2); (try clear hk); (try clear hi)) | (go_at_call 70; (with_reducible refine (impl_isPaired.calls (l0.length : Int) true _ A6.out).mono ?_); rintro e w' ⟨rfl, ⟨nd, rfl⟩⟩) | (go_at_call 76; (with_reducible refine (impl_areColors.calls _ _ l1 20 t769 _ ?side1 ?side2 A8.out).mono ?_); (case side1 => repeat (first | exact (Kd.C_below HR1.out (by repeat (first | (with_reducible first | exact HB.out | apply below_alloc | apply pw_below_drewN | apply below_drew1) | exact HB.out))) | (with_reducible refine Kd.C_alloc ?_ _) | (with_reducible refine Kd.C_drewN ?_ _) | (with_reducible refine Kd.C_drew ?_))); (case side2 => exact HC1.out); rintro e w' ⟨rfl, ⟨nd, rfl⟩⟩))
        go_meet
        case rel => exact ⟨_, (!t769), (by first | rfl | (simp; done) | (simp [*]; done)), H', ⟨by first | omega | exact Nat.le_refl _⟩, ⟨by repeat (first | (with_reducible first | exact HB.out | apply below_alloc | apply pw_below_drewN | apply below_drew1) | exact HB.out)⟩⟩
      · replace c7 := Bool.eq_false_iff.mpr c7
        subst c7
        have H1 : (impl_FaroRun.j0 k l0 l1 true) = some (r1, r2) := by rw [if_neg (show ¬ (false = true) by decide)] at H; exact H
        clear H
        have H := H1
        clear H1
        have H' := Aside0.mk H
        clear H
        go_wp2_with (first | ((with_reducible refine gate_callee (f := 56) rfl ?_); refine goesL_ (some 10) rfl rfl Try.func56 (by kernel_rfl) rfl #[.slice A0 l0.length c0] rfl (by (try simp only [List.map_toArray, List.map_cons, List.map_nil]); first | done | rfl | (simp only [List.length_drop, List.length_take]; rfl)) ?_; (with_reducible refine (impl_PacketOk.calls k _ _ l0 true _ ?side1 ?side2 A4.out).mono ?_); (case side1 => repeat (first | exact (Kd.C_below HR0.out HB.out) | (with_reducible refine Kd.C_alloc ?_ _) | (with_reducible refine Kd.C_drewN ?_ _) | (with_reducible refine Kd.C_drew ?_))); (case side2 => exact HC0.out); rintro e w10 ⟨rfl, hb⟩; refine ⟨_, rfl, ?_⟩; have n0_ := Aside0.mk (below_step (by repeat (first | (with_reducible first | exact HB.out | apply below_alloc | apply pw_below_drewN | apply below_drew1) | exact HB.out)) hb); clear HB; have HB := n0_; clear n0_; (try clear hb); (try clear hb2); (try clear hk); (try clear hi)) | (go_at_call 70; (with_reducible refine (impl_isPaired.calls (l0.length : Int) false _ A6.out).mono ?_); rintro e w' ⟨rfl, ⟨nd, rfl⟩⟩))
        go_meet
        case rel => exact ⟨_, (true), (by first | rfl | (simp; done) | (simp [*]; done)), H', ⟨by first | omega | exact Nat.le_refl _⟩, ⟨by repeat (first | (with_reducible first | exact HB.out | apply below_alloc | apply pw_below_drewN | apply below_drew1) | exact HB.out)⟩⟩
    · replace c5 := Bool.eq_false_iff.mpr c5
      subst c5
      have H1 : (impl_FaroRun.j0 k l0 l1 true) = some (r1, r2) := by rw [if_neg (show ¬ (false = true) by decide)] at H; exact H
      clear H
      have H := H1
      clear H1
      have H' := Aside0.mk H
      clear H
      go_wp2_with (first | ((with_reducible refine gate_callee (f := 56) rfl ?_); refine goesL_ (some 10) rfl rfl Try.func56 (by kernel_rfl) rfl #[.slice A0 l0.length c0] rfl (by (try simp only [List.map_toArray, List.map_cons, List.map_nil]); first | done | rfl | (simp only [List.length_drop, List.length_take]; rfl)) ?_; (with_reducible refine (impl_PacketOk.calls k _ _ l0 false _ ?side1 ?side2 A4.out).mono ?_); (case side1 => repeat (first | exact (Kd.C_below HR0.out HB.out) | (with_reducible refine Kd.C_alloc ?_ _) | (with_reducible refine Kd.C_drewN ?_ _) | (with_reducible refine Kd.C_drew ?_))); (case side2 => exact HC0.out); rintro e w11 ⟨rfl, hb⟩; refine ⟨_, rfl, ?_⟩; have n0_ := Aside0.mk (below_step (by repeat (first | (with_reducible first | exact HB.out | apply below_alloc | apply pw_below_drewN | apply below_drew1) | exact HB.out)) hb); clear HB; have HB := n0_; clear n0_; (try clear hb); (try clear hb2); (try clear hk); (try clear hi)))
      go_meet
      case rel => exact ⟨_, (true), (by first | rfl | (simp; done) | (simp [*]; done)), H', ⟨by first | omega | exact Nat.le_refl _⟩, ⟨by repeat (first | (with_reducible first | exact HB.out | apply below_alloc | apply pw_below_drewN | apply below_drew1) | exact HB.out)⟩⟩
  case rest =>
    clear HC3
    try clear c1
    try clear p2
    try clear c3
    try clear c5
    try clear c7
    obtain ⟨kq, x22_2, rfl, HA, HJ2, HB⟩ := hcut
    cases kq with
    | zero => exact absurd HA.out (by simp [impl_FaroRun.j0])
    | succ kj2 =>
      have H := HA.out
      clear HA
      simp only [impl_FaroRun.j0] at H
      by_cases c12 : x22_2 = true
      · subst c12
        have H1 : (some (([] : List Int), false)) = some (r1, r2) := by rw [if_pos rfl] at H; exact H
        clear H
        have H := H1
        clear H1
        simp only [Option.some.injEq, Prod.mk.injEq] at H
        obtain ⟨rfl, rfl⟩ := H
        go_wp2
        go_ret2
        exact ⟨_, by first | rfl | (simp [errW_none, errW_some] <;> rfl) | (simp [*, errW_none, errW_some] <;> rfl), by first | exact Kd.R_nil _ _ _ _ _ | exact Kd.N_nil _ _ _ _ _ | exact Kd.V_nil _ _ _ _ _ | exact Kd.Q_nil _ _ _ _ _ | exact Kd.S_nil _ _ _ _ _, by repeat (first | (with_reducible first | exact HB.out | apply below_alloc | apply pw_below_drewN | apply below_drew1) | exact HB.out)⟩
      · replace c12 := Bool.eq_false_iff.mpr c12
        subst c12
        have H1 : ((slices_Clone_Lint_int.f l0).bind fun t770 => (impl_FaroRun.l0 kj2 t770 l1 (l1.length : Int) 0)) = some (r1, r2) := by rw [if_neg (show ¬ (false = true) by decide)] at H; exact H
        clear H
        have H := H1
        clear H1
        replace H := Option.bind_eq_some_iff.mp H
        obtain ⟨t770, A130, H⟩ := H
        replace H : (impl_FaroRun.l0 kj2 t770 l1 (l1.length : Int) 0) = some (r1, r2) := H
        have A13 := Aside0.mk A130
        clear A130
        have H' := Aside0.mk H
        clear H
        go_wp2_with (first | ((with_reducible refine gate_callee (f := 77) rfl ?_); refine goesL_ (some 24) rfl rfl Try.func77 (by kernel_rfl) rfl #[.slice A0 l0.length c0] rfl (by (try simp only [List.map_toArray, List.map_cons, List.map_nil]); first | done | rfl | (simp only [List.length_drop, List.length_take]; rfl)) ?_; (with_reducible refine (slices_Clone_Lint_int.calls _ _ l0 t770 _ ?side1 ?side2 A13.out).mono ?_); (case side1 => repeat (first | exact (Kd.C_below HR0.out HB.out) | (with_reducible refine Kd.C_alloc ?_ _) | (with_reducible refine Kd.C_drewN ?_ _) | (with_reducible refine Kd.C_drew ?_))); (case side2 => exact HC0.out); rintro e w14 ⟨v771, rfl, ho0, hb⟩; refine ⟨_, rfl, ?_⟩; have n0_ := Aside0.mk (Kd.R_lower ho0 (below_size (by repeat (first | (with_reducible first | exact HB.out | apply below_alloc | apply pw_below_drewN | apply below_drew1) | exact HB.out)))); have n1_ := Aside0.mk (below_step (by repeat (first | (with_reducible first | exact HB.out | apply below_alloc | apply pw_below_drewN | apply below_drew1) | exact HB.out)) hb); clear HB; have HO772 := n0_; have HB := n1_; clear n0_ n1_; (try clear hb); (try clear hb2); (try clear hk); (try clear hi); (try clear ho0)))
        go_loopg [6, 27] kj2 (fun kq v6 v27 w' => ∃ (x6_2 : List Int) (x27_2 : Int), v27 = .int .i64 x27_2 ∧ Aside0 (impl_FaroRun.l0 kq x6_2 l1 (l1.length : Int) x27_2 = some (r1, r2)) ∧ Aside0 (kq ≤ kj2) ∧ Aside0 (Kd.R (Kd.int .i64) 3 w' w.heap.size (fun _ => True) v6 x6_2) ∧ Aside0 (Below w.heap.size w w'))
        case atStart => exact ⟨(t770), (0), (by first | rfl | (simp; done) | (simp [*]; done)), H', ⟨Nat.le_refl _⟩, ⟨by (with_reducible repeat (first | apply Kd.R_alloc | apply Kd.R_drewN | apply Kd.R_drew)); exact HO772.out⟩, ⟨by repeat (first | (with_reducible first | exact HB.out | apply below_alloc | apply pw_below_drewN | apply below_drew1) | exact HB.out)⟩⟩
        case round =>
          clear H'
          try clear c1
          try clear p2
          try clear c3
          try clear c5
          try clear c7
          try clear c12
          try clear p2
          obtain ⟨x6_2, x27_2, rfl, HA, HK2, HO_6, HB⟩ := hrel
          cases gk with
          | zero => exact absurd HA.out (by simp [impl_FaroRun.l0])
          | succ k2 =>
            have H := HA.out
            clear HA
            simp only [impl_FaroRun.l0] at H
            by_cases c15 : x27_2 < (l1.length : Int)
            · rw [if_pos c15] at H
              have c15b0 : decide (x27_2 < (l1.length : Int)) = true := decide_eq_true c15
              clear c15
              by_cases c16 : 0 ≤ x27_2
              · rw [if_pos c16] at H
                have c16b0 : decide (0 ≤ x27_2) = true := decide_eq_true c16
                clear c16
                by_cases c17 : x27_2 < (l1.length : Int)
                · rw [if_pos c17] at H
                  have c17b0 : decide (x27_2 < (l1.length : Int)) = true := decide_eq_true c17
                  clear c17
                  replace H := Option.bind_eq_some_iff.mp H
                  obtain ⟨t774, A180, H⟩ := H
                  replace H : (impl_FaroRun.l0 k2 t774 l1 (l1.length : Int) (wrap64 (x27_2 + 1))) = some (r1, r2) := H
                  have A18 := Aside0.mk A180
                  clear A180
                  have H' := Aside0.mk H
                  clear H
                  have p773 : 0 ≤ (x27_2 : Int) := of_decide_eq_true (by first | (with_reducible assumption) | assumption)
                  have q773 : x27_2 < (l1.length : Int) := of_decide_eq_true (by first | (with_reducible assumption) | assumption)
                  obtain ⟨ad773, e773, hx773_0⟩ := Kd.at_int HR1.out x27_2 p773 q773
                  cases e773
                  replace hx773_0 := (HB.out.cell (World.block_lt_of_cell? w _ hx773_0)).trans hx773_0
                  replace p773 := eq_true p773
                  replace q773 := eq_true q773
                  obtain ⟨Ao19, co19, eo19⟩ := Kd.R_slice HO_6.out
                  subst eo19
                  go_wp2_with (first | ((with_reducible refine gate_callee (f := 74) rfl ?_); refine goesL_ (some 33) rfl rfl Try.func74 (by kernel_rfl) rfl #[.slice Ao19 x6_2.length co19, .int .i64 (rd l1 x27_2)] rfl (by (try simp only [List.map_toArray, List.map_cons, List.map_nil]); first | done | rfl | (simp only [List.length_drop, List.length_take]; rfl)) ?_; (with_reducible refine (impl_faro.calls k2 (fun k_ => some k_ = (.slice Ao19 x6_2.length co19 : Value).ownBlock) _ _ x6_2 (rd l1 x27_2) t774 _ ?side1 A18.out).mono ?_); (case side1 => exact Kd.R_V (Kd.R_tight rfl (HO_6.out))); rintro e w20 ⟨v775, rfl, ho0, hb⟩; refine ⟨_, rfl, ?_⟩; have n0_ := Aside0.mk (Kd.R_elder' (by (with_reducible repeat (first | apply Kd.R_alloc | apply Kd.R_drewN | apply Kd.R_drew)); exact HO_6.out) (Kd.R_base ho0) hb); have n1_ := Aside0.mk (Kd.R_lower (Kd.R_new' (Kd.R_mono (ok' := fun k_ => True) ho0 (fun _ hk_ => trivial)) (Kd.R_lt (by (with_reducible repeat (first | apply Kd.R_alloc | apply Kd.R_drewN | apply Kd.R_drew)); exact HO_6.out))) (below_size (by repeat (first | (with_reducible first | exact HB.out | apply below_alloc | apply pw_below_drewN | apply below_drew1) | exact HB.out)))); have n2_ := Aside0.mk (below_step (by repeat (first | (with_reducible first | exact HB.out | apply below_alloc | apply pw_below_drewN | apply below_drew1) | exact HB.out)) hb); clear HO_6; clear HB; have HO_6 := n0_; have HO776 := n1_; have HB := n2_; clear n0_ n1_ n2_; (try clear hb); (try clear hb2); (try clear hk); (try clear hi); (try clear ho0)))
                  go_roundg k2
                  case measure => have := HJ2.out; have := HK2.out; omega
                  case rel => exact ⟨(t774), (wrap64 (x27_2 + 1)), (by first | rfl | (simp; done) | (simp [*]; done)), H', ⟨by have := HJ2.out; have := HK2.out; omega⟩, ⟨by (with_reducible repeat (first | apply Kd.R_alloc | apply Kd.R_drewN | apply Kd.R_drew)); exact Kd.R_mono HO776.out (fun _ hk => trivial)⟩, ⟨by repeat (first | (with_reducible first | exact HB.out | apply below_alloc | apply pw_below_drewN | apply below_drew1) | exact HB.out)⟩⟩
                · rw [if_neg c17] at H
                  exact absurd H (by simp)
              · rw [if_neg c16] at H
                exact absurd H (by simp)
            · rw [if_neg c15] at H
              have c15b0 : decide (x27_2 < (l1.length : Int)) = false := decide_eq_false c15
              clear c15
              simp only [Option.some.injEq, Prod.mk.injEq] at H
              obtain ⟨rfl, rfl⟩ := H
              go_wp2
              go_ret2
              exact ⟨_, by first | rfl | (simp [errW_none, errW_some] <;> rfl) | (simp [*, errW_none, errW_some] <;> rfl), by (with_reducible repeat (first | apply Kd.R_alloc | apply Kd.R_drewN | apply Kd.R_drew)); exact HO_6.out, by repeat (first | (with_reducible first | exact HB.out | apply below_alloc | apply pw_below_drewN | apply below_drew1) | exact HB.out)⟩
end Go.Proofs.Ytbeehklibkeecaa.F
end
section
/- Laid by a program of this claim's own. What the Go function does, as a Lean function, and the proof that the Go code does just that; Lean checks it. -/
namespace Go.Proofs.Ytbeehklibkeecaa.F
open Go.RowKit Go.Proofs.YtbeehklibkeecaaW.PrintWords Go.Proofs.YtbeehklibkeecaaW.PrintLast Go.Proofs.YtbeehklibkeecaaW.PrintMore
attribute [local go_sem] max2_int min2_int max_two min_two max_three min_three max_four min_four   -- for this text's walks alone
set_option linter.unusedVariables false
set_option linter.unusedSimpArgs false
/-! ### slices_Equal_Lint_int: function 80 -/
def slices_Equal_Lint_int.l0 : Nat → List Int → List Int → Int → Int → Option (Bool)
  | 0, _, _, _, _ => none
  | k + 1, x0, x1, x12, x13 => if x13 < x12 then (if 0 ≤ x13 then (if x13 < (x0.length : Int) then (if x13 < (x1.length : Int) then (if (rd x0 x13) = (rd x1 x13) then (slices_Equal_Lint_int.l0 k x0 x1 x12 (wrap64 (x13 + 1))) else (some false)) else (none)) else (none)) else (none)) else (some true)
def slices_Equal_Lint_int.f (k : Nat) (l0 : List Int) (l1 : List Int) : Option (Bool) := if (l0.length : Int) = (l1.length : Int) then (slices_Equal_Lint_int.l0 k l0 l1 (l0.length : Int) 0) else (some false)
set_option maxHeartbeats 8000000 in
set_option maxRecDepth 100000 in
theorem slices_Equal_Lint_int.calls (k : Nat) (A0 : Option Addr) (c0 : Nat) (l0 : List Int) (A1 : Option Addr) (c1 : Nat) (l1 : List Int) (r : Bool) (w : World) (hr0 : Kd.C (Kd.int .i64) w A0 l0.length l0) (hc0 : l0.length ≤ c0) (hr1 : Kd.C (Kd.int .i64) w A1 l1.length l1) (hc1 : l1.length ≤ c1) (h : slices_Equal_Lint_int.f k l0 l1 = some r) :
    Calls Try.prog 80 #[.slice A0 l0.length c0, .slice A1 l1.length c1] w fun e w' => e = .returned (.bool r) ∧ Drawn0 w w' := by
  have HR0 := Aside0.mk hr0
  have HC0 := Aside0.mk hc0
  clear hr0 hc0
  have HR1 := Aside0.mk hr1
  have HC1 := Aside0.mk hc1
  clear hr1 hc1
  have H : (if (l0.length : Int) = (l1.length : Int) then (slices_Equal_Lint_int.l0 k l0 l1 (l0.length : Int) 0) else (some false)) = some r := h
  clear h
  by_cases c3 : (l0.length : Int) = (l1.length : Int)
  · rw [if_pos c3] at H
    have c3b0 : ((l0.length : Int) == (l1.length : Int)) = true := beq_iff_eq.mpr c3
    have c3b1 : ((l0.length : Int) != (l1.length : Int)) = false := bne_eq_false_iff_eq.mpr c3
    have c3b2 : (l0.length == l1.length) = true := by first | simpa using c3 | (simp at c3 ⊢; omega)
    clear c3
    have H' := Aside0.mk H
    clear H
    go_enter Try.func80, Try.ntmps80
    go_wp2
    repeat (go_quiet (fail); try go_wp2)
    go_loopg [13] k (fun kq v13 w' => ∃ (x13_1 : Int), v13 = .int .i64 x13_1 ∧ Aside0 (slices_Equal_Lint_int.l0 kq l0 l1 (l0.length : Int) x13_1 = some r) ∧ Aside0 (kq ≤ k) ∧ Drawn0 w w')
    case atStart => exact ⟨(0), (by first | rfl | (simp; done) | (simp [*]; done)), H', ⟨Nat.le_refl _⟩, by repeat (first | exact Drawn0.refl _ | apply Drawn0.step)⟩
    case round =>
      clear H'
      try clear c1
      try clear p2
      try clear c3
      try clear c3b0
      try clear c3b1
      try clear c3b2
      obtain ⟨x13_1, rfl, HA, HK1, ⟨m1, rfl⟩⟩ := hrel
      cases gk with
      | zero => exact absurd HA.out (by simp [slices_Equal_Lint_int.l0])
      | succ k1 =>
        have H := HA.out
        clear HA
        simp only [slices_Equal_Lint_int.l0] at H
        by_cases c4 : x13_1 < (l0.length : Int)
        · rw [if_pos c4] at H
          have c4b0 : decide (x13_1 < (l0.length : Int)) = true := decide_eq_true c4
          clear c4
          by_cases c5 : 0 ≤ x13_1
          · rw [if_pos c5] at H
            have c5b0 : decide (0 ≤ x13_1) = true := decide_eq_true c5
            clear c5
            by_cases c6 : x13_1 < (l0.length : Int)
            · rw [if_pos c6] at H
              have c6b0 : decide (x13_1 < (l0.length : Int)) = true := decide_eq_true c6
              clear c6
              by_cases c7 : x13_1 < (l1.length : Int)
              · rw [if_pos c7] at H
                have c7b0 : decide (x13_1 < (l1.length : Int)) = true := decide_eq_true c7
                clear c7
                by_cases c8 : (rd l0 x13_1) = (rd l1 x13_1)
                · rw [if_pos c8] at H
                  have c8b0 : ((rd l0 x13_1) == (rd l1 x13_1)) = true := beq_iff_eq.mpr c8
                  have c8b1 : ((rd l0 x13_1) != (rd l1 x13_1)) = false := bne_eq_false_iff_eq.mpr c8
                  clear c8
                  have H' := Aside0.mk H
                  clear H
                  have p779 : 0 ≤ (x13_1 : Int) := of_decide_eq_true (by first | (with_reducible assumption) | assumption)
                  have q779 : x13_1 < (l0.length : Int) := of_decide_eq_true (by first | (with_reducible assumption) | assumption)
                  obtain ⟨ad779, e779, hx779_0⟩ := Kd.at_int HR0.out x13_1 p779 q779
                  cases e779
                  replace p779 := eq_true p779
                  replace q779 := eq_true q779
                  have p780 : 0 ≤ (x13_1 : Int) := of_decide_eq_true (by first | (with_reducible assumption) | assumption)
                  have q780 : x13_1 < (l1.length : Int) := of_decide_eq_true (by first | (with_reducible assumption) | assumption)
                  obtain ⟨ad780, e780, hx780_0⟩ := Kd.at_int HR1.out x13_1 p780 q780
                  cases e780
                  replace p780 := eq_true p780
                  replace q780 := eq_true q780
                  go_wp2
                  repeat (go_quiet (fail); try go_wp2)
                  go_roundg k1
                  case measure => have := HK1.out; omega
                  case rel => exact ⟨(wrap64 (x13_1 + 1)), (by first | rfl | (simp; done) | (simp [*]; done)), H', ⟨by have := HK1.out; omega⟩, by repeat (first | exact Drawn0.refl _ | apply Drawn0.step)⟩
                · rw [if_neg c8] at H
                  have c8b0 : ((rd l0 x13_1) == (rd l1 x13_1)) = false := beq_eq_false_iff_ne.mpr c8
                  have c8b1 : ((rd l0 x13_1) != (rd l1 x13_1)) = true := bne_iff_ne.mpr c8
                  obtain rfl := Option.some.inj H
                  have p779 : 0 ≤ (x13_1 : Int) := of_decide_eq_true (by first | (with_reducible assumption) | assumption)
                  have q779 : x13_1 < (l0.length : Int) := of_decide_eq_true (by first | (with_reducible assumption) | assumption)
                  obtain ⟨ad779, e779, hx779_0⟩ := Kd.at_int HR0.out x13_1 p779 q779
                  cases e779
                  replace p779 := eq_true p779
                  replace q779 := eq_true q779
                  have p780 : 0 ≤ (x13_1 : Int) := of_decide_eq_true (by first | (with_reducible assumption) | assumption)
                  have q780 : x13_1 < (l1.length : Int) := of_decide_eq_true (by first | (with_reducible assumption) | assumption)
                  obtain ⟨ad780, e780, hx780_0⟩ := Kd.at_int HR1.out x13_1 p780 q780
                  cases e780
                  replace p780 := eq_true p780
                  replace q780 := eq_true q780
                  go_wp2
                  repeat (go_quiet (fail); try go_wp2)
                  go_ret
                  exact ⟨by first | rfl | (simp; done) | (simp [*]; done), by repeat (first | exact Drawn0.refl _ | apply Drawn0.step)⟩
              · rw [if_neg c7] at H
                exact absurd H (by simp)
            · rw [if_neg c6] at H
              exact absurd H (by simp)
          · rw [if_neg c5] at H
            exact absurd H (by simp)
        · rw [if_neg c4] at H
          have c4b0 : decide (x13_1 < (l0.length : Int)) = false := decide_eq_false c4
          clear c4
          obtain rfl := Option.some.inj H
          go_wp2
          repeat (go_quiet (fail); try go_wp2)
          go_ret
          exact ⟨by first | rfl | (simp; done) | (simp [*]; done), by repeat (first | exact Drawn0.refl _ | apply Drawn0.step)⟩
  · rw [if_neg c3] at H
    have c3b0 : ((l0.length : Int) == (l1.length : Int)) = false := beq_eq_false_iff_ne.mpr c3
    have c3b1 : ((l0.length : Int) != (l1.length : Int)) = true := bne_iff_ne.mpr c3
    have c3b2 : (l0.length == l1.length) = false := by first | simpa using c3 | (simp at c3 ⊢; omega)
    obtain rfl := Option.some.inj H
    go_enter Try.func80, Try.ntmps80
    go_wp2
    repeat (go_quiet (fail); try go_wp2)
    go_ret
    exact ⟨by first | rfl | (simp; done) | (simp [*]; done), by repeat (first | exact Drawn0.refl _ | apply Drawn0.step)⟩
end Go.Proofs.Ytbeehklibkeecaa.F
end
section
/- Lemmas of my own on sorting rows of rows: lexicographic order, and the shelf's sort carried to rows whose elements lead to rows. No function of the program is named here. -/
namespace Go.Proofs.Ytbeehklibkeecaa.F
open Go.RowKit Go.Shelf Go.Lib Go.Sort Go.Proofs.YtbeehklibkeecaaW.PrintWords Go.Proofs.YtbeehklibkeecaaW.PrintLast Go.Proofs.YtbeehklibkeecaaW.PrintMore
set_option linter.unusedVariables false
set_option linter.unusedSimpArgs false
/-! ### 1. The order -/
/-- What slices.Compare says of two lists. -/
def lexC : List Int → List Int → Int
  | [], [] => 0
  | [], _ :: _ => -1
  | _ :: _, [] => 1
  | x :: xs, y :: ys => if x = y then lexC xs ys else if x < y then -1 else 1
theorem lexC_refl (a : List Int) : lexC a a = 0 := by
  induction a with
  | nil => rfl
  | cons x xs ih => unfold lexC; rw [if_pos rfl]; exact ih
theorem lexC_zero (a : List Int) : ∀ b, lexC a b = 0 → a = b := by
  induction a with
  | nil =>
    intro b h
    cases b with
    | nil => rfl
    | cons y ys => unfold lexC at h; omega
  | cons x xs ih =>
    intro b h
    cases b with
    | nil => unfold lexC at h; omega
    | cons y ys =>
      unfold lexC at h
      by_cases e : x = y
      · rw [if_pos e] at h; rw [e, ih ys h]
      · rw [if_neg e] at h
        by_cases l : x < y
        · rw [if_pos l] at h; omega
        · rw [if_neg l] at h; omega
theorem lexC_swap (a : List Int) : ∀ b, lexC b a = - lexC a b := by
  induction a with
  | nil => intro b; cases b <;> rfl
  | cons x xs ih =>
    intro b
    cases b with
    | nil => rfl
    | cons y ys =>
      unfold lexC
      by_cases e : x = y
      · rw [if_pos e, if_pos e.symm]; exact ih ys
      · rw [if_neg e, if_neg (fun h => e h.symm)]
        by_cases l : x < y
        · rw [if_pos l, if_neg (by omega)]; rfl
        · rw [if_neg l, if_pos (by omega)]
theorem lexC_trans (a : List Int) : ∀ b c, lexC a b < 0 → lexC b c < 0 → lexC a c < 0 := by
  induction a with
  | nil =>
    intro b c h k
    cases c with
    | nil => cases b <;> simp [lexC] at h k
    | cons z zs => simp [lexC]
  | cons x xs ih =>
    intro b c h k
    cases b with
    | nil => simp [lexC] at h
    | cons y ys =>
      cases c with
      | nil => simp [lexC] at k
      | cons z zs =>
        unfold lexC at h k ⊢
        by_cases e : x = y
        · subst e
          rw [if_pos rfl] at h
          by_cases e2 : x = z
          · rw [if_pos e2] at k ⊢; exact ih ys zs h k
          · rw [if_neg e2] at k ⊢; exact k
        · rw [if_neg e] at h
          have l : x < y := by
            by_cases l : x < y
            · exact l
            · rw [if_neg l] at h; omega
          by_cases e2 : y = z
          · subst e2; rw [if_neg e, if_pos l]; omega
          · rw [if_neg e2] at k
            have l2 : y < z := by
              by_cases l2 : y < z
              · exact l2
              · rw [if_neg l2] at k; omega
            rw [if_neg (by omega), if_pos (by omega)]; omega
theorem lexC_ntrans (a b c : List Int) (h : ¬ lexC a b < 0) (k : ¬ lexC b c < 0) : ¬ lexC a c < 0 := by
  intro q
  by_cases e1 : lexC a b = 0
  · rw [lexC_zero a b e1] at q; exact k q
  · by_cases e2 : lexC b c = 0
    · rw [← lexC_zero b c e2] at q; exact h q
    · have h1 : lexC b a < 0 := by rw [lexC_swap a b]; omega
      have h2 : lexC c b < 0 := by rw [lexC_swap b c]; omega
      have h3 := lexC_trans c b a h2 h1
      rw [lexC_swap a c] at h3
      omega
/-! ### 2. Rows of rows by their elements -/
section
variable {β : Type} {d : Kd β} {f : Nat → Nat} {w w' : World} {base : Nat} {ok : Nat → Prop}
/-- An element of a row of rows: its value, what it holds, its place; and how it lies. -/
def Elt (d : Kd β) (f : Nat → Nat) (w : World) (base : Nat) (ok : Nat → Prop) : Type := {t : Value × (β × Nat) // (Kd.tag f d).M w base ok t.2 [t.1]}
def Elt.enc (x : Elt d f w base ok) : Value := x.1.1
def Elt.key (x : Elt d f w base ok) : β := x.1.2.1
def Elt.two (x : Elt d f w base ok) : β × Nat := x.1.2
theorem Elt.one (x : Elt d f w base ok) : x.enc.oneCell' = true := (Kd.tag f d).K_one ((Kd.tag f d).K_of_M x.2) _ (List.mem_singleton.2 rfl)
def Elt.of (v : Value) (z : β × Nat) (h : (Kd.tag f d).M w base ok z [v]) : Elt d f w base ok := ⟨(v, z), h⟩
theorem elts (zs : List (β × Nat)) : ∀ inner : List Value, Reps ((Kd.tag f d).M w base ok) 1 zs inner → ∃ D : List (Elt d f w base ok), D.map Elt.enc = inner ∧ D.map Elt.two = zs := by
  induction zs with
  | nil =>
    intro inner hr
    have h1 := hr.1
    obtain rfl : inner = [] := List.eq_nil_of_length_eq_zero (by simpa using h1)
    exact ⟨[], rfl, rfl⟩
  | cons z zs ih =>
    intro inner hr
    have h1 := hr.1
    cases inner with
    | nil => simp at h1
    | cons v rest =>
      have hM : (Kd.tag f d).M w base ok z [v] := by
        have := hr.2 0 z rfl
        simpa using this
      have hr' : Reps ((Kd.tag f d).M w base ok) 1 zs rest := ⟨by simp only [List.length_cons] at h1; omega, fun j p hj => by
        have := hr.2 (j + 1) p (by simpa using hj)
        rw [Nat.mul_one] at this ⊢
        simpa using this⟩
      obtain ⟨D, h2, h3⟩ := ih rest hr'
      exact ⟨Elt.of v z hM :: D, by rw [List.map_cons, h2]; rfl, by rw [List.map_cons, h3]; rfl⟩
theorem reps_elts (D : List (Elt d f w base ok)) (hM : ∀ x : Elt d f w base ok, (Kd.tag f d).M w' base ok x.two [x.enc]) : Reps ((Kd.tag f d).M w' base ok) 1 (D.map Elt.two) (D.map Elt.enc) := by
  refine ⟨by simp, fun j p hj => ?_⟩
  rw [List.getElem?_map] at hj
  obtain ⟨x, hx, rfl⟩ := Option.map_eq_some_iff.1 hj
  obtain ⟨hlt, rfl⟩ := List.getElem?_eq_some_iff.1 hx
  have e : ((D.map Elt.enc).drop (j * 1)).take 1 = [(D[j]).enc] := by
    rw [Nat.mul_one, List.drop_eq_getElem_cons (by simpa using hlt)]
    simp
  rw [e]
  exact hM _
theorem idxOf_nodup {l : List Nat} (hn : l.Nodup) (j : Nat) (hj : j < l.length) : l.idxOf l[j] = j := by
  induction l generalizing j with
  | nil => simp at hj
  | cons x xs ih =>
    rw [List.nodup_cons] at hn
    cases j with
    | zero => simp
    | succ j =>
      have hj' : j < xs.length := by simpa using hj
      have hne : x ≠ xs[j] := fun e => hn.1 (by rw [e]; exact List.getElem_mem hj')
      have hb : (x == xs[j]) = false := by simpa using hne
      rw [List.getElem_cons_succ, List.idxOf_cons, hb, cond_false, ih hn.2 j hj']
theorem S_of_tags {e : Nat} {v : Value} {zs : List (β × Nat)} (h : (Kd.tag f d).R e w base ok v zs) (hn : (zs.map Prod.snd).Nodup) : Kd.S d e w base ok v (zs.map Prod.fst) := by
  obtain ⟨h0, inner, ho, hr⟩ := h
  refine ⟨fun k => (zs.map Prod.snd).idxOf (f k), h0, inner, by rw [List.length_zipIdx, List.length_map]; exact ho, by rw [List.length_zipIdx, List.length_map]; exact hr.1, fun j p hj => ?_⟩
  rw [List.getElem?_zipIdx, Nat.zero_add] at hj
  obtain ⟨x, hx, rfl⟩ := Option.map_eq_some_iff.1 hj
  rw [List.getElem?_map] at hx
  obtain ⟨q, hq, rfl⟩ := Option.map_eq_some_iff.1 hx
  refine d.M_mono (fun k hk => ⟨hk.1, ?_⟩) (hr.2 j q hq)
  obtain ⟨hlt, rfl⟩ := List.getElem?_eq_some_iff.1 hq
  have h2 : f k = (zs[j]).2 := hk.2
  show (zs.map Prod.snd).idxOf (f k) = j
  rw [h2]
  have := idxOf_nodup hn j (by simpa using hlt)
  rwa [List.getElem_map] at this
theorem zip_snd_nodup (xs : List β) : (xs.zipIdx.map Prod.snd).Nodup := by
  rw [List.zipIdx_map_snd]
  exact List.nodup_range'
end
/-! ### 3. A row laid anew -/
/-- Only row g's first cells are told anew: they hold D. -/
structure Relaid {α : Type} [Inhabited α] (enc : α → Value) (w w' : World) (g : Nat) (D : Array α) : Prop where
  grown : w.grownBy w' (some g)
  row : ∀ cur e fr, w.heap[g]? = some (.cells cur e fr) → w'.heap[g]? = some (.cells (putCells enc 0 D cur) e fr)
theorem relaid_sortWorld {α : Type} [Inhabited α] (enc : α → Value) (w : World) (g n : Nat) (D : Array α) (os : Array Obj) (hg : g < w.heap.size) : Relaid enc w (sortWorld enc w g 0 n D os) g D := by
  refine ⟨⟨rfl, rfl, rfl, ?_, fun k hk hne => ?_⟩, fun cur e fr h => ?_⟩
  · unfold sortWorld
    rw [size_grow, size_putRow]
    show w.heap.size ≤ w.heap.size + os.size
    omega
  · unfold sortWorld
    rw [heap_grow_old _ _ (by rw [size_putRow]; exact hk)]
    show (w.heap.modify g (onCells (putCells enc 0 D)))[k]? = w.heap[k]?
    rw [Array.getElem?_modify, if_neg (fun e => hne (by rw [e]))]
  · unfold sortWorld
    rw [heap_grow_old _ _ (by rw [size_putRow]; exact hg)]
    show (w.heap.modify g (onCells (putCells enc 0 D)))[g]? = _
    rw [Array.getElem?_modify, if_pos rfl, h]
    rfl
theorem relaid_putRow {α : Type} [Inhabited α] (enc : α → Value) (w : World) (g n : Nat) (D : Array α) (hg : g < w.heap.size) : Relaid enc w (putRow enc (Sort.ahead w n) g 0 D) g D := by
  have h := relaid_sortWorld enc w g n D #[] hg
  unfold sortWorld at h
  rwa [grow_empty] at h
theorem putCells_take {α : Type} [Inhabited α] (enc : α → Value) (D : Array α) (cur : Array Value) (h : D.size ≤ cur.size) : (putCells enc 0 D cur).toList.take D.size = D.toList.map enc := by
  apply List.ext_getElem
  · simp [putCells]; omega
  · intro i h1 h2
    have hi : i < D.size := by simpa using h2
    simp [putCells, hi, getElem!_pos]
theorem own_relaid {α : Type} [Inhabited α] {enc : α → Value} {w w' : World} {base e g n cap : Nat} {inner : List Value} (h : w.ownsRow base e 1 (.slice (some ⟨g, 0, none⟩) n cap) n inner) (D : Array α) (hD : D.size = n) (hr : Relaid enc w w' g D) :
    w'.ownsRow base e 1 (.slice (some ⟨g, 0, none⟩) n cap) n (D.toList.map enc) := by
  obtain ⟨h1, h2⟩ := h
  refine ⟨by simp [hD], ?_⟩
  rcases h2 with ⟨h3, _⟩ | ⟨g', cap', cur, he, hb, hh, hn, hm, hs, ht⟩
  · cases h3
  · injection he with he1 he2 he3
    injection he1 with he1
    injection he1 with he1
    subst he1 he3
    refine .inr ⟨g, cap, _, rfl, hb, hr.row _ _ _ hh, hn, hm, by simpa [putCells] using hs, ?_⟩
    rw [Nat.mul_one, ← hD]
    exact putCells_take enc D cur (by omega)
theorem holds_own {α : Type} [Inhabited α] {enc : α → Value} {w : World} {base e g n cap : Nat} {D : Array α} (h : w.ownsRow base e 1 (.slice (some ⟨g, 0, none⟩) n cap) n (D.toList.map enc)) : Holds enc w g 0 D := by
  intro j hj
  obtain ⟨h1, h2⟩ := h
  have hD : D.size = n := by simpa using h1
  rcases h2 with ⟨h3, _⟩ | ⟨g', cap', cur, he, hb, hh, hn, hm, hs, ht⟩
  · cases h3
  · injection he with he1 he2 he3
    injection he1 with he1
    injection he1 with he1
    subst he1 he3
    rw [Nat.zero_add]
    refine ⟨?_, by simp [World.frozen?, hh]⟩
    rw [cell_of_row w g j cur e (0, 0) hh]
    have hlt : j < cur.size := by omega
    have e1 : (cur.toList.take (n * 1))[j]? = some cur[j] := by
      rw [List.getElem?_take, if_pos (by omega)]
      simp [hlt]
    rw [ht] at e1
    rw [Array.getElem?_eq_getElem hlt, ← e1]
    simp [hj, getElem!_pos]
/-! ### 4. The sort of rows of rows -/
theorem perm_keys {β : Type} {zs zs' : List (β × Nat)} (h : zs'.Perm zs) (hn : (zs.map Prod.snd).Nodup) : (zs'.map Prod.snd).Nodup := (h.map _).nodup_iff.2 hn
section
variable {P : Program} {ρ : Ren} {β : Type}
/-- slices.SortFunc on a row of rows of its own: they lie there as before, in another order: a permutation, none less than the one before it. -/
theorem sortFunc_S (L : SlLaysF.n6 P ρ) (d : Kd β) (hsz : d.sz = 1) (cf : β → β → Int) (hirr : ∀ a, ¬ cf a a < 0) (htr : ∀ a b c, cf a b < 0 → cf b c < 0 → cf a c < 0) (hnt : ∀ a b c, ¬ cf a b < 0 → ¬ cf b c < 0 → ¬ cf a c < 0)
    (gn : Nat) (eg : ∀ args w, (callFunc gn args).run P w = .ok (.enter gn args) w)
    (hcmp : ∀ (W : World) (x y : β) (vx vy : Value), d.K W x [vx] → d.K W y [vy] → Calls P gn #[vx, vy] W fun e w' => e = .returned (.int .i64 (cf x y)) ∧ Drawn0 W w')
    (e : Nat) (w : World) (base : Nat) (ok : Nat → Prop) (v : Value) (xs : List β) (hS : Kd.S d e w base ok v xs) (hlen : xs.length < 4611686018427387904) :
    Calls P (ρ.f 6) #[v, .func (.func gn) #[] #[]] w fun e' w' => e' = .returned (.tuple #[]) ∧ w.grownBy w' v.ownBlock ∧ ∃ ys : List β, ys.Perm xs ∧ (∀ i j (hi : i < ys.length) (hj : j < ys.length), i < j → ¬ cf ys[j] ys[i] < 0) ∧ Kd.S d e w' base ok v ys := by
  obtain ⟨f, h0, inner, ho, hr⟩ := hS
  have ho0 := ho
  rcases ho.2 with ⟨rfl, hn0⟩ | ⟨g, cap, cur, rfl, hb, hh, hn, hm, hs, ht⟩
  · refine (AnyF.slices_SortFunc_none (P := P) (ρ := ρ) { L with } none 0 (.func (.func gn) #[] #[]) w).mono ?_
    rintro e' w' ⟨rfl, rfl⟩
    exact ⟨rfl, World.grownBy.refl _ _, xs, List.Perm.refl _, fun i j hi hj => by rw [List.length_zipIdx] at hn0; omega, f, h0, inner, ho0, hr⟩
  · rw [List.length_zipIdx] at hn ht ho
    cases hx : xs with
    | nil =>
      subst hx
      refine (AnyF.slices_SortFunc_none (P := P) (ρ := ρ) { L with } _ cap (.func (.func gn) #[] #[]) w).mono ?_
      rintro e' w' ⟨rfl, rfl⟩
      exact ⟨rfl, World.grownBy.refl _ _, [], List.Perm.refl _, fun i j hi hj => by simp at hi, f, h0, inner, ho0, hr⟩
    | cons x0 xr =>
      rw [← hx]
      have hsz2 : (Kd.tag f d).sz = 1 := hsz
      rw [hsz2] at hr ho hs ht ho0
      have hr2 : Reps ((Kd.tag f d).M w base (fun k => ok k ∧ some k ≠ some g)) 1 xs.zipIdx inner := hr
      obtain ⟨D, hD1, hD2⟩ := elts _ _ hr2
      have hlD : D.length = xs.length := by have := congrArg List.length hD2; simpa using this
      haveI : Inhabited (Elt d f w base (fun k => ok k ∧ some k ≠ some g)) := ⟨D[0]'(by rw [hlD, hx]; simp)⟩
      have hg : g < w.heap.size := (Array.getElem?_eq_some_iff.1 hh).1
      have hmove : ∀ (w' : World), w.grownBy w' (some g) → ∀ x : Elt d f w base (fun k => ok k ∧ some k ≠ some g), (Kd.tag f d).M w' base (fun k => ok k ∧ some k ≠ some g) x.two [x.enc] :=
        fun w' hgr x => Kd.M_grown x.2 hgr (fun k hk => hk.2)
      have hown : w.ownsRow base e 1 (.slice (some ⟨g, 0, none⟩) xs.length cap) xs.length (D.toArray.toList.map Elt.enc) := by
        rw [show D.toArray.toList.map Elt.enc = inner from hD1]
        exact ho
      have hcon := Any.slices_SortFunc L (Elt.enc (d := d) (f := f) (w := w) (base := base)) Elt.one (fun x y => cf x.key y.key)
        ⟨fun x => by simp [ltOf, hirr], fun x y z h1 h2 => by simp only [ltOf, decide_eq_true_eq] at *; exact htr _ _ _ h1 h2, fun x y z h1 h2 => by simp only [ltOf, decide_eq_false_iff_not] at *; exact hnt _ _ _ h1 h2⟩
        gn #[] g 0 cap D.toArray w eg ?_ (holds_own hown) hg (by simp; omega)
      · have e1 : D.toArray.size = xs.length := by simp [hlD]
        have hv : Value.slice (some ⟨g, 0, none⟩) xs.zipIdx.length cap = Value.slice (some ⟨g, 0, none⟩) xs.length cap := by rw [List.length_zipIdx]
        rw [hv]
        rw [e1] at hcon
        refine hcon.mono ?_
        rintro e' w' ⟨rfl, D', n, os, hp, hso, rfl⟩
        have hrel := relaid_sortWorld Elt.enc w g n D' os hg
        have hps : D'.size = xs.length := by rw [hp.1]; exact e1
        have hperm : D'.toList.Perm D := by
          have h2 := hp.2.2
          have a1 : D'.extract 0 xs.length = D' := by rw [← hps]; simp
          have a2 : D.toArray.extract 0 xs.length = D.toArray := by rw [← e1]; simp
          rw [a1, a2] at h2
          exact h2
        refine ⟨rfl, hrel.grown, D'.toList.map Elt.key, ?_, fun i j hi hj hij => ?_, ?_⟩
        · have h2 : xs = D.map Elt.key := by
            have := congrArg (List.map Prod.fst) hD2
            rw [List.map_map, List.zipIdx_map_fst] at this
            exact this.symm
          rw [h2]
          exact hperm.map _
        · have h3 := hso i j (Nat.zero_le _) hij (by simpa [hps] using hj)
          simp only [ltOf, decide_eq_false_iff_not] at h3
          have hi' : i < D'.size := by simpa using hi
          have hj' : j < D'.size := by simpa using hj
          rw [getElem!_pos D' i hi', getElem!_pos D' j hj'] at h3
          simpa using h3
        · have hown2 := own_relaid hown D' hps hrel
          have hl' : (D'.toList.map Elt.two).length = xs.length := by simp [hps]
          have hR : (Kd.tag f d).R e (sortWorld Elt.enc w g 0 n D' os) base ok (.slice (some ⟨g, 0, none⟩) xs.length cap) (D'.toList.map Elt.two) := by
            refine ⟨h0, D'.toList.map Elt.enc, ?_, ?_⟩
            · rw [hsz2, hl']; exact hown2
            · rw [hsz2]; exact reps_elts D'.toList (hmove _ hrel.grown)
          have h4 := S_of_tags hR (perm_keys ((hperm.map Elt.two).trans (by rw [hD2])) (zip_snd_nodup xs))
          rw [List.map_map] at h4
          exact h4
      · intro m os dk hs x y
        have hrel := relaid_sortWorld Elt.enc w g m dk os hg
        exact (hcmp _ x.key y.key x.enc y.enc ((Kd.tag f d).K_of_M (hmove _ hrel.grown x)) ((Kd.tag f d).K_of_M (hmove _ hrel.grown y))).mono fun e' w' ⟨h1, h2⟩ => ⟨h1, by
          obtain ⟨q, rfl⟩ := h2
          exact ⟨q, #[], by rw [grow_empty]⟩⟩
end
/-! ### 5. Neighbours that are alike -/
section
variable {α κ : Type} [Inhabited α] [DecidableEq κ] (key : α → κ)
def keepsK (d : Array α) (j : Nat) : Bool := decide (j = 0 ∨ key d[j]! ≠ key d[j - 1]!)
def compK (d : Array α) (m : Nat) : List α := ((List.range m).filter (keepsK key d)).map (d[·]!)
variable {key}
theorem keepsK_lt_one (d : Array α) : ∀ j, j < 1 → keepsK key d j = true := by
  intro j hj
  have : j = 0 := by omega
  subst this
  simp [keepsK]
theorem keepsK_pos {d : Array α} {m : Nat} (h : key d[m]! ≠ key d[m - 1]!) : keepsK key d m = true := by simp [keepsK, h]
theorem keepsK_neg {d : Array α} {m : Nat} (hm : 0 < m) (h : key d[m]! = key d[m - 1]!) : keepsK key d m = false := by
  have : m ≠ 0 := by omega
  simp [keepsK, h, this]
theorem compK_succ (d : Array α) (m : Nat) : compK key d (m + 1) = compK key d m ++ (if keepsK key d m then [d[m]!] else []) := by
  unfold compK
  rw [List.range_succ, List.filter_append, List.map_append]
  congr 1
  by_cases h : keepsK key d m <;> simp [h]
theorem compK_all (d : Array α) (m : Nat) (h : ∀ j, j < m → keepsK key d j = true) : compK key d m = (List.range m).map (d[·]!) := by
  unfold compK
  rw [List.filter_eq_self.2 (fun j hj => h j (List.mem_range.1 hj))]
structure CompInvK (key : α → κ) (d : Array α) (m k : Nat) (dk : Array α) : Prop where
  size : dk.size = d.size
  len : (compK key d m).length = k
  lt : k < m
  low : ∀ j, j < k → (compK key d m)[j]? = some dk[j]!
  high : ∀ j, k ≤ j → dk[j]! = d[j]!
theorem CompInvK.start {d : Array α} {k0 : Nat} (hall : ∀ j, j < k0 → keepsK key d j = true) (hdup : keepsK key d k0 = false) : CompInvK key d (k0 + 1) k0 d where
  size := rfl
  len := by rw [compK_succ, hdup, compK_all d k0 hall]; simp
  lt := Nat.lt_succ_self _
  low := fun j hj => by rw [compK_succ, hdup, compK_all d k0 hall]; simp [hj]
  high := fun _ _ => rfl
theorem CompInvK.keep {d dk : Array α} {m k : Nat} (h : CompInvK key d m k dk) (hm : m < d.size) (hk : keepsK key d m = true) : CompInvK key d (m + 1) (k + 1) (dk.setIfInBounds k d[m]!) where
  size := by simp [h.size]
  len := by rw [compK_succ, hk]; simp [h.len]
  lt := by have := h.lt; omega
  low := fun j hj => by
    rw [compK_succ, hk, if_pos rfl]
    by_cases e : j = k
    · subst e
      rw [List.getElem?_append_right (by rw [h.len]; exact Nat.le_refl _), h.len, Nat.sub_self, getElem!_set_same dk j _ (by have := h.lt; have := h.size; omega)]
      rfl
    · rw [List.getElem?_append_left (by rw [h.len]; omega), h.low j (by omega), getElem!_set_other dk k j _ e]
  high := fun j hj => by rw [getElem!_set_other dk k j _ (by omega), h.high j (by omega)]
theorem CompInvK.skip {d dk : Array α} {m k : Nat} (h : CompInvK key d m k dk) (hk : keepsK key d m = false) : CompInvK key d (m + 1) k dk where
  size := h.size
  len := by rw [compK_succ, hk]; simpa using h.len
  lt := by have := h.lt; omega
  low := fun j hj => by rw [compK_succ, hk]; simpa using h.low j hj
  high := h.high
theorem CompInvK.done {d dk : Array α} {k : Nat} (h : CompInvK key d d.size k dk) (z : α) :
    lay dk k (List.replicate (d.size - k) z) = (compK key d d.size ++ List.replicate (d.size - k) z).toArray := by
  have hk := h.lt
  have hs := h.size
  apply Array.ext_getElem?
  intro j
  rw [lay_get? _ _ _ _ (by simp; omega), show (compK key d d.size ++ List.replicate (d.size - k) z).toArray[j]? = (compK key d d.size ++ List.replicate (d.size - k) z)[j]? from List.getElem?_toArray]
  simp only [List.length_replicate]
  by_cases c : j < k
  · rw [if_neg (by omega), List.getElem?_append_left (by rw [h.len]; exact c), h.low j c, getElem!_pos dk j (by omega), Array.getElem?_eq_getElem]
  · rw [List.getElem?_append_right (by rw [h.len]; omega), h.len]
    by_cases c2 : j < d.size
    · rw [if_pos (by omega)]
    · rw [if_neg (by omega), Array.getElem?_eq_none (by omega), List.getElem?_eq_none (by simp; omega)]
theorem compK_sub (d : Array α) : (compK key d d.size).Sublist d.toList := by
  unfold compK
  have h := (List.filter_sublist (l := List.range d.size) (p := keepsK key d)).map (d[·]!)
  rwa [Lib.range_map_get] at h
/-- A list without the elements that are like the one before them. -/
def compFrom : Option κ → List κ → List κ
  | _, [] => []
  | p, x :: xs => if p = some x then compFrom p xs else x :: compFrom (some x) xs
def compL (l : List κ) : List κ := compFrom none l
theorem compFrom_snoc (l : List κ) (x : κ) : ∀ p, compFrom p (l ++ [x]) = compFrom p l ++ (if l.getLast?.or p = some x then [] else [x]) := by
  induction l with
  | nil =>
    intro p
    by_cases h : p = some x <;> simp [compFrom, h]
  | cons y ys ih =>
    intro p
    have e : (y :: ys).getLast?.or p = ys.getLast?.or (some y) := by
      cases ys with
      | nil => rfl
      | cons z zs =>
        rw [List.getLast?_cons_cons]
        cases h : (z :: zs).getLast? with
        | none => simp at h
        | some q => rfl
    rw [e]
    simp only [List.cons_append, compFrom]
    by_cases h : p = some y
    · rw [if_pos h, if_pos h, ih p, h]
    · rw [if_neg h, if_neg h, ih (some y), List.cons_append]
theorem compK_keys (d : Array α) (m : Nat) (hm : m ≤ d.size) : (compK key d m).map key = compL ((d.toList.take m).map key) := by
  induction m with
  | zero => simp [compK, compL, compFrom]
  | succ m ih =>
    rw [compK_succ, List.map_append, ih (by omega)]
    have h1 : d.toList.take (m + 1) = d.toList.take m ++ [d[m]!] := by
      rw [List.take_add_one, getElem!_pos d m (show m < d.size by omega), List.getElem?_eq_getElem (by simp; omega)]
      rfl
    rw [h1, List.map_append, compL, compL, List.map_singleton, compFrom_snoc]
    congr 1
    cases m with
    | zero => simp [keepsK]
    | succ q =>
      have h2 : ((d.toList.take (q + 1)).map key).getLast? = some (key d[q]!) := by
        rw [List.getLast?_map, List.getLast?_take]
        simp [show q < d.size by omega, getElem!_pos]
      rw [h2]
      unfold keepsK
      by_cases h : key d[q + 1]! = key d[q]!
      · simp [h]
      · simp [h, Ne.symm h]
end
/-- SortPackets, as a plain function: sorted, each list once. -/
def sortL (l : List (List Int)) : List (List Int) := l.mergeSort (fun a b => decide (¬ lexC b a < 0))
def sortP (l : List (List Int)) : List (List Int) := compL (sortL l)
theorem sortL_unique {l ys : List (List Int)} (hp : ys.Perm l) (hs : ∀ i j (hi : i < ys.length) (hj : j < ys.length), i < j → ¬ lexC ys[j] ys[i] < 0) : ys = sortL l := by
  have tr : ∀ a b c : List Int, decide (¬ lexC b a < 0) = true → decide (¬ lexC c b < 0) = true → decide (¬ lexC c a < 0) = true := by
    intro a b c h1 h2
    simp only [decide_eq_true_eq] at *
    exact lexC_ntrans c b a h2 h1
  have tot : ∀ a b : List Int, (decide (¬ lexC b a < 0) || decide (¬ lexC a b < 0)) = true := by
    intro a b
    rw [Bool.or_eq_true, decide_eq_true_eq, decide_eq_true_eq, lexC_swap a b]
    omega
  have h1 : ys.Pairwise (fun a b => decide (¬ lexC b a < 0) = true) := by
    rw [List.pairwise_iff_getElem]
    intro i j hi hj hij
    exact decide_eq_true (hs i j hi hj hij)
  have h2 : (sortL l).Pairwise (fun a b => decide (¬ lexC b a < 0) = true) := List.pairwise_mergeSort tr tot l
  have h3 : ys.Perm (sortL l) := hp.trans (List.mergeSort_perm l _).symm
  refine List.Perm.eq_of_pairwise (le := fun a b => decide (¬ lexC b a < 0) = true) ?_ h1 h2 h3
  intro a b _ _ hab hba
  simp only [decide_eq_true_eq] at hab hba
  have := lexC_swap a b
  exact lexC_zero a b (by omega)
section
variable {κ : Type} [DecidableEq κ]
theorem compFrom_mem (x : κ) (l : List κ) : ∀ p : Option κ, (x ∈ compFrom p l ∨ p = some x) ↔ (x ∈ l ∨ p = some x) := by
  induction l with
  | nil => intro p; simp [compFrom]
  | cons y ys ih =>
    intro p
    unfold compFrom
    by_cases h : p = some y
    · rw [if_pos h, ih p]
      constructor
      · rintro (h1 | h1)
        · exact .inl (List.mem_cons_of_mem _ h1)
        · exact .inr h1
      · rintro (h1 | h1)
        · rcases List.mem_cons.1 h1 with rfl | h1
          · exact .inr h
          · exact .inl h1
        · exact .inr h1
    · rw [if_neg h]
      have := ih (some y)
      constructor
      · rintro (h1 | h1)
        · rcases List.mem_cons.1 h1 with rfl | h1
          · exact .inl List.mem_cons_self
          · rcases this.1 (.inl h1) with h2 | h2
            · exact .inl (List.mem_cons_of_mem _ h2)
            · exact .inl (by rw [Option.some.inj h2]; exact List.mem_cons_self)
        · exact .inr h1
      · rintro (h1 | h1)
        · rcases List.mem_cons.1 h1 with rfl | h1
          · exact .inl List.mem_cons_self
          · rcases this.2 (.inl h1) with h2 | h2
            · exact .inl (List.mem_cons_of_mem _ h2)
            · exact .inl (by rw [Option.some.inj h2]; exact List.mem_cons_self)
        · exact .inr h1
theorem compL_mem (x : κ) (l : List κ) : x ∈ compL l ↔ x ∈ l := by
  have := compFrom_mem x l none
  simpa [compL] using this
theorem compFrom_sub (l : List κ) : ∀ p : Option κ, (compFrom p l).Sublist l := by
  induction l with
  | nil => intro p; exact List.Sublist.refl _
  | cons y ys ih =>
    intro p
    unfold compFrom
    by_cases h : p = some y
    · rw [if_pos h]; exact (ih p).cons _
    · rw [if_neg h]; exact (ih _).cons_cons _
end
theorem sortP_mem (x : List Int) (l : List (List Int)) : x ∈ sortP l ↔ x ∈ l := by
  rw [sortP, compL_mem, sortL, (List.mergeSort_perm l _).mem_iff]
theorem lexC_nrefl (a : List Int) : ¬ lexC a a < 0 := by rw [lexC_refl]; omega
theorem sortP_length_le (l : List (List Int)) : (sortP l).length ≤ l.length := by
  have hp : (sortL l).Perm l := List.mergeSort_perm l _
  rw [← hp.length_eq]
  exact (compFrom_sub _ _).length_le
end Go.Proofs.Ytbeehklibkeecaa.F
end
section
/- The shelf's structure for slices.SortFunc, met by this program's functions: each is the shelf's body at this program's numbers. -/
namespace Go.Proofs.Ytbeehklibkeecaa.F
def sortK_ren : Go.Shelf.Ren := ⟨fun | 6 => 78 | 15 => 106 | 14 => 105 | 28 => 125 | 29 => 126 | 20 => 117 | 21 => 118 | 22 => 119 | 23 => 120 | 24 => 121 | 25 => 122 | 26 => 123 | 27 => 124 | 46 => 131 | 47 => 132 | 48 => 133 | 49 => 134 | 50 => 135 | 57 => 136 | n => n, fun | 22 => 44 | 24 => 24 | 25 => 72 | 3 => 3 | 39 => 79 | 0 => 0 | 53 => 103 | 55 => 105 | 4 => 4 | 46 => 97 | 45 => 96 | 50 => 70 | 5 => 5 | 9 => 9 | 66 => 108 | 70 => 112 | 76 => 114 | 77 => 31 | n => n, fun | n => n⟩
theorem sortK : Go.Proofs.SlLaysF.n6 Try.prog sortK_ren := {
  mixed := by kernel_rfl,
  f6 := ⟨Try.f78.name, by decide, Try.func78.trans (congrArg some (by kernel_rfl))⟩,
  f14 := ⟨Try.f105.name, by decide, Try.func105.trans (congrArg some (by kernel_rfl))⟩,
  f15 := Try.func106.trans (congrArg some (by kernel_rfl)),
  f20 := ⟨Try.f117.name, by decide, Try.func117.trans (congrArg some (by kernel_rfl))⟩,
  f21 := ⟨Try.f118.name, by decide, Try.func118.trans (congrArg some (by kernel_rfl))⟩,
  f22 := ⟨Try.f119.name, by decide, Try.func119.trans (congrArg some (by kernel_rfl))⟩,
  f23 := ⟨Try.f120.name, by decide, Try.func120.trans (congrArg some (by kernel_rfl))⟩,
  f24 := ⟨Try.f121.name, by decide, Try.func121.trans (congrArg some (by kernel_rfl))⟩,
  f25 := ⟨Try.f122.name, by decide, Try.func122.trans (congrArg some (by kernel_rfl))⟩,
  f26 := ⟨Try.f123.name, by decide, Try.func123.trans (congrArg some (by kernel_rfl))⟩,
  f27 := ⟨Try.f124.name, by decide, Try.func124.trans (congrArg some (by kernel_rfl))⟩,
  f28 := Try.func125.trans (congrArg some (by kernel_rfl)),
  f29 := Try.func126.trans (congrArg some (by kernel_rfl)),
  f46 := ⟨Try.f131.name, by decide, Try.func131.trans (congrArg some (by kernel_rfl))⟩,
  f47 := Try.func132.trans (congrArg some (by kernel_rfl)),
  f48 := Try.func133.trans (congrArg some (by kernel_rfl)),
  f49 := ⟨Try.f134.name, by decide, Try.func134.trans (congrArg some (by kernel_rfl))⟩,
  f50 := ⟨Try.f135.name, by decide, Try.func135.trans (congrArg some (by kernel_rfl))⟩,
  f57 := ⟨Try.f136.name, by decide, Try.func136.trans (congrArg some (by kernel_rfl))⟩,
  t0 := Try.underlying0,
  a0 := Try.isAgg0,
  z0 := Try.sizeOf0,
  v0 := Try.zeroValue0,
  t3 := Try.underlying3,
  a3 := Try.isAgg3,
  z3 := Try.sizeOf3,
  v3 := Try.zeroValue3,
  t4 := Try.underlying4,
  a4 := Try.isAgg4,
  z4 := Try.sizeOf4,
  v4 := Try.zeroValue4,
  t5 := Try.underlying5,
  a5 := Try.isAgg5,
  z5 := Try.sizeOf5,
  v5 := Try.zeroValue5,
  t9 := Try.underlying9,
  a9 := Try.isAgg9,
  z9 := Try.sizeOf9,
  v9 := Try.zeroValue9,
  t22 := Try.underlying44,
  a22 := Try.isAgg44,
  z22 := Try.sizeOf44,
  v22 := Try.zeroValue44,
  a24 := Try.isAgg24,
  z24 := Try.sizeOf24,
  t25 := Try.underlying72,
  a25 := Try.isAgg72,
  z25 := Try.sizeOf72,
  v25 := Try.zeroValue72,
  t39 := Try.underlying79,
  a39 := Try.isAgg79,
  z39 := Try.sizeOf79,
  v39 := Try.zeroValue79,
  t45 := Try.underlying96,
  a45 := Try.isAgg96,
  z45 := Try.sizeOf96,
  v45 := Try.zeroValue96,
  t46 := Try.underlying97,
  a46 := Try.isAgg97,
  z46 := Try.sizeOf97,
  v46 := Try.zeroValue97,
  t50 := Try.underlying70,
  a50 := Try.isAgg70,
  z50 := Try.sizeOf70,
  v50 := Try.zeroValue70,
  t53 := Try.underlying103,
  a53 := Try.isAgg103,
  z53 := Try.sizeOf103,
  v53 := Try.zeroValue103,
  t55 := Try.underlying105,
  a55 := Try.isAgg105,
  z55 := Try.sizeOf105,
  v55 := Try.zeroValue105,
  t66 := Try.underlying108,
  a66 := Try.isAgg108,
  z66 := Try.sizeOf108,
  v66 := Try.zeroValue108,
  t70 := Try.underlying112,
  a70 := Try.isAgg112,
  z70 := Try.sizeOf112,
  v70 := Try.zeroValue112,
  t76 := Try.underlying114,
  a76 := Try.isAgg114,
  z76 := Try.sizeOf114,
  v76 := Try.zeroValue114,
  t77 := Try.underlying31,
  a77 := Try.isAgg31,
  z77 := Try.sizeOf31,
  v77 := Try.zeroValue31 }
end Go.Proofs.Ytbeehklibkeecaa.F
end
section
/- Laid by a program of this claim's own. What the Go function does, as a Lean function, and the proof that the Go code does just that; Lean checks it. -/
namespace Go.Proofs.Ytbeehklibkeecaa.F
open Go.RowKit Go.Proofs.YtbeehklibkeecaaW.PrintWords Go.Proofs.YtbeehklibkeecaaW.PrintLast Go.Proofs.YtbeehklibkeecaaW.PrintMore
attribute [local go_sem] max2_int min2_int max_two min_two max_three min_three max_four min_four   -- for this text's walks alone
set_option linter.unusedVariables false
set_option linter.unusedSimpArgs false
/-! slices.Compare and slices.Equal on two lists -/
theorem big_succ {α : Type} (pre : List α) (x : α) (h : pre.length + 1 ≤ 9223372036854775807) : wrap64 ((pre.length : Int) + 1) = ((pre ++ [x]).length : Int) := by
  rw [w64_id (by omega) (by omega)]
  simp
theorem cmpCompare_lex (x y : Int) : cmp_Compare_int.f x y = some (if x = y then 0 else if x < y then -1 else 1) := by
  have h : ∀ z, cmp_isNaN_int.f z = some false := by intro z; unfold cmp_isNaN_int.f; simp
  unfold cmp_Compare_int.f
  rw [h, h]
  simp only [Option.bind_some, Bool.false_eq_true, if_false]
  by_cases e : x = y
  · subst e; simp
  · by_cases l : x < y
    · simp [e, l]
    · have : x > y := by omega
      simp [e, l, this]
theorem compare_lex_at (rest : List Int) : ∀ (pre ys : List Int), (pre ++ rest).length ≤ 9223372036854775807 → (pre ++ ys).length ≤ 9223372036854775807 →
    Ev (fun k => slices_Compare_Lint_int.l0 k (pre ++ rest) (pre ++ ys) (pre ++ rest) ((pre ++ rest).length : Int) (pre.length : Int)) (lexC rest ys) := by
  induction rest with
  | nil =>
    intro pre ys hb hc
    refine Ev.step (f := fun _ => some (lexC [] ys)) (fun k => ?_) (Ev.now _)
    show slices_Compare_Lint_int.l0 (k + 1) _ _ _ _ _ = _
    rw [slices_Compare_Lint_int.l0, if_neg (mid_nlt _)]
    cases ys with
    | nil => rw [if_neg (by omega)]; rfl
    | cons y ys => rw [if_pos (by simp; omega)]; rfl
  | cons x rest ih =>
    intro pre ys hb hc
    cases ys with
    | nil =>
      refine Ev.step (f := fun _ => some 1) (fun k => ?_) (Ev.now _)
      show slices_Compare_Lint_int.l0 (k + 1) _ _ _ _ _ = _
      rw [slices_Compare_Lint_int.l0, if_pos (mid_lt _ _ _), if_pos (nn _), if_pos (mid_lt _ _ _), if_pos (by simp)]
    | cons y ys =>
      have hge : ¬ ((pre.length : Int) ≥ ((pre ++ y :: ys).length : Int)) := by have := mid_lt pre y ys; omega
      by_cases e : x = y
      · subst e
        have h := ih (pre ++ [x]) ys (by simpa using hb) (by simpa using hc)
        rw [← mid_cons, ← mid_cons, ← big_succ pre x (by simp at hb; omega)] at h
        rw [show lexC (x :: rest) (x :: ys) = lexC rest ys by simp [lexC]]
        refine Ev.step (fun k => ?_) h
        show slices_Compare_Lint_int.l0 (k + 1) _ _ _ _ _ = _
        rw [slices_Compare_Lint_int.l0, if_pos (mid_lt _ _ _), if_pos (nn _), if_pos (mid_lt _ _ _), if_neg hge, if_pos (mid_lt _ _ _), mid_rd, mid_rd, cmpCompare_lex, if_pos rfl, Option.bind_some, if_pos rfl]
      · rw [show lexC (x :: rest) (y :: ys) = if x < y then -1 else 1 by simp [lexC, e]]
        refine Ev.step (f := fun _ => some (if x < y then -1 else 1)) (fun k => ?_) (Ev.now _)
        show slices_Compare_Lint_int.l0 (k + 1) _ _ _ _ _ = _
        rw [slices_Compare_Lint_int.l0, if_pos (mid_lt _ _ _), if_pos (nn _), if_pos (mid_lt _ _ _), if_neg hge, if_pos (mid_lt _ _ _), mid_rd, mid_rd, cmpCompare_lex, if_neg e, Option.bind_some]
        by_cases l : x < y
        · rw [if_pos l]; rfl
        · rw [if_neg l]; rfl
theorem compare_lex (a b : List Int) (ha : a.length ≤ 9223372036854775807) (hb : b.length ≤ 9223372036854775807) : ∃ k, slices_Compare_Lint_int.f k a b = some (lexC a b) := (compare_lex_at a [] b ha hb).rounds
theorem equal_dec_at (rest : List Int) : ∀ (pre ys : List Int), (pre ++ ys).length ≤ 9223372036854775807 → rest.length = ys.length →
    Ev (fun k => slices_Equal_Lint_int.l0 k (pre ++ rest) (pre ++ ys) ((pre ++ rest).length : Int) (pre.length : Int)) (decide (rest = ys)) := by
  induction rest with
  | nil =>
    intro pre ys hb hl
    obtain rfl : ys = [] := List.length_eq_zero_iff.mp hl.symm
    exact Ev.step (f := fun _ => some true) (fun k => by rw [slices_Equal_Lint_int.l0, if_neg (mid_nlt _)]) (Ev.now _)
  | cons x rest ih =>
    intro pre ys hb hl
    cases ys with
    | nil => simp at hl
    | cons y ys =>
      by_cases e : x = y
      · subst e
        have h := ih (pre ++ [x]) ys (by simpa using hb) (by simpa using hl)
        rw [← mid_cons, ← mid_cons, ← big_succ pre x (by simp at hb; omega)] at h
        rw [show decide (x :: rest = x :: ys) = decide (rest = ys) by simp]
        exact Ev.step (fun k => by rw [slices_Equal_Lint_int.l0, if_pos (mid_lt _ _ _), if_pos (nn _), if_pos (mid_lt _ _ _), if_pos (mid_lt _ _ _), mid_rd, mid_rd, if_pos rfl]) h
      · rw [show decide (x :: rest = y :: ys) = false by simp [e]]
        exact Ev.step (f := fun _ => some false) (fun k => by rw [slices_Equal_Lint_int.l0, if_pos (mid_lt _ _ _), if_pos (nn _), if_pos (mid_lt _ _ _), if_pos (mid_lt _ _ _), mid_rd, mid_rd, if_neg e]) (Ev.now _)
theorem equal_dec (l m : List Int) (hl : l.length ≤ 9223372036854775807) : ∃ k, slices_Equal_Lint_int.f k l m = some (decide (l = m)) := by
  refine Ev.rounds (g := fun k => slices_Equal_Lint_int.f k l m) ?_
  unfold slices_Equal_Lint_int.f
  by_cases e : (l.length : Int) = (m.length : Int)
  · simp only [if_pos e]
    exact equal_dec_at l [] m (by simp; omega) (by omega)
  · simp only [if_neg e]
    rw [show decide (l = m) = false from decide_eq_false (fun h => e (by rw [h]))]
    exact Ev.now _
theorem row_val {W : World} {x : List Int} {v : Value} (h : (Kd.slice 3 (Kd.int .i64)).K W x [v]) : ∃ A c, v = .slice A x.length c ∧ x.length ≤ c ∧ x.length ≤ 9223372036854775807 ∧ Kd.C (Kd.int .i64) W A x.length x := by
  obtain ⟨A, c, he, hl, hC⟩ := h
  exact ⟨A, c, by simpa using he, hl, hC.2.1, hC⟩
theorem slices_Compare_Lint_int.lex (W : World) (x y : List Int) (vx vy : Value) (hx : (Kd.slice 3 (Kd.int .i64)).K W x [vx]) (hy : (Kd.slice 3 (Kd.int .i64)).K W y [vy]) :
    Calls Try.prog 72 #[vx, vy] W fun e w' => e = .returned (.int .i64 (lexC x y)) ∧ Drawn0 W w' := by
  obtain ⟨A0, c0, rfl, hl0, hm0, hC0⟩ := row_val hx
  obtain ⟨A1, c1, rfl, hl1, hm1, hC1⟩ := row_val hy
  obtain ⟨k, hk⟩ := compare_lex x y hm0 hm1
  exact slices_Compare_Lint_int.calls k A0 c0 x A1 c1 y (lexC x y) W hC0 hl0 hC1 hl1 hk
theorem slices_Equal_Lint_int.dec (W : World) (x y : List Int) (vx vy : Value) (hx : (Kd.slice 3 (Kd.int .i64)).K W x [vx]) (hy : (Kd.slice 3 (Kd.int .i64)).K W y [vy]) :
    Calls Try.prog 80 #[vx, vy] W fun e w' => e = .returned (.bool (decide (x = y))) ∧ Drawn0 W w' := by
  obtain ⟨A0, c0, rfl, hl0, hm0, hC0⟩ := row_val hx
  obtain ⟨A1, c1, rfl, hl1, hm1, hC1⟩ := row_val hy
  obtain ⟨k, hk⟩ := equal_dec x y hm0
  exact slices_Equal_Lint_int.calls k A0 c0 x A1 c1 y (decide (x = y)) W hC0 hl0 hC1 hl1 hk
theorem slices_SortFunc_LLint_Lint.onS (w : World) (base : Nat) (ok : Nat → Prop) (v : Value) (xs : List (List Int)) (hS : Kd.S (Kd.slice 3 (Kd.int .i64)) 24 w base ok v xs) (hlen : xs.length < 4611686018427387904) :
    Calls Try.prog 78 #[v, .func (.func 72) #[] #[]] w fun e' w' => e' = .returned (.tuple #[]) ∧ w.grownBy w' v.ownBlock ∧ Kd.S (Kd.slice 3 (Kd.int .i64)) 24 w' base ok v (sortL xs) := by
  have h := sortFunc_S sortK (Kd.slice 3 (Kd.int .i64)) rfl lexC lexC_nrefl lexC_trans lexC_ntrans 72 (enters_of Try.func72 (by kernel_rfl) rfl) slices_Compare_Lint_int.lex 24 w base ok v xs hS hlen
  refine Calls.mono (f := 78) h ?_
  rintro e' w' ⟨h1, h2, ys, h3, h4, h5⟩
  refine ⟨h1, h2, ?_⟩
  rw [← sortL_unique h3 h4]
  exact h5
open Go.Shelf Go.Lib Go.Sort in
set_option maxHeartbeats 8000000 in
set_option maxRecDepth 1000000 in
/-- slices.CompactFunc at elements of one cell, the function handed over an equality of keys: the row keeps what differs from its neighbour, then zero values. -/
theorem slices_CompactFunc_LLint_Lint.one {α κ : Type} [Inhabited α] [DecidableEq κ] (key : α → κ) (enc : α → Value) (hO : OneCell enc) (zr : α) (hzr : enc zr = .slice none 0 0) (g : Nat) (cb : Array Value) (eg : ∀ args w, (callFunc g args).run Try.prog w = .ok (.enter g args) w) (blk off cap : Nat) (d : Array α) (w : World) (hH : Holds enc w blk off d) (hsz : d.size ≤ 9223372036854775807) (hcap : d.size ≤ cap)
    (hq : ∀ (q : Nat) (dk : Array α), dk.size = d.size → ∀ x y : α, Calls Try.prog g (#[enc x, enc y] ++ cb) (putRow enc (Sort.ahead w q) blk off dk) fun e w' => e = .returned (.bool (decide (key x = key y))) ∧ Drawn0 (putRow enc (Sort.ahead w q) blk off dk) w') :
    Calls Try.prog 79 #[.slice (some ⟨blk, off, none⟩) d.size cap, .func (.func g) #[] cb] w fun e w' => e = .returned (.slice (some ⟨blk, off, none⟩) (compK key d d.size).length cap) ∧ ∃ q, w' = putRow enc (Sort.ahead w q) blk off (compK key d d.size ++ List.replicate (d.size - (compK key d d.size).length) zr).toArray := by
  have hcl0 := hO.cells
  simp only [Value.cells] at hcl0
  have hst := hO.store Try.prog
  have hq1 : ∀ (q : Nat) (x y : α), Calls Try.prog g (#[enc x, enc y] ++ cb) (w.drewN q) fun e w' => e = .returned (.bool (decide (key x = key y))) ∧ Drawn0 (w.drewN q) w' := fun q x y => by
    have h := hq q d rfl x y
    rw [putRow_self enc (Sort.ahead w q) blk off d (holds_ahead enc w q blk off d hH)] at h
    exact h
  have same : ∀ q, (∀ j, j < d.size → keepsK key d j = true) → (compK key d d.size).length = d.size ∧ w.drewN q = putRow enc (Sort.ahead w q) blk off (compK key d d.size ++ List.replicate (d.size - (compK key d d.size).length) zr).toArray := by
    intro q hall
    have e : compK key d d.size = d.toList := by rw [compK_all d _ hall, range_map_get]
    rw [e]
    refine ⟨by simp, ?_⟩
    simp only [Array.length_toList, Nat.sub_self, List.replicate_zero, List.append_nil, Array.toArray_toList]
    exact (putRow_self enc (Sort.ahead w q) blk off d (holds_ahead enc w q blk off d hH)).symm
  have HS := Aside0.mk same
  have HQ := Aside0.mk hq
  have HQ1 := Aside0.mk hq1
  clear same hq hq1
  by_cases h2 : d.size < 2
  · have HH := Aside0.mk hH
    clear hH
    go_enter Try.func79, Try.ntmps79
    go_wp2
    go_ret
    obtain ⟨e1, e2⟩ := HS.out 0 (fun j hj => keepsK_lt_one d j (by omega))
    exact ⟨by rw [e1]; rfl, 0, e2⟩
  · go_enter Try.func79, Try.ntmps79
    go_wp2
    go_loopg [5] d.size (fun g_ s5 wr => ∃ k q : Nat, Aside0 (1 ≤ k) ∧ Aside0 (k ≤ d.size) ∧ Aside0 (d.size - k ≤ g_) ∧ s5 = .int .i64 k ∧ Aside0 (wr = w.drewN q) ∧ Aside0 (∀ j, j < k → keepsK key d j = true))
    case atStart => exact ⟨1, 0, ⟨Nat.le_refl _⟩, ⟨by omega⟩, ⟨by omega⟩, rfl, ⟨rfl⟩, ⟨keepsK_lt_one d⟩⟩
    case round =>
      obtain ⟨k, q, hk1, hk, hg, rfl, hwr, AA⟩ := hrel
      by_cases hlt : k < d.size
      · obtain ⟨c1, f1⟩ := hH k hlt
        obtain ⟨c0, f0⟩ := hH (k - 1) (by have := hk1.out; omega)
        have c1r : wr.cell? ⟨blk, off + k, none⟩ = some (enc d[k]!) := by rw [hwr.out]; exact c1
        have c0r : wr.cell? ⟨blk, off + (k - 1), none⟩ = some (enc d[k - 1]!) := by rw [hwr.out]; exact c0
        have hcall := fun (n : Nat) => HQ1.out (q + n) d[k]! d[k - 1]!
        have hwn : ∀ n, wr.drewN n = w.drewN (q + n) := fun n => by rw [hwr.out, World.drewN_drewN]
        have hcall2 : ∀ n, Calls Try.prog g (#[enc d[k]!, enc d[k - 1]!] ++ cb) (wr.drewN n) fun e w' => e = .returned (.bool (decide (key d[k]! = key d[k - 1]!))) ∧ ∃ m, w' = (wr.drewN n).drewN m := fun n => by
          rw [hwn n]
          exact (hcall n).mono fun e w' hd => ⟨hd.1, hd.2.out⟩
        have HH := Aside0.mk hH
        have HWN := Aside0.mk hwn
        clear hH hcall hwn c1 c0 f1 f0
        generalize hx : d[k]! = x at c1r hcall2
        generalize hy : d[k - 1]! = y at c0r hcall2
        have B := Aside0.mk (And.intro hx hy)
        have hkk := hk1.out
        have hkd := hk.out
        clear hx hy
        by_cases hdup : key x = key y
        · rw [decide_eq_true hdup] at hcall2
          have hcallA := Aside0.mk hcall2
          have hdupA := Aside0.mk hdup
          clear hcall2 hdup
          go_wp2
          go_quiet ((go_at_fn g; refine Calls.quiet_of (hcallA.out _)))
          go_wp2
          clear c0r c1r
          go_loopg [5, 7] d.size (fun g_ s5 s7 wr2 => ∃ (kk k2 q2 : Nat) (dk : Array α), s5 = .int .i64 kk ∧ s7 = .int .i64 k2 ∧ Aside0 (1 ≤ k2) ∧ Aside0 (k + k2 ≤ d.size) ∧ Aside0 (d.size - (k + k2) ≤ g_) ∧ Aside0 (wr2 = putRow enc (Sort.ahead w q2) blk off dk) ∧ Aside0 (CompInvK key d (k + k2) kk dk))
          case atStart => exact ⟨k, 1, _, d, rfl, rfl, ⟨Nat.le_refl _⟩, ⟨by omega⟩, ⟨by omega⟩, ⟨(HWN.out _).trans (putRow_self enc (Sort.ahead w _) blk off d (holds_ahead enc w _ blk off d HH.out)).symm⟩, ⟨CompInvK.start AA.out (keepsK_neg (by omega) (by rw [B.out.1, B.out.2]; exact hdupA.out))⟩⟩
          case round =>
            obtain ⟨kk, k2, q2, dk, rfl, rfl, h1, hle, hg2, W2, I2⟩ := hrel
            have hkk2 := I2.out.lt
            have hds := I2.out.size
            have hHk : Holds enc wr blk off dk := by rw [W2.out]; exact holds_putRow enc _ blk off d dk (holds_ahead enc w q2 blk off d HH.out) hds
            have h1o := h1.out
            have hleo := hle.out
            by_cases hlt2 : k + k2 < d.size
            · obtain ⟨cm, _⟩ := hHk (k + k2) (by omega)
              obtain ⟨cp, _⟩ := hHk (k + k2 - 1) (by omega)
              obtain ⟨ck, fk⟩ := hHk kk (by omega)
              rw [I2.out.high (k + k2) (by omega), show off + (k + k2) = off + k + k2 by omega] at cm
              rw [I2.out.high (k + k2 - 1) (by omega), show off + (k + k2 - 1) = off + k + (k2 - 1) by omega] at cp
              have hwn2 : ∀ n, wr.drewN n = putRow enc (Sort.ahead w (q2 + n)) blk off dk := fun n => by rw [W2.out, ← ahead_ahead]; rfl
              have hcall3 : ∀ n, Calls Try.prog g (#[enc d[k + k2]!, enc d[k + k2 - 1]!] ++ cb) (wr.drewN n) fun e w' => e = .returned (.bool (decide (key d[k + k2]! = key d[k + k2 - 1]!))) ∧ ∃ m, w' = (wr.drewN n).drewN m := fun n => by
                rw [hwn2 n]
                exact (HQ.out (q2 + n) dk hds _ _).mono fun e w' hd => ⟨hd.1, hd.2.out⟩
              have HWN2 := Aside0.mk hwn2
              clear hHk hwn2
              generalize hu : d[k + k2]! = u at cm hcall3
              generalize hv : d[k + k2 - 1]! = v at cp hcall3
              generalize dk[kk]! = old at ck
              have C := Aside0.mk (And.intro hu hv)
              clear hu hv
              by_cases huv : key u = key v
              · rw [decide_eq_true huv] at hcall3
                have hcallB := Aside0.mk hcall3
                have huvA := Aside0.mk huv
                clear hcall3 huv
                go_wp2
                go_quiet ((go_at_fn g; refine Calls.quiet_of (hcallB.out _)))
                go_wp2
                go_roundg (d.size - (k + (k2 + 1)))
                case measure => have := hg2.out; omega
                case rel => exact ⟨kk, k2 + 1, _, dk, rfl, by go_num, ⟨by omega⟩, ⟨by omega⟩, ⟨Nat.le_refl _⟩, ⟨HWN2.out _⟩, ⟨I2.out.skip (keepsK_neg (by omega) (by rw [C.out.1, C.out.2]; exact huvA.out))⟩⟩
              · rw [decide_eq_false huv] at hcall3
                have hcallB := Aside0.mk hcall3
                have huvA := Aside0.mk huv
                clear hcall3 huv
                go_wp2
                go_quiet ((go_at_fn g; refine Calls.quiet_of (hcallB.out _)))
                go_wp2
                go_roundg (d.size - (k + (k2 + 1)))
                case measure => have := hg2.out; omega
                case rel =>
                  refine ⟨kk + 1, k2 + 1, _, dk.setIfInBounds kk u, by go_num, by go_num, ⟨by omega⟩, ⟨by omega⟩, ⟨Nat.le_refl _⟩, ⟨(congrArg (fun W => World.setCell W ⟨blk, off + kk, none⟩ (enc u)) (HWN2.out _)).trans (putRow_set enc _ blk off dk kk u (by omega))⟩, ⟨by have := I2.out.keep hlt2 (keepsK_pos (by rw [C.out.1, C.out.2]; exact huvA.out)); rwa [C.out.1] at this⟩⟩
            · have hend : k + k2 = d.size := by omega
              have hcl : ∀ ty, (Builtin.clear_ #[44] ty #[.slice (some ⟨blk, off + kk, none⟩) (d.size - kk) (cap - kk)]).run Try.prog wr = .ok (.tuple #[]) (wr.setCells blk (off + kk) (List.replicate (d.size - kk) (enc zr))) :=
                fun ty => Lib.run_clear_slice wr _ _ ty _ Try.underlying44 (fun w => by rw [hzr]; exact Try.zeroValue24 w) (hO.cells zr) (hO zr) blk (off + kk) _ _ (by omega) (fun j hj => by rw [show off + kk + j = off + (kk + j) by omega, (hHk (kk + j) (by omega)).1]; rfl) (fun j hj => by rw [show off + kk + j = off + (kk + j) by omega]; exact (hHk (kk + j) (by omega)).2)
              clear hHk
              go_wp2
              go_ret
              have hI := I2.out
              rw [hend] at hI
              refine ⟨by rw [hI.len]; rfl, q2, ?_⟩
              rw [hI.len, ← hI.done zr, ← putRow_setCells enc _ blk off _ dk kk (by simp; omega), ← W2.out, List.map_replicate, hzr]
        · rw [decide_eq_false hdup] at hcall2
          have hcallA := Aside0.mk hcall2
          have hdupA := Aside0.mk hdup
          clear hcall2 hdup
          go_wp2
          go_quiet ((go_at_fn g; refine Calls.quiet_of (hcallA.out _)))
          go_wp2
          go_roundg (d.size - (k + 1))
          case measure => have := hg.out; omega
          case rel =>
            refine ⟨k + 1, _, ⟨by omega⟩, ⟨by omega⟩, ⟨Nat.le_refl _⟩, by go_num, ⟨HWN.out _⟩, ⟨fun j hj => ?_⟩⟩
            by_cases e : j = k
            · subst e
              exact keepsK_pos (by rw [B.out.1, B.out.2]; exact hdupA.out)
            · exact AA.out j (by omega)
      · have hkd := hk.out
        have : k = d.size := by omega
        subst this
        have HH := Aside0.mk hH
        clear hH
        go_wp2
        go_ret
        obtain ⟨e1, e2⟩ := HS.out q AA.out
        exact ⟨by rw [e1]; rfl, q, hwr.out.trans e2⟩
theorem slices_CompactFunc_LLint_Lint.none_ (fv : Value) (w : World) : Calls Try.prog 79 #[.slice none 0 0, fv] w fun e w' => e = .returned (.slice none 0 0) ∧ w' = w := by
  go_enter Try.func79, Try.ntmps79
  go_wp2
  go_ret
  exact ⟨rfl, rfl⟩
open Go.Shelf Go.Lib Go.Sort in
theorem slices_CompactFunc_LLint_Lint.onS (w : World) (base : Nat) (ok : Nat → Prop) (v : Value) (xs : List (List Int)) (hS : Kd.S (Kd.slice 3 (Kd.int .i64)) 24 w base ok v xs) :
    Calls Try.prog 79 #[v, .func (.func 80) #[] #[]] w fun e' w' => ∃ v' : Value, e' = .returned v' ∧ w.grownBy w' v.ownBlock ∧ Kd.S (Kd.slice 3 (Kd.int .i64)) 24 w' base ok v' (compL xs) := by
  obtain ⟨f, h0, inner, ho, hr⟩ := hS
  have ho0 := ho
  rcases ho.2 with ⟨rfl, hn0⟩ | ⟨g, cap, cur, rfl, hb, hh, hn, hm, hs, ht⟩
  · refine (slices_CompactFunc_LLint_Lint.none_ _ w).mono ?_
    rintro e' w' ⟨rfl, rfl⟩
    obtain rfl : xs = [] := List.eq_nil_of_length_eq_zero (by rw [← List.length_zipIdx (l := xs) (i := 0)]; exact hn0)
    exact ⟨_, rfl, World.grownBy.refl _ _, Kd.S_nil _ _ _ _ _⟩
  · rw [List.length_zipIdx] at hn ht ho
    have hsz2 : (Kd.tag f (Kd.slice 3 (Kd.int .i64))).sz = 1 := rfl
    rw [hsz2] at hr ho hs ht ho0
    have hr2 : Reps ((Kd.tag f (Kd.slice 3 (Kd.int .i64))).M w base (fun k => ok k ∧ some k ≠ some g)) 1 xs.zipIdx inner := hr
    obtain ⟨D, hD1, hD2⟩ := elts _ _ hr2
    have hlD : D.length = xs.length := by have := congrArg List.length hD2; simpa using this
    let zr : Elt (Kd.slice 3 (Kd.int .i64)) f w base (fun k => ok k ∧ some k ≠ some g) := Elt.of (.slice none 0 0) ([], 0) ⟨_, rfl, Kd.R_nil _ _ _ _ _⟩
    haveI : Inhabited (Elt (Kd.slice 3 (Kd.int .i64)) f w base (fun k => ok k ∧ some k ≠ some g)) := ⟨zr⟩
    have hg : g < w.heap.size := (Array.getElem?_eq_some_iff.1 hh).1
    have hmove : ∀ (w' : World), w.grownBy w' (some g) → ∀ x : Elt (Kd.slice 3 (Kd.int .i64)) f w base (fun k => ok k ∧ some k ≠ some g), (Kd.tag f (Kd.slice 3 (Kd.int .i64))).M w' base (fun k => ok k ∧ some k ≠ some g) x.two [x.enc] :=
      fun w' hgr x => Kd.M_grown x.2 hgr (fun k hk => hk.2)
    have hown : w.ownsRow base 24 1 (.slice (some ⟨g, 0, none⟩) xs.length cap) xs.length (D.toArray.toList.map Elt.enc) := by
      rw [show D.toArray.toList.map Elt.enc = inner from hD1]
      exact ho
    have e1 : D.toArray.size = xs.length := by simp [hlD]
    have hmx : xs.length ≤ 9223372036854775807 := by unfold maxLen at hm; omega
    have hcon := slices_CompactFunc_LLint_Lint.one Elt.key (Elt.enc (d := Kd.slice 3 (Kd.int .i64)) (f := f) (w := w) (base := base)) Elt.one zr rfl 80 #[] (enters_of Try.func80 (by kernel_rfl) rfl) g 0 cap D.toArray w (holds_own hown) (by omega) (by omega)
      (fun q dk hdk x y => by
        have hrel := relaid_putRow Elt.enc w g q dk hg
        exact slices_Equal_Lint_int.dec _ x.key y.key x.enc y.enc ((Kd.tag f (Kd.slice 3 (Kd.int .i64))).K_of_M (hmove _ hrel.grown x)) ((Kd.tag f (Kd.slice 3 (Kd.int .i64))).K_of_M (hmove _ hrel.grown y)))
    have hv : Value.slice (some ⟨g, 0, none⟩) xs.zipIdx.length cap = Value.slice (some ⟨g, 0, none⟩) xs.length cap := by rw [List.length_zipIdx]
    rw [hv]
    rw [e1] at hcon
    refine hcon.mono ?_
    rintro e' w' ⟨rfl, q, rfl⟩
    have hsub : (compK Elt.key D.toArray xs.length).Sublist D := by
      have := compK_sub (key := Elt.key) D.toArray
      rw [e1] at this
      exact this
    have hlen := hsub.length_le
    obtain ⟨D', hD'⟩ : ∃ D' : Array (Elt (Kd.slice 3 (Kd.int .i64)) f w base (fun k => ok k ∧ some k ≠ some g)), D' = (compK Elt.key D.toArray xs.length ++ List.replicate (xs.length - (compK Elt.key D.toArray xs.length).length) zr).toArray := ⟨_, rfl⟩
    rw [← hD']
    have hps : D'.size = xs.length := by rw [hD']; simp; omega
    have hrel := relaid_putRow Elt.enc w g q D' hg
    have hown2 := own_relaid hown D' hps hrel
    have hl' : (D'.toList.map Elt.two).length = xs.length := by simp [hps]
    have hR : (Kd.tag f (Kd.slice 3 (Kd.int .i64))).R 24 (putRow Elt.enc (Sort.ahead w q) g 0 D') base ok (.slice (some ⟨g, 0, none⟩) xs.length cap) (D'.toList.map Elt.two) := by
      refine ⟨h0, D'.toList.map Elt.enc, ?_, ?_⟩
      · rw [hsz2, hl']; exact hown2
      · rw [hsz2]; exact reps_elts D'.toList (hmove _ hrel.grown)
    have hT := Kd.R_take hR (m := (compK Elt.key D.toArray xs.length).length) (by rw [hl']; omega)
    have htk : (D'.toList.map Elt.two).take (compK Elt.key D.toArray xs.length).length = (compK Elt.key D.toArray xs.length).map Elt.two := by
      rw [hD', ← List.map_take]
      simp
    rw [htk] at hT
    have hnd : (((compK Elt.key D.toArray xs.length).map Elt.two).map Prod.snd).Nodup := by
      have h1 := (hsub.map Elt.two).map Prod.snd
      rw [hD2] at h1
      exact List.Pairwise.sublist h1 (zip_snd_nodup xs)
    have h4 := S_of_tags hT hnd
    have hkeys : ((compK Elt.key D.toArray xs.length).map Elt.two).map Prod.fst = compL xs := by
      rw [List.map_map]
      have h5 := compK_keys (key := Elt.key) D.toArray xs.length (by omega)
      have h6 : (D.toArray.toList.take xs.length).map Elt.key = xs := by
        rw [show D.toArray.toList.take xs.length = D by rw [← hlD]; simp]
        have := congrArg (List.map Prod.fst) hD2
        rw [List.map_map, List.zipIdx_map_fst] at this
        exact this
      rw [h6] at h5
      exact h5
    rw [hkeys] at h4
    exact ⟨_, rfl, hrel.grown, h4⟩
/-! ### impl_SortPackets: function 36 -/
def impl_SortPackets.l0 : Nat → List (List Int) → List (List Int) → Int → Int → Option ((List (List Int)))
  | 0, _, _, _, _ => none
  | k + 1, x3, x6, x7, x8 => if x8 < x7 then (if 0 ≤ x8 then (if x8 < (x6.length : Int) then ((slices_Clone_Lint_int.f (rd_L1 x6 x8)).bind fun t782 => (if x3.length < 5864062014805 then (impl_SortPackets.l0 k (x3 ++ [t782]) x6 x7 (wrap64 (x8 + 1))) else (none))) else (none)) else (none)) else (if x3.length < 4611686018427387904 then (some (sortP x3)) else (none))
def impl_SortPackets.f (k : Nat) (l0 : List (List Int)) : Option ((List (List Int))) := impl_SortPackets.l0 k ([] : List (List Int)) l0 (l0.length : Int) 0
set_option maxHeartbeats 8000000 in
set_option maxRecDepth 100000 in
theorem impl_SortPackets.calls (k : Nat) (A0 : Option Addr) (c0 : Nat) (l0 : List (List Int)) (r : List (List Int)) (w : World) (hr0 : Kd.C (Kd.slice 3 (Kd.int .i64)) w A0 l0.length l0) (hc0 : l0.length ≤ c0) (h : impl_SortPackets.f k l0 = some r) :
    Calls Try.prog 36 #[.slice A0 l0.length c0] w fun e w' => ∃ v0_ : Value, e = .returned (v0_) ∧ Kd.S (Kd.slice 3 (Kd.int .i64)) 24 w' w.heap.size (fun _ => True) v0_ r ∧ Below w.heap.size w w' := by
  have HR0 := Aside0.mk hr0
  have HC0 := Aside0.mk hc0
  clear hr0 hc0
  have HB := Aside0.mk (Below.refl w.heap.size w)
  have H : (impl_SortPackets.l0 k ([] : List (List Int)) l0 (l0.length : Int) 0) = some r := h
  clear h
  have H' := Aside0.mk H
  clear H
  go_enter Try.func36, Try.ntmps36
  go_wp2
  go_loopg [3, 8] k (fun kq v3 v8 w' => ∃ (x3_1 : List (List Int)) (x8_1 : Int), v8 = .int .i64 x8_1 ∧ Aside0 (impl_SortPackets.l0 kq x3_1 l0 (l0.length : Int) x8_1 = some r) ∧ Aside0 (kq ≤ k) ∧ Aside0 (Kd.S (Kd.slice 3 (Kd.int .i64)) 24 w' w.heap.size (fun _ => True) v3 x3_1) ∧ Aside0 (Below w.heap.size w w'))
  case atStart => exact ⟨(([] : List (List Int))), (0), (by first | rfl | (simp; done) | (simp [*]; done)), H', ⟨Nat.le_refl _⟩, ⟨by first | exact Kd.S_nil _ _ _ _ _ | exact Kd.N_nil _ _ _ _ _ | exact Kd.V_nil _ _ _ _ _ | exact Kd.Q_nil _ _ _ _ _ | exact Kd.R_nil _ _ _ _ _⟩, ⟨by repeat (first | (with_reducible first | exact HB.out | apply below_alloc | apply pw_below_drewN | apply below_drew1) | exact HB.out)⟩⟩
  case round =>
    clear H'
    obtain ⟨x3_1, x8_1, rfl, HA, HK1, HO_3, HB⟩ := hrel
    cases gk with
    | zero => exact absurd HA.out (by simp [impl_SortPackets.l0])
    | succ k1 =>
      have H := HA.out
      clear HA
      simp only [impl_SortPackets.l0] at H
      by_cases c2 : x8_1 < (l0.length : Int)
      · rw [if_pos c2] at H
        have c2b0 : decide (x8_1 < (l0.length : Int)) = true := decide_eq_true c2
        clear c2
        by_cases c3 : 0 ≤ x8_1
        · rw [if_pos c3] at H
          have c3b0 : decide (0 ≤ x8_1) = true := decide_eq_true c3
          clear c3
          by_cases c4 : x8_1 < (l0.length : Int)
          · rw [if_pos c4] at H
            have c4b0 : decide (x8_1 < (l0.length : Int)) = true := decide_eq_true c4
            clear c4
            replace H := Option.bind_eq_some_iff.mp H
            obtain ⟨t782, A50, H⟩ := H
            replace H : (if x3_1.length < 5864062014805 then (impl_SortPackets.l0 k1 (x3_1 ++ [t782]) l0 (l0.length : Int) (wrap64 (x8_1 + 1))) else (none)) = some r := H
            have A5 := Aside0.mk A50
            clear A50
            by_cases c6 : x3_1.length < 5864062014805
            · rw [if_pos c6] at H
              have LMc6 := Aside0.mk c6
              clear c6
              obtain ⟨y785, hy785⟩ : ∃ y_ : List (List Int), y_ = (x3_1 ++ [t782]) := ⟨_, rfl⟩
              replace H : (impl_SortPackets.l0 k1 y785 l0 (l0.length : Int) (wrap64 (x8_1 + 1))) = some r := by first | (rw [hy785]; with_reducible exact H) | (have H2_ := (Option.bind_some _ _).symm.trans H; rw [hy785]; with_reducible exact H2_) | (have H2_ := (Option.bind_some _ _).symm.trans H; with_reducible exact H2_) | with_reducible exact H | (rw [hy785]; exact H) | exact H
              have Ny785 := Aside0.mk hy785
              clear hy785
              have H' := Aside0.mk H
              clear H
              have p781 : 0 ≤ (x8_1 : Int) := of_decide_eq_true (by first | (with_reducible assumption) | assumption)
              have q781 : x8_1 < (l0.length : Int) := of_decide_eq_true (by first | (with_reducible assumption) | assumption)
              obtain ⟨ad781, A781_0, c781_0, e781, hx781_0, hl781_0, hi781_0⟩ := at_L1 HR0.out x8_1 p781 q781
              cases e781
              replace hx781_0 := (HB.out.cell (World.block_lt_of_cell? w _ hx781_0)).trans hx781_0
              have HR781_0 := Aside0.mk hi781_0
              have HC781_0 := Aside0.mk hl781_0
              clear hi781_0 hl781_0
              replace p781 := eq_true p781
              replace q781 := eq_true q781
              go_wp2_with (first | ((with_reducible refine gate_callee (f := 77) rfl ?_); refine goesL_ (some 14) rfl rfl Try.func77 (by kernel_rfl) rfl #[.slice A781_0 (rd_L1 l0 x8_1).length c781_0] rfl (by (try simp only [List.map_toArray, List.map_cons, List.map_nil]); first | done | rfl | (simp only [List.length_drop, List.length_take]; rfl)) ?_; (with_reducible refine (slices_Clone_Lint_int.calls _ _ (rd_L1 l0 x8_1) t782 _ ?side1 ?side2 A5.out).mono ?_); (case side1 => repeat (first | exact (Kd.C_below HR781_0.out HB.out) | (with_reducible refine Kd.C_alloc ?_ _) | (with_reducible refine Kd.C_drewN ?_ _) | (with_reducible refine Kd.C_drew ?_))); (case side2 => exact HC781_0.out); rintro e w7 ⟨v783, rfl, ho0, hb⟩; refine ⟨_, rfl, ?_⟩; have n0_ := Aside0.mk (Kd.S_elder' (by (with_reducible repeat (first | apply Kd.S_alloc | apply Kd.S_drewN | apply Kd.S_drew)); exact HO_3.out) (Kd.R_base ho0) hb); have n1_ := Aside0.mk (Kd.R_lower ho0 (below_size (by repeat (first | (with_reducible first | exact HB.out | apply below_alloc | apply pw_below_drewN | apply below_drew1) | exact HB.out)))); have n2_ := Aside0.mk (below_step (by repeat (first | (with_reducible first | exact HB.out | apply below_alloc | apply pw_below_drewN | apply below_drew1) | exact HB.out)) hb); clear HO_3; clear HB; have HO_3 := n0_; have HO784 := n1_; have HB := n2_; clear n0_ n1_ n2_; (try clear hb); (try clear hb2); (try clear hk); (try clear hi); (try clear ho0); obtain ⟨Ao9, co9, eo9⟩ := Kd.R_slice HO784.out; subst eo9) | ((with_reducible refine gate_builtin (b := .append) (xs := #[.tmp 12, .tmp 15]) rfl ?_); at_builtin; refine Kd.S_append (Kd.slice 3 (Kd.int .i64)) (w0 := w) w.heap.size rfl (.tmp 12) (.tmp 15) 44 24 (.slice none 0 0) 24 rfl Try.underlying44 info24 rfl (by decide) (by omega) u3 x3_1 t782 [.slice Ao9 t782.length co9] (fun _ => True) (fun k_ => some k_ = (.slice Ao9 t782.length co9 : Value).ownBlock) rfl rfl ?aP (fun k_ hk_ => ((Kd.R_mono (ok' := fun k_ => ((fun _ => True)) k_ ∧ some k_ ≠ (u3 : Value).ownBlock) (Kd.R_apart' (HO784.out) (Kd.S_typed HO_3.out) (by decide)) (fun k_ hk => ⟨trivial, hk.2⟩))).1 k_ hk_.symm) ?aF ?aO ?aB ?aS ?aL ?_; (case aP => exact Kd.M_row (Kd.R_mono (Kd.R_tight rfl (Kd.R_mono (ok' := fun k_ => ((fun _ => True)) k_ ∧ some k_ ≠ (u3 : Value).ownBlock) (Kd.R_apart' (HO784.out) (Kd.S_typed HO_3.out) (by decide)) (fun k_ hk => ⟨trivial, hk.2⟩))) (fun _ h_ => h_))); (case aB => exact (by repeat (first | (with_reducible first | exact HB.out | apply below_alloc | apply pw_below_drewN | apply below_drew1) | exact HB.out))); (case aF => exact (fun _ _ => trivial)); (case aO => exact (by (with_reducible repeat (first | apply Kd.S_alloc | apply Kd.S_drewN | apply Kd.S_drew)); exact Kd.S_mono HO_3.out (fun k_ hk => ⟨trivial, fun e_ => hk.2 e_⟩))); (case aS => exact (below_size (by repeat (first | (with_reducible first | exact HB.out | apply below_alloc | apply pw_below_drewN | apply below_drew1) | exact HB.out)))); (case aL => have := LMc6.out; omega); intro v786 w8 ho hb hg hat; rw [← Ny785.out] at ho; have n0_ := Aside0.mk (hb); have n1_ := Aside0.mk (ho); clear HB; clear HO_3; clear HO784; have HB := n0_; have HO787 := n1_; clear n0_ n1_; clear ho hb hg hat))
              go_roundg k1
              case measure => have := HK1.out; omega
              case rel => exact ⟨(y785), (wrap64 (x8_1 + 1)), (by first | rfl | (simp; done) | (simp [*]; done)), H', ⟨by have := HK1.out; omega⟩, ⟨by (with_reducible repeat (first | apply Kd.S_alloc | apply Kd.S_drewN | apply Kd.S_drew)); exact HO787.out⟩, ⟨by repeat (first | (with_reducible first | exact HB.out | apply below_alloc | apply pw_below_drewN | apply below_drew1) | exact HB.out)⟩⟩
            · rw [if_neg c6] at H
              exact absurd H (by simp)
          · rw [if_neg c4] at H
            exact absurd H (by simp)
        · rw [if_neg c3] at H
          exact absurd H (by simp)
      · rw [if_neg c2] at H
        have c2b0 : decide (x8_1 < (l0.length : Int)) = false := decide_eq_false c2
        clear c2
        by_cases c9 : x3_1.length < 4611686018427387904
        · rw [if_pos c9] at H
          obtain rfl := Option.some.inj H
          have LM9 := Aside0.mk c9
          clear H c9
          go_wp2_with (first | (go_at_call 78; refine (slices_SortFunc_LLint_Lint.onS _ w.heap.size (fun _ => True) u3 x3_1 HO_3.out LM9.out).mono ?_; rintro e w9 ⟨rfl, hg, hS⟩; have HB9 := Aside0.mk (pw_below_grown HB.out _ (below_size HB.out) hg (Kd.S_base HO_3.out)); have HO9 := Aside0.mk hS; clear hg hS HB HO_3) | (go_at_call 79; refine (slices_CompactFunc_LLint_Lint.onS _ w.heap.size (fun _ => True) u3 (sortL x3_1) HO9.out).mono ?_; rintro e w10 ⟨v10, rfl, hg, hS⟩; have HB10 := Aside0.mk (pw_below_grown HB9.out _ (below_size HB9.out) hg (Kd.S_base HO9.out)); have HO10 := Aside0.mk hS; clear hg hS HB9 HO9))
          go_ret
          exact ⟨_, rfl, HO10.out, HB10.out⟩
        · rw [if_neg c9] at H
          exact absurd H (by simp)
end Go.Proofs.Ytbeehklibkeecaa.F
-- SORTED BY CONTRACTS
end
