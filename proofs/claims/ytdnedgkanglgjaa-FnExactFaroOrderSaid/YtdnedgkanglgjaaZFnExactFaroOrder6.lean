import Derived.Test.YtdnedgkanglgjaaF0
import Derived.Test.YtdnedgkanglgjaaZFnExactFaroOrder2
import Derived.Test.YtdnedgkanglgjaaZFnExactFaroOrder5
import Derived.Test.YtdnedgkanglgjaaZFnExactFaroOrder1
import Derived.Test.YtdnedgkanglgjaaZFnExactFaroOrder3
import Derived.Test.YtdnedgkanglgjaaM
/- Laid by a program of this claim's own. What the Go function does, as a Lean function, and the proof that the Go code does just that; Lean checks it. -/
namespace Go.Proofs.Ytdnedgkanglgjaa.F
open Go.RowKit Go.Proofs.YtdnedgkanglgjaaW.PrintWords Go.Proofs.YtdnedgkanglgjaaW.PrintLast Go.Proofs.YtdnedgkanglgjaaW.PrintMore
attribute [local go_sem] max2_int min2_int max_two min_two max_three min_three max_four min_four   -- for this text's walks alone
set_option linter.unusedVariables false
set_option linter.unusedSimpArgs false

/-! ### laws_FnExactFaroOrder: function 13 -/
def laws_FnExactFaroOrder.f (k : Nat) (a0 : Int) (a1 : Int) : Option (Bool) := (spec_FaroOrder.f k a0 a1).bind fun t1093 => ((impl_FaroOrder.f k a0 a1).bind fun t1094 => (if t1094 = t1093 then (some true) else (some false)))
theorem laws_FnExactFaroOrder.mono : ∀ a0 a1 k, LeO (laws_FnExactFaroOrder.f k a0 a1) (laws_FnExactFaroOrder.f (k + 1) a0 a1) := by
  intro a0 a1 k
  unfold laws_FnExactFaroOrder.f
  repeat' first
      | (with_reducible exact impl_FaroOrder.mono _ _ _)
      | (with_reducible exact spec_FaroOrder.mono _ _ _)
      | (with_reducible exact LeO.refl _)
      | (with_reducible exact LeO.none _)
      | (with_reducible refine LeO.ite ?_ ?_)
      | (with_reducible refine LeO.bind ?_ (fun _ => ?_))
      | exact impl_FaroOrder.mono _ _ _
      | exact spec_FaroOrder.mono _ _ _
      | exact LeO.none _
      | refine LeO.ite ?_ ?_
      | refine LeO.bind ?_ (fun _ => ?_)
set_option maxHeartbeats 8000000 in
set_option maxRecDepth 100000 in
theorem laws_FnExactFaroOrder.calls (k : Nat) (a0 : Int) (a1 : Int) (r : Bool) (w : World) (h : laws_FnExactFaroOrder.f k a0 a1 = some r) :
    Calls Try.prog 13 #[.int .i64 a0, .int .i64 a1] w fun e w' => e = .returned (.bool r) ∧ Below w.heap.size w w' := by
  have HB := Aside0.mk (Below.refl w.heap.size w)
  have H : ((spec_FaroOrder.f k a0 a1).bind fun t1093 => ((impl_FaroOrder.f k a0 a1).bind fun t1094 => (if t1094 = t1093 then (some true) else (some false)))) = some r := h
  clear h
  replace H := Option.bind_eq_some_iff.mp H
  obtain ⟨t1093, A30, H⟩ := H
  replace H : ((impl_FaroOrder.f k a0 a1).bind fun t1094 => (if t1094 = t1093 then (some true) else (some false))) = some r := H
  have A3 := Aside0.mk A30
  clear A30
  replace H := Option.bind_eq_some_iff.mp H
  obtain ⟨t1094, A40, H⟩ := H
  replace H : (if t1094 = t1093 then (some true) else (some false)) = some r := H
  have A4 := Aside0.mk A40
  clear A40
  by_cases c5 : t1094 = t1093
  · rw [if_pos c5] at H
    have c5b0 : (t1094 == t1093) = true := beq_iff_eq.mpr c5
    have c5b1 : (t1094 != t1093) = false := bne_eq_false_iff_eq.mpr c5
    clear c5
    obtain rfl := Option.some.inj H
    go_enter Try.func13, Try.ntmps13
    go_wp2_with (first | ((with_reducible refine gate_callee (f := 50) rfl ?_); refine goesL_ (some 9) rfl rfl Try.func50 (by kernel_rfl) rfl #[.int .i64 a0, .int .i64 a1] rfl (by (try simp only [List.map_toArray, List.map_cons, List.map_nil]); first | done | rfl | (simp only [List.length_drop, List.length_take]; rfl)) ?_; (with_reducible refine (spec_FaroOrder.calls k a0 a1 t1093 _ A3.out).mono ?_); rintro e w6 ⟨rfl, hb⟩; refine ⟨_, rfl, ?_⟩; have n0_ := Aside0.mk (below_step (by repeat (first | (with_reducible first | exact HB.out | apply below_alloc | apply pw_below_drewN | apply below_drew1) | exact HB.out)) hb); clear HB; have HB := n0_; clear n0_; (try clear hb); (try clear hb2); (try clear hk); (try clear hi)) | ((with_reducible refine gate_callee (f := 51) rfl ?_); refine goesL_ (some 12) rfl rfl Try.func51 (by kernel_rfl) rfl #[.int .i64 a0, .int .i64 a1] rfl (by (try simp only [List.map_toArray, List.map_cons, List.map_nil]); first | done | rfl | (simp only [List.length_drop, List.length_take]; rfl)) ?_; (with_reducible refine (impl_FaroOrder.calls k a0 a1 t1094 _ A4.out).mono ?_); rintro e w7 ⟨rfl, hb⟩; refine ⟨_, rfl, ?_⟩; have n0_ := Aside0.mk (below_step (by repeat (first | (with_reducible first | exact HB.out | apply below_alloc | apply pw_below_drewN | apply below_drew1) | exact HB.out)) hb); clear HB; have HB := n0_; clear n0_; (try clear hb); (try clear hb2); (try clear hk); (try clear hi)))
    go_ret
    exact ⟨by first | rfl | (simp [errW_none, errW_some] <;> rfl) | (simp [*, errW_none, errW_some] <;> rfl), by repeat (first | (with_reducible first | exact HB.out | apply below_alloc | apply pw_below_drewN | apply below_drew1) | exact HB.out)⟩
  · rw [if_neg c5] at H
    have c5b0 : (t1094 == t1093) = false := beq_eq_false_iff_ne.mpr c5
    have c5b1 : (t1094 != t1093) = true := bne_iff_ne.mpr c5
    obtain rfl := Option.some.inj H
    go_enter Try.func13, Try.ntmps13
    go_wp2_with (first | ((with_reducible refine gate_callee (f := 50) rfl ?_); refine goesL_ (some 9) rfl rfl Try.func50 (by kernel_rfl) rfl #[.int .i64 a0, .int .i64 a1] rfl (by (try simp only [List.map_toArray, List.map_cons, List.map_nil]); first | done | rfl | (simp only [List.length_drop, List.length_take]; rfl)) ?_; (with_reducible refine (spec_FaroOrder.calls k a0 a1 t1093 _ A3.out).mono ?_); rintro e w8 ⟨rfl, hb⟩; refine ⟨_, rfl, ?_⟩; have n0_ := Aside0.mk (below_step (by repeat (first | (with_reducible first | exact HB.out | apply below_alloc | apply pw_below_drewN | apply below_drew1) | exact HB.out)) hb); clear HB; have HB := n0_; clear n0_; (try clear hb); (try clear hb2); (try clear hk); (try clear hi)) | ((with_reducible refine gate_callee (f := 51) rfl ?_); refine goesL_ (some 12) rfl rfl Try.func51 (by kernel_rfl) rfl #[.int .i64 a0, .int .i64 a1] rfl (by (try simp only [List.map_toArray, List.map_cons, List.map_nil]); first | done | rfl | (simp only [List.length_drop, List.length_take]; rfl)) ?_; (with_reducible refine (impl_FaroOrder.calls k a0 a1 t1094 _ A4.out).mono ?_); rintro e w9 ⟨rfl, hb⟩; refine ⟨_, rfl, ?_⟩; have n0_ := Aside0.mk (below_step (by repeat (first | (with_reducible first | exact HB.out | apply below_alloc | apply pw_below_drewN | apply below_drew1) | exact HB.out)) hb); clear HB; have HB := n0_; clear n0_; (try clear hb); (try clear hb2); (try clear hk); (try clear hi)))
    go_ret
    exact ⟨by first | rfl | (simp [errW_none, errW_some] <;> rfl) | (simp [*, errW_none, errW_some] <;> rfl), by repeat (first | (with_reducible first | exact HB.out | apply below_alloc | apply pw_below_drewN | apply below_drew1) | exact HB.out)⟩

/-- THE ONE PURE STATEMENT of laws_FnExactFaroOrder: yours. -/
def laws_FnExactFaroOrder.Pure : Prop := ∀ (a0 : Int) (a1 : Int), (Lit.int .i64 a0).wf = true → (Lit.int .i64 a1).wf = true → ∃ k, laws_FnExactFaroOrder.f k a0 a1 = some true
theorem laws_FnExactFaroOrder.walk (P : laws_FnExactFaroOrder.Pure) (a0 : Int) (a1 : Int) (w : World) (w0 : (Lit.int .i64 a0).wf = true) (w1 : (Lit.int .i64 a1).wf = true) :
    Calls Try.prog 13 #[.int .i64 a0, .int .i64 a1] w fun e w' => e = .returned (.bool true) ∧ Below w.heap.size w w' := by
  obtain ⟨k, h⟩ := P a0 a1 w0 w1
  refine (laws_FnExactFaroOrder.calls k a0 a1 true w h).mono ?_
  rintro e w' ⟨rfl, hd⟩
  exact ⟨rfl, hd⟩

end Go.Proofs.Ytdnedgkanglgjaa.F
/- Laid by a program of this claim's own. What the Go function does, as a Lean function, and the proof that the Go code does just that; Lean checks it. -/
namespace Go.Proofs.Ytdnedgkanglgjaa.F
open Go.RowKit Go.Proofs.YtdnedgkanglgjaaW.PrintWords Go.Proofs.YtdnedgkanglgjaaW.PrintLast Go.Proofs.YtdnedgkanglgjaaW.PrintMore
attribute [local go_sem] max2_int min2_int max_two min_two max_three min_three max_four min_four   -- for this text's walks alone
set_option linter.unusedVariables false
set_option linter.unusedSimpArgs false

/-! ### spec_CardOf: function 119 -/
def spec_CardOf.f (a0 : Int) : Option (Int) := (spec_l01In.f a0 0 11).bind fun t237 => (if t237 = true then (some a0) else ((spec_l01In.f a0 (-12) (-1)).bind fun t238 => (if t238 = true then (some (wrap64 ((-1) - a0))) else (some (-1)))))
set_option maxHeartbeats 8000000 in
set_option maxRecDepth 100000 in
theorem spec_CardOf.calls (a0 : Int) (r : Int) (w : World) (h : spec_CardOf.f a0 = some r) :
    Calls Try.prog 119 #[.int .i64 a0] w fun e w' => e = .returned (.int .i64 r) ∧ Drawn0 w w' := by
  have H : ((spec_l01In.f a0 0 11).bind fun t237 => (if t237 = true then (some a0) else ((spec_l01In.f a0 (-12) (-1)).bind fun t238 => (if t238 = true then (some (wrap64 ((-1) - a0))) else (some (-1)))))) = some r := h
  clear h
  replace H := Option.bind_eq_some_iff.mp H
  obtain ⟨t237, A20, H⟩ := H
  replace H : (if t237 = true then (some a0) else ((spec_l01In.f a0 (-12) (-1)).bind fun t238 => (if t238 = true then (some (wrap64 ((-1) - a0))) else (some (-1))))) = some r := H
  have A2 := Aside0.mk A20
  clear A20
  by_cases c3 : t237 = true
  · subst c3
    have H1 : (some a0) = some r := by rw [if_pos rfl] at H; exact H
    clear H
    have H := H1
    clear H1
    obtain rfl := Option.some.inj H
    go_enter Try.func119, Try.ntmps119
    go_wp2_with (first | ((with_reducible refine gate_callee (f := 63) rfl ?_); refine goesL_ (some 4) rfl rfl Try.func63 (by kernel_rfl) rfl #[.int .i64 a0, .int .i64 0, .int .i64 11] rfl (by (try simp only [List.map_toArray, List.map_cons, List.map_nil]); first | done | rfl | (simp only [List.length_drop, List.length_take]; rfl)) ?_; (with_reducible refine (spec_l01In.calls a0 0 11 true _ A2.out).mono ?_); rintro e w' ⟨rfl, ⟨nd, rfl⟩⟩; refine ⟨_, rfl, ?_⟩))
    go_ret
    exact ⟨by first | rfl | (simp; done) | (simp [*]; done), by repeat (first | exact Drawn0.refl _ | apply Drawn0.step)⟩
  · replace c3 := Bool.eq_false_iff.mpr c3
    subst c3
    have H1 : ((spec_l01In.f a0 (-12) (-1)).bind fun t238 => (if t238 = true then (some (wrap64 ((-1) - a0))) else (some (-1)))) = some r := by rw [if_neg (show ¬ (false = true) by decide)] at H; exact H
    clear H
    have H := H1
    clear H1
    replace H := Option.bind_eq_some_iff.mp H
    obtain ⟨t238, A40, H⟩ := H
    replace H : (if t238 = true then (some (wrap64 ((-1) - a0))) else (some (-1))) = some r := H
    have A4 := Aside0.mk A40
    clear A40
    by_cases c5 : t238 = true
    · subst c5
      have H1 : (some (wrap64 ((-1) - a0))) = some r := by rw [if_pos rfl] at H; exact H
      clear H
      have H := H1
      clear H1
      obtain rfl := Option.some.inj H
      go_enter Try.func119, Try.ntmps119
      go_wp2_with (first | ((with_reducible refine gate_callee (f := 63) rfl ?_); refine goesL_ (some 4) rfl rfl Try.func63 (by kernel_rfl) rfl #[.int .i64 a0, .int .i64 0, .int .i64 11] rfl (by (try simp only [List.map_toArray, List.map_cons, List.map_nil]); first | done | rfl | (simp only [List.length_drop, List.length_take]; rfl)) ?_; (with_reducible refine (spec_l01In.calls a0 0 11 false _ A2.out).mono ?_); rintro e w' ⟨rfl, ⟨nd, rfl⟩⟩; refine ⟨_, rfl, ?_⟩) | ((with_reducible refine gate_callee (f := 63) rfl ?_); refine goesL_ (some 7) rfl rfl Try.func63 (by kernel_rfl) rfl #[.int .i64 a0, .int .i64 (-12), .int .i64 (-1)] rfl (by (try simp only [List.map_toArray, List.map_cons, List.map_nil]); first | done | rfl | (simp only [List.length_drop, List.length_take]; rfl)) ?_; (with_reducible refine (spec_l01In.calls a0 (-12) (-1) true _ A4.out).mono ?_); rintro e w' ⟨rfl, ⟨nd, rfl⟩⟩; refine ⟨_, rfl, ?_⟩))
      go_ret
      exact ⟨by first | rfl | (simp; done) | (simp [*]; done), by repeat (first | exact Drawn0.refl _ | apply Drawn0.step)⟩
    · replace c5 := Bool.eq_false_iff.mpr c5
      subst c5
      have H1 : (some (-1)) = some r := by rw [if_neg (show ¬ (false = true) by decide)] at H; exact H
      clear H
      have H := H1
      clear H1
      obtain rfl := Option.some.inj H
      go_enter Try.func119, Try.ntmps119
      go_wp2_with (first | ((with_reducible refine gate_callee (f := 63) rfl ?_); refine goesL_ (some 4) rfl rfl Try.func63 (by kernel_rfl) rfl #[.int .i64 a0, .int .i64 0, .int .i64 11] rfl (by (try simp only [List.map_toArray, List.map_cons, List.map_nil]); first | done | rfl | (simp only [List.length_drop, List.length_take]; rfl)) ?_; (with_reducible refine (spec_l01In.calls a0 0 11 false _ A2.out).mono ?_); rintro e w' ⟨rfl, ⟨nd, rfl⟩⟩; refine ⟨_, rfl, ?_⟩) | ((with_reducible refine gate_callee (f := 63) rfl ?_); refine goesL_ (some 7) rfl rfl Try.func63 (by kernel_rfl) rfl #[.int .i64 a0, .int .i64 (-12), .int .i64 (-1)] rfl (by (try simp only [List.map_toArray, List.map_cons, List.map_nil]); first | done | rfl | (simp only [List.length_drop, List.length_take]; rfl)) ?_; (with_reducible refine (spec_l01In.calls a0 (-12) (-1) false _ A4.out).mono ?_); rintro e w' ⟨rfl, ⟨nd, rfl⟩⟩; refine ⟨_, rfl, ?_⟩))
      go_ret
      exact ⟨by first | rfl | (simp; done) | (simp [*]; done), by repeat (first | exact Drawn0.refl _ | apply Drawn0.step)⟩

end Go.Proofs.Ytdnedgkanglgjaa.F
/- Laid by a program of this claim's own. What the Go function does, as a Lean function, and the proof that the Go code does just that; Lean checks it. -/
namespace Go.Proofs.Ytdnedgkanglgjaa.F
open Go.RowKit Go.Proofs.YtdnedgkanglgjaaW.PrintWords Go.Proofs.YtdnedgkanglgjaaW.PrintLast Go.Proofs.YtdnedgkanglgjaaW.PrintMore
attribute [local go_sem] max2_int min2_int max_two min_two max_three min_three max_four min_four   -- for this text's walks alone
set_option linter.unusedVariables false
set_option linter.unusedSimpArgs false

/-! ### spec_PacketOk: function 62 -/
def spec_PacketOk.l0 : Nat → List Int → List Int → Int → Int → Option (Bool)
  | 0, _, _, _, _ => none
  | k + 1, x3, x11, x12, x13 => if x13 < x12 then (if 0 ≤ x13 then (if x13 < (x11.length : Int) then ((spec_CardOf.f (rd x11 x13)).bind fun t244 => (if t244 < 0 then (some false) else ((spec_l02Has.f k x3 t244).bind fun t245 => (if t245 = true then (some false) else (if x3.length < 17592186044416 then (spec_PacketOk.l0 k (x3 ++ [t244]) x11 x12 (wrap64 (x13 + 1))) else (none)))))) else (none)) else (none)) else (some true)
def spec_PacketOk.f (k : Nat) (l0 : List Int) : Option (Bool) := if (l0.length : Int) > 12 then (some false) else (spec_PacketOk.l0 k (([] : List Int)) l0 (l0.length : Int) 0)
theorem spec_PacketOk.mono_l : ∀ k, (∀ y0 y1 y2 y3, LeO (spec_PacketOk.l0 k y0 y1 y2 y3) (spec_PacketOk.l0 (k + 1) y0 y1 y2 y3))
  | 0 => fun _ _ _ _ r h => by simp [spec_PacketOk.l0] at h
  | k + 1 => by
    have ih0 := spec_PacketOk.mono_l k
    · intro y0 y1 y2 y3
      unfold spec_PacketOk.l0
      repeat' first
      | (with_reducible exact ih0 _ _ _ _)
      | (with_reducible exact spec_l02Has.mono _ _ _)
      | (with_reducible exact LeO.refl _)
      | (with_reducible exact LeO.none _)
      | (with_reducible refine LeO.ite ?_ ?_)
      | (with_reducible refine LeO.bind ?_ (fun _ => ?_))
      | exact ih0 _ _ _ _
      | exact spec_l02Has.mono _ _ _
      | exact LeO.none _
      | refine LeO.ite ?_ ?_
      | refine LeO.bind ?_ (fun _ => ?_)
theorem spec_PacketOk.mono : ∀ a0 k, LeO (spec_PacketOk.f k a0) (spec_PacketOk.f (k + 1) a0) := by
  intro a0 k
  have ih0 := spec_PacketOk.mono_l k
  unfold spec_PacketOk.f
  repeat' first
      | (with_reducible exact ih0 _ _ _ _)
      | (with_reducible exact spec_l02Has.mono _ _ _)
      | (with_reducible exact LeO.refl _)
      | (with_reducible exact LeO.none _)
      | (with_reducible refine LeO.ite ?_ ?_)
      | (with_reducible refine LeO.bind ?_ (fun _ => ?_))
      | exact ih0 _ _ _ _
      | exact spec_l02Has.mono _ _ _
      | exact LeO.none _
      | refine LeO.ite ?_ ?_
      | refine LeO.bind ?_ (fun _ => ?_)
set_option maxHeartbeats 8000000 in
set_option maxRecDepth 100000 in
theorem spec_PacketOk.calls (k : Nat) (A0 : Option Addr) (c0 : Nat) (l0 : List Int) (r : Bool) (w : World) (hr0 : Kd.C (Kd.int .i64) w A0 l0.length l0) (hc0 : l0.length ≤ c0) (h : spec_PacketOk.f k l0 = some r) :
    Calls Try.prog 62 #[.slice A0 l0.length c0] w fun e w' => e = .returned (.bool r) ∧ Below w.heap.size w w' := by
  have HR0 := Aside0.mk hr0
  have HC0 := Aside0.mk hc0
  clear hr0 hc0
  have HB := Aside0.mk (Below.refl w.heap.size w)
  have H : (if (l0.length : Int) > 12 then (some false) else (spec_PacketOk.l0 k (([] : List Int)) l0 (l0.length : Int) 0)) = some r := h
  clear h
  by_cases c2 : (l0.length : Int) > 12
  · rw [if_pos c2] at H
    have c2b0 : decide (12 < (l0.length : Int)) = true := decide_eq_true c2
    have c2b1 : decide (12 < l0.length) = true := decide_eq_true (by omega)
    clear c2
    obtain rfl := Option.some.inj H
    go_enter Try.func62, Try.ntmps62
    go_wp2
    go_ret
    exact ⟨by first | rfl | (simp [errW_none, errW_some] <;> rfl) | (simp [*, errW_none, errW_some] <;> rfl), by repeat (first | (with_reducible first | exact HB.out | apply below_alloc | apply pw_below_drewN | apply below_drew1) | exact HB.out)⟩
  · rw [if_neg c2] at H
    have c2b0 : decide (12 < (l0.length : Int)) = false := decide_eq_false c2
    have c2b1 : decide (12 < l0.length) = false := decide_eq_false (by omega)
    clear c2
    obtain ⟨y240, hy240⟩ : ∃ y_ : List Int, y_ = (([] : List Int)) := ⟨_, rfl⟩
    replace H : (spec_PacketOk.l0 k y240 l0 (l0.length : Int) 0) = some r := by first | (rw [hy240]; with_reducible exact H) | (have H2_ := (Option.bind_some _ _).symm.trans H; rw [hy240]; with_reducible exact H2_) | (have H2_ := (Option.bind_some _ _).symm.trans H; with_reducible exact H2_) | with_reducible exact H | (rw [hy240]; exact H) | exact H
    have Ny240 := Aside0.mk hy240
    clear hy240
    have H' := Aside0.mk H
    clear H
    go_enter Try.func62, Try.ntmps62
    go_wp2_with (first | ((with_reducible refine gate_dst (N := 10) rfl ?_); refine Kd.R_lit (Kd.int .i64) _ 3 ?hg (N := 10) ?hd (xs := ([] : List Int)) (inner := []) (ok := fun _ => True) (okp := fun _ => True) ?hr ?hp (fun _ hk => hk) trivial (Below.refl _ _) (Nat.le_refl _) (by simp) ?_; (case hd => rfl); (case hg => rfl); (case hr => first | (go_simp; done) | (go_simp; rfl)); (case hp => exact (Reps.none _ _)); intro v241 w3 ho4 hb hg_ hnew_; clear hg_ hnew_; (first | rw [← Ny240.out] at ho4 | (simp only [Int.reduceToNat] at ho4; rw [← Ny240.out] at ho4)); have n0_ := Aside0.mk (Kd.R_lower ho4 (below_size (by repeat (first | (with_reducible first | exact HB.out | apply below_alloc | apply pw_below_drewN | apply below_drew1) | exact HB.out)))); have n1_ := Aside0.mk (below_step (by repeat (first | (with_reducible first | exact HB.out | apply below_alloc | apply pw_below_drewN | apply below_drew1) | exact HB.out)) hb); clear HB; have HO242 := n0_; have HB := n1_; clear n0_ n1_; clear hb ho4))
    go_loopg [3, 13] k (fun kq v3 v13 w' => ∃ (x3_1 : List Int) (x13_1 : Int), v13 = .int .i64 x13_1 ∧ Aside0 (spec_PacketOk.l0 kq x3_1 l0 (l0.length : Int) x13_1 = some r) ∧ Aside0 (kq ≤ k) ∧ Aside0 (Kd.R (Kd.int .i64) 3 w' w.heap.size (fun _ => True) v3 x3_1) ∧ Aside0 (Below w.heap.size w w'))
    case atStart => exact ⟨(y240), (0), (by first | rfl | (simp; done) | (simp [*]; done)), H', ⟨Nat.le_refl _⟩, ⟨by (with_reducible repeat (first | apply Kd.R_alloc | apply Kd.R_drewN | apply Kd.R_drew)); exact HO242.out⟩, ⟨by repeat (first | (with_reducible first | exact HB.out | apply below_alloc | apply pw_below_drewN | apply below_drew1) | exact HB.out)⟩⟩
    case round =>
      clear H'
      try clear c2
      try clear c2b0
      try clear c2b1
      try clear p2
      obtain ⟨x3_1, x13_1, rfl, HA, HK1, HO_3, HB⟩ := hrel
      cases gk with
      | zero => exact absurd HA.out (by simp [spec_PacketOk.l0])
      | succ k1 =>
        have H := HA.out
        clear HA
        simp only [spec_PacketOk.l0] at H
        by_cases c5 : x13_1 < (l0.length : Int)
        · rw [if_pos c5] at H
          have c5b0 : decide (x13_1 < (l0.length : Int)) = true := decide_eq_true c5
          clear c5
          by_cases c6 : 0 ≤ x13_1
          · rw [if_pos c6] at H
            have c6b0 : decide (0 ≤ x13_1) = true := decide_eq_true c6
            clear c6
            by_cases c7 : x13_1 < (l0.length : Int)
            · rw [if_pos c7] at H
              have c7b0 : decide (x13_1 < (l0.length : Int)) = true := decide_eq_true c7
              clear c7
              replace H := Option.bind_eq_some_iff.mp H
              obtain ⟨t244, A80, H⟩ := H
              replace H : (if t244 < 0 then (some false) else ((spec_l02Has.f k1 x3_1 t244).bind fun t245 => (if t245 = true then (some false) else (if x3_1.length < 17592186044416 then (spec_PacketOk.l0 k1 (x3_1 ++ [t244]) l0 (l0.length : Int) (wrap64 (x13_1 + 1))) else (none))))) = some r := H
              have A8 := Aside0.mk A80
              clear A80
              by_cases c9 : t244 < 0
              · rw [if_pos c9] at H
                have c9b0 : decide (t244 < 0) = true := decide_eq_true c9
                clear c9
                obtain rfl := Option.some.inj H
                have p243 : 0 ≤ (x13_1 : Int) := of_decide_eq_true (by first | (with_reducible assumption) | assumption)
                have q243 : x13_1 < (l0.length : Int) := of_decide_eq_true (by first | (with_reducible assumption) | assumption)
                obtain ⟨ad243, e243, hx243_0⟩ := Kd.at_int HR0.out x13_1 p243 q243
                cases e243
                replace hx243_0 := (HB.out.cell (World.block_lt_of_cell? w _ hx243_0)).trans hx243_0
                replace p243 := eq_true p243
                replace q243 := eq_true q243
                go_wp2_with (first | ((with_reducible refine gate_callee (f := 119) rfl ?_); refine goesL_ (some 18) rfl rfl Try.func119 (by kernel_rfl) rfl #[.int .i64 (rd l0 x13_1)] rfl (by (try simp only [List.map_toArray, List.map_cons, List.map_nil]); first | done | rfl | (simp only [List.length_drop, List.length_take]; rfl)) ?_; (with_reducible refine (spec_CardOf.calls (rd l0 x13_1) t244 _ A8.out).mono ?_); rintro e w' ⟨rfl, ⟨nd, rfl⟩⟩; refine ⟨_, rfl, ?_⟩))
                go_ret
                exact ⟨by first | rfl | (simp [errW_none, errW_some] <;> rfl) | (simp [*, errW_none, errW_some] <;> rfl), by repeat (first | (with_reducible first | exact HB.out | apply below_alloc | apply pw_below_drewN | apply below_drew1) | exact HB.out)⟩
              · rw [if_neg c9] at H
                have c9b0 : decide (t244 < 0) = false := decide_eq_false c9
                clear c9
                replace H := Option.bind_eq_some_iff.mp H
                obtain ⟨t245, A100, H⟩ := H
                replace H : (if t245 = true then (some false) else (if x3_1.length < 17592186044416 then (spec_PacketOk.l0 k1 (x3_1 ++ [t244]) l0 (l0.length : Int) (wrap64 (x13_1 + 1))) else (none))) = some r := H
                have A10 := Aside0.mk A100
                clear A100
                by_cases c11 : t245 = true
                · subst c11
                  have H1 : (some false) = some r := by rw [if_pos rfl] at H; exact H
                  clear H
                  have H := H1
                  clear H1
                  obtain rfl := Option.some.inj H
                  have p243 : 0 ≤ (x13_1 : Int) := of_decide_eq_true (by first | (with_reducible assumption) | assumption)
                  have q243 : x13_1 < (l0.length : Int) := of_decide_eq_true (by first | (with_reducible assumption) | assumption)
                  obtain ⟨ad243, e243, hx243_0⟩ := Kd.at_int HR0.out x13_1 p243 q243
                  cases e243
                  replace hx243_0 := (HB.out.cell (World.block_lt_of_cell? w _ hx243_0)).trans hx243_0
                  replace p243 := eq_true p243
                  replace q243 := eq_true q243
                  go_wp2_with (first | ((with_reducible refine gate_callee (f := 119) rfl ?_); refine goesL_ (some 18) rfl rfl Try.func119 (by kernel_rfl) rfl #[.int .i64 (rd l0 x13_1)] rfl (by (try simp only [List.map_toArray, List.map_cons, List.map_nil]); first | done | rfl | (simp only [List.length_drop, List.length_take]; rfl)) ?_; (with_reducible refine (spec_CardOf.calls (rd l0 x13_1) t244 _ A8.out).mono ?_); rintro e w' ⟨rfl, ⟨nd, rfl⟩⟩; refine ⟨_, rfl, ?_⟩; obtain ⟨Ao12, co12, eo12⟩ := Kd.R_slice HO_3.out; subst eo12) | (go_at_call 120; (with_reducible refine (spec_l02Has.calls k1 _ _ x3_1 t244 true _ ?side1 ?side2 A10.out).mono ?_); (case side1 => repeat (first | exact (Kd.R_reads' HO_3.out).2.2 | (with_reducible refine Kd.C_alloc ?_ _) | (with_reducible refine Kd.C_drewN ?_ _) | (with_reducible refine Kd.C_drew ?_))); (case side2 => exact (Kd.R_reads' HO_3.out).2.1); rintro e w' ⟨rfl, ⟨nd, rfl⟩⟩))
                  go_ret
                  exact ⟨by first | rfl | (simp [errW_none, errW_some] <;> rfl) | (simp [*, errW_none, errW_some] <;> rfl), by repeat (first | (with_reducible first | exact HB.out | apply below_alloc | apply pw_below_drewN | apply below_drew1) | exact HB.out)⟩
                · replace c11 := Bool.eq_false_iff.mpr c11
                  subst c11
                  have H1 : (if x3_1.length < 17592186044416 then (spec_PacketOk.l0 k1 (x3_1 ++ [t244]) l0 (l0.length : Int) (wrap64 (x13_1 + 1))) else (none)) = some r := by rw [if_neg (show ¬ (false = true) by decide)] at H; exact H
                  clear H
                  have H := H1
                  clear H1
                  by_cases c13 : x3_1.length < 17592186044416
                  · rw [if_pos c13] at H
                    have LMc13 := Aside0.mk c13
                    clear c13
                    obtain ⟨y246, hy246⟩ : ∃ y_ : List Int, y_ = (x3_1 ++ [t244]) := ⟨_, rfl⟩
                    replace H : (spec_PacketOk.l0 k1 y246 l0 (l0.length : Int) (wrap64 (x13_1 + 1))) = some r := by first | (rw [hy246]; with_reducible exact H) | (have H2_ := (Option.bind_some _ _).symm.trans H; rw [hy246]; with_reducible exact H2_) | (have H2_ := (Option.bind_some _ _).symm.trans H; with_reducible exact H2_) | with_reducible exact H | (rw [hy246]; exact H) | exact H
                    have Ny246 := Aside0.mk hy246
                    clear hy246
                    have H' := Aside0.mk H
                    clear H
                    have p243 : 0 ≤ (x13_1 : Int) := of_decide_eq_true (by first | (with_reducible assumption) | assumption)
                    have q243 : x13_1 < (l0.length : Int) := of_decide_eq_true (by first | (with_reducible assumption) | assumption)
                    obtain ⟨ad243, e243, hx243_0⟩ := Kd.at_int HR0.out x13_1 p243 q243
                    cases e243
                    replace hx243_0 := (HB.out.cell (World.block_lt_of_cell? w _ hx243_0)).trans hx243_0
                    replace p243 := eq_true p243
                    replace q243 := eq_true q243
                    go_wp2_with (first | ((with_reducible refine gate_callee (f := 119) rfl ?_); refine goesL_ (some 18) rfl rfl Try.func119 (by kernel_rfl) rfl #[.int .i64 (rd l0 x13_1)] rfl (by (try simp only [List.map_toArray, List.map_cons, List.map_nil]); first | done | rfl | (simp only [List.length_drop, List.length_take]; rfl)) ?_; (with_reducible refine (spec_CardOf.calls (rd l0 x13_1) t244 _ A8.out).mono ?_); rintro e w' ⟨rfl, ⟨nd, rfl⟩⟩; refine ⟨_, rfl, ?_⟩; obtain ⟨Ao14, co14, eo14⟩ := Kd.R_slice HO_3.out; subst eo14) | (go_at_call 120; (with_reducible refine (spec_l02Has.calls k1 _ _ x3_1 t244 false _ ?side1 ?side2 A10.out).mono ?_); (case side1 => repeat (first | exact (Kd.R_reads' HO_3.out).2.2 | (with_reducible refine Kd.C_alloc ?_ _) | (with_reducible refine Kd.C_drewN ?_ _) | (with_reducible refine Kd.C_drew ?_))); (case side2 => exact (Kd.R_reads' HO_3.out).2.1); rintro e w' ⟨rfl, ⟨nd, rfl⟩⟩) | ((with_reducible refine gate_builtin (b := .append) (xs := #[.tmp 26, .tmp 28]) rfl ?_); at_builtin; refine Kd.R_append (Kd.int .i64) (w0 := w) w.heap.size rfl (.tmp 26) (.tmp 28) 22 3 (.int .i64 0) 8 rfl Try.underlying22 info3 rfl (by decide) (by omega) (.slice Ao14 x3_1.length co14) x3_1 t244 [.int .i64 t244] (fun _ => True) (fun _ => False) rfl rfl ?aP (fun _ hk => hk.elim) ?aF ?aO ?aB ?aS ?aL ?_; (case aP => exact rfl); (case aB => exact (by repeat (first | (with_reducible first | exact HB.out | apply below_alloc | apply pw_below_drewN | apply below_drew1) | exact HB.out))); (case aF => exact (fun _ _ => trivial)); (case aO => exact (by (with_reducible repeat (first | apply Kd.R_alloc | apply Kd.R_drewN | apply Kd.R_drew)); exact HO_3.out)); (case aS => exact (below_size (by repeat (first | (with_reducible first | exact HB.out | apply below_alloc | apply pw_below_drewN | apply below_drew1) | exact HB.out)))); (case aL => have := LMc13.out; omega); intro v247 w15 ho hb hg hat; rw [← Ny246.out] at ho; have n0_ := Aside0.mk (hb); have n1_ := Aside0.mk (ho); clear HB; clear HO_3; have HB := n0_; have HO248 := n1_; clear n0_ n1_; clear ho hb hg hat))
                    go_roundg k1
                    case measure => have := HK1.out; omega
                    case rel => exact ⟨(y246), (wrap64 (x13_1 + 1)), (by first | rfl | (simp; done) | (simp [*]; done)), H', ⟨by have := HK1.out; omega⟩, ⟨by (with_reducible repeat (first | apply Kd.R_alloc | apply Kd.R_drewN | apply Kd.R_drew)); exact HO248.out⟩, ⟨by repeat (first | (with_reducible first | exact HB.out | apply below_alloc | apply pw_below_drewN | apply below_drew1) | exact HB.out)⟩⟩
                  · rw [if_neg c13] at H
                    exact absurd H (by simp)
            · rw [if_neg c7] at H
              exact absurd H (by simp)
          · rw [if_neg c6] at H
            exact absurd H (by simp)
        · rw [if_neg c5] at H
          have c5b0 : decide (x13_1 < (l0.length : Int)) = false := decide_eq_false c5
          clear c5
          obtain rfl := Option.some.inj H
          go_wp2
          go_ret
          exact ⟨by first | rfl | (simp [errW_none, errW_some] <;> rfl) | (simp [*, errW_none, errW_some] <;> rfl), by repeat (first | (with_reducible first | exact HB.out | apply below_alloc | apply pw_below_drewN | apply below_drew1) | exact HB.out)⟩

end Go.Proofs.Ytdnedgkanglgjaa.F
/- Cards, and when a list is a packet: the program's and the reference's functions tell one thing. -/
namespace Go.Proofs.Ytdnedgkanglgjaa.F
open Go.RowKit Go.Proofs.YtdnedgkanglgjaaW.PrintWords Go.Proofs.YtdnedgkanglgjaaW.PrintLast Go.Proofs.YtdnedgkanglgjaaW.PrintMore
set_option linter.unusedVariables false
set_option linter.unusedSimpArgs false
theorem wf64 {x : Int} (h : (Lit.int .i64 x).wf = true) : -9223372036854775808 ≤ x ∧ x ≤ 9223372036854775807 := by
  have := h
  simp only [Lit.wf, Bool.and_eq_true, decide_eq_true_eq] at this
  have a : IntKind.i64.min = -9223372036854775808 := by kernel_rfl
  have b : IntKind.i64.max = 9223372036854775807 := by kernel_rfl
  omega
theorem l01In_eq (a b c : Int) : spec_l01In.f a b c = some (decide (b ≤ a ∧ a ≤ c)) := by
  unfold spec_l01In.f
  by_cases h : b ≤ a
  · simp [h]
  · simp [h]
def cardOf (x : Int) : Int := if 0 ≤ x ∧ x ≤ 11 then x else if -12 ≤ x ∧ x ≤ -1 then -1 - x else -1
theorem cardOf_lt (x : Int) : cardOf x < 12 := by
  unfold cardOf
  repeat' split
  all_goals omega
theorem cardOf_ge (x : Int) : -1 ≤ cardOf x := by
  unfold cardOf
  repeat' split
  all_goals omega
theorem spec_CardOf_eq (x : Int) : spec_CardOf.f x = some (cardOf x) := by
  unfold spec_CardOf.f cardOf
  rw [l01In_eq, l01In_eq]
  by_cases h : 0 ≤ x ∧ x ≤ 11
  · simp [h]
  · by_cases k : -12 ≤ x ∧ x ≤ -1
    · have e : wrap64 (-1 - x) = -1 - x := w64_id (by omega) (by omega)
      simp [h, k, e]
    · simp [h, k]
theorem impl_CardOf_eq (x : Int) (h0 : -9223372036854775808 ≤ x) : impl_CardOf.f x = some (cardOf x) := by
  unfold impl_CardOf.f cardOf
  by_cases h : x < 0
  · have e : wrap64 (-1 - x) = -1 - x := w64_id (by omega) (by omega)
    simp only [if_pos h, e]
    by_cases k : -1 - x ≥ 12
    · rw [if_pos k, if_neg (by omega), if_neg (by omega)]
    · rw [if_neg k, if_neg (by omega), if_pos (by omega)]
  · simp only [if_neg h]
    by_cases k : x ≥ 12
    · rw [if_pos k, if_neg (by omega), if_neg (by omega)]
    · rw [if_neg k, if_pos (by omega)]
theorem l02Has_at (x : Int) (rest : List Int) : ∀ (pre : List Int), (pre ++ rest).length ≤ 4611686018427387904 →
    Ev (fun k => spec_l02Has.l0 k x (pre ++ rest) ((pre ++ rest).length : Int) (pre.length : Int)) (rest.contains x) := by
  induction rest with
  | nil =>
    intro pre hb
    exact Ev.step (f := fun _ => some false) (fun k => by rw [spec_l02Has.l0, if_neg (mid_nlt _)]) (Ev.now _)
  | cons y rest ih =>
    intro pre hb
    by_cases e : y = x
    · subst e
      simp only [List.contains_cons, beq_self_eq_true, Bool.true_or]
      exact Ev.step (f := fun _ => some true) (fun k => by rw [spec_l02Has.l0, if_pos (mid_lt _ _ _), if_pos (nn _), if_pos (mid_lt _ _ _), mid_rd, if_pos rfl]) (Ev.now _)
    · have h := ih (pre ++ [y]) (by simpa using hb)
      rw [← mid_cons] at h
      rw [show (y :: rest).contains x = rest.contains x by simp only [List.contains_cons]; rw [show (x == y) = false by simpa using fun h => e h.symm]; rfl]
      exact Ev.step (fun k => by rw [spec_l02Has.l0, if_pos (mid_lt _ _ _), if_pos (nn _), if_pos (mid_lt _ _ _), mid_rd, if_neg e, mid_succ pre y (by simp at hb; omega)]) h
theorem l02Has_ev (l : List Int) (x : Int) (hb : l.length ≤ 4611686018427387904) : Ev (fun k => spec_l02Has.f k l x) (l.contains x) := l02Has_at x l [] hb
/-- Is a list a packet: the cards met so far are told by twelve bools. -/
def packetM : List Bool → List Int → Bool
  | _, [] => true
  | met, x :: xs => if cardOf x < 0 then false else if met.getD (cardOf x).toNat false = true then false else packetM (met.set (cardOf x).toNat true) xs
def packetB (l : List Int) : Bool := packetM (List.replicate 12 false) l
theorem impl_PacketOk_at (rest : List Int) : ∀ (pre : List Int) (met : List Bool), (pre ++ rest).length ≤ 4611686018427387904 → (∀ x ∈ rest, -9223372036854775808 ≤ x) →
    Ev (fun k => impl_PacketOk.l0 k (pre ++ rest) met (pre.length : Int)) (packetM met rest) := by
  induction rest with
  | nil =>
    intro pre met hb hw
    exact Ev.step (f := fun _ => some true) (fun k => by rw [impl_PacketOk.l0, if_neg (mid_nlt _)]) (Ev.now _)
  | cons x rest ih =>
    intro pre met hb hw
    have hx := hw x (by simp)
    unfold packetM
    by_cases c : cardOf x < 0
    · rw [if_pos c]
      exact Ev.step (f := fun _ => some false) (fun k => by rw [impl_PacketOk.l0, if_pos (mid_lt _ _ _), if_pos (nn _), mid_rd, impl_CardOf_eq x hx]; simp only [Option.bind_some]; rw [if_pos c]) (Ev.now _)
    · rw [if_neg c]
      by_cases m : met.getD (cardOf x).toNat false = true
      · rw [if_pos m]
        exact Ev.step (f := fun _ => some false) (fun k => by rw [impl_PacketOk.l0, if_pos (mid_lt _ _ _), if_pos (nn _), mid_rd, impl_CardOf_eq x hx]; simp only [Option.bind_some]; rw [if_neg c, if_pos (cardOf_lt x), if_pos m]) (Ev.now _)
      · rw [if_neg m]
        have h := ih (pre ++ [x]) (met.set (cardOf x).toNat true) (by simpa using hb) (fun y hy => hw y (by simp [hy]))
        rw [← mid_cons] at h
        exact Ev.step (fun k => by rw [impl_PacketOk.l0, if_pos (mid_lt _ _ _), if_pos (nn _), mid_rd, impl_CardOf_eq x hx]; simp only [Option.bind_some]; rw [if_neg c, if_pos (cardOf_lt x), if_neg m, mid_succ pre x (by simp at hb; omega)]) h
theorem impl_PacketOk_ev (l : List Int) (hb : l.length ≤ 4611686018427387904) (hw : ∀ x ∈ l, -9223372036854775808 ≤ x) : Ev (fun k => impl_PacketOk.f k l) (packetB l) := impl_PacketOk_at l [] _ hb hw
theorem count_set (l : List Bool) : ∀ i, i < l.length → l.getD i false ≠ true → (l.set i true).count true = l.count true + 1 := by
  induction l with
  | nil => intro i h; simp at h
  | cons b l ih =>
    intro i h hb
    cases i with
    | zero =>
      cases b with
      | true => simp at hb
      | false => simp
    | succ i =>
      have := ih i (by simpa using h) (by simpa using hb)
      simp only [List.set_cons_succ, List.count_cons]
      omega
theorem packetM_len (xs : List Int) : ∀ met : List Bool, met.length = 12 → packetM met xs = true → met.count true + xs.length ≤ 12 := by
  induction xs with
  | nil =>
    intro met hl _
    have := List.count_le_length (a := true) (l := met)
    simp; omega
  | cons x xs ih =>
    intro met hl h
    unfold packetM at h
    by_cases c : cardOf x < 0
    · rw [if_pos c] at h; cases h
    · rw [if_neg c] at h
      by_cases m : met.getD (cardOf x).toNat false = true
      · rw [if_pos m] at h; cases h
      · rw [if_neg m] at h
        have h1 := ih _ (by simpa using hl) h
        have := cardOf_lt x
        rw [count_set met _ (by omega) m] at h1
        simp; omega
theorem packetB_len {l : List Int} (h : packetB l = true) : l.length ≤ 12 := by
  have := packetM_len l _ (by simp) h
  simp at this
  omega
theorem set_getD (met : List Bool) (i j : Nat) (hi : i < met.length) : (met.set i true).getD j false = (decide (j = i) || met.getD j false) := by
  by_cases e : j = i
  · subst e
    simp [List.getD_eq_getElem?_getD, hi]
  · have e' : ¬ i = j := fun h => e h.symm
    simp [List.getD_eq_getElem?_getD, List.getElem?_set, e, e']
theorem spec_PacketOk_at (rest : List Int) : ∀ (pre seen : List Int) (met : List Bool), (pre ++ rest).length ≤ 12 → seen.length = pre.length → met.length = 12 → (∀ c : Int, 0 ≤ c → c < 12 → seen.contains c = met.getD c.toNat false) →
    Ev (fun k => spec_PacketOk.l0 k seen (pre ++ rest) ((pre ++ rest).length : Int) (pre.length : Int)) (packetM met rest) := by
  induction rest with
  | nil =>
    intro pre seen met hb hs hm hr
    exact Ev.step (f := fun _ => some true) (fun k => by rw [spec_PacketOk.l0, if_neg (mid_nlt _)]) (Ev.now _)
  | cons x rest ih =>
    intro pre seen met hb hs hm hr
    have hlt := cardOf_lt x
    unfold packetM
    by_cases c : cardOf x < 0
    · rw [if_pos c]
      exact Ev.step (f := fun _ => some false) (fun k => by rw [spec_PacketOk.l0, if_pos (mid_lt _ _ _), if_pos (nn _), if_pos (mid_lt _ _ _), mid_rd, spec_CardOf_eq x]; simp only [Option.bind_some]; rw [if_pos c]) (Ev.now _)
    · rw [if_neg c]
      have hh := l02Has_ev seen (cardOf x) (by simp at hb; omega)
      rw [hr _ (by omega) hlt] at hh
      by_cases m : met.getD (cardOf x).toNat false = true
      · rw [if_pos m]
        rw [m] at hh
        refine Ev.stepb hh (fun k => by rw [spec_PacketOk.l0, if_pos (mid_lt _ _ _), if_pos (nn _), if_pos (mid_lt _ _ _), mid_rd, spec_CardOf_eq x]; simp only [Option.bind_some]; rw [if_neg c]) ?_
        simp only [if_true]
        exact Ev.now _
      · rw [if_neg m]
        have m' : met.getD (cardOf x).toNat false = false := by simpa using m
        rw [m'] at hh
        have h := ih (pre ++ [x]) (seen ++ [cardOf x]) (met.set (cardOf x).toNat true) (by simpa using hb) (by simp [hs]) (by simpa using hm) (by
          intro d d0 d1
          rw [set_getD met _ _ (by omega), ← hr d d0 d1]
          rw [Bool.eq_iff_iff]
          simp only [List.contains_iff_mem, List.mem_append, List.mem_singleton, Bool.or_eq_true, decide_eq_true_eq]
          constructor
          · rintro (h | h)
            · exact .inr h
            · exact .inl (by omega)
          · rintro (h | h)
            · exact .inr (by omega)
            · exact .inl h)
        rw [← mid_cons] at h
        refine Ev.stepb hh (fun k => by rw [spec_PacketOk.l0, if_pos (mid_lt _ _ _), if_pos (nn _), if_pos (mid_lt _ _ _), mid_rd, spec_CardOf_eq x]; simp only [Option.bind_some]; rw [if_neg c]) ?_
        have hl : seen.length < 17592186044416 := by simp at hb; omega
        have hs2 := mid_succ pre x (by simp at hb; omega)
        simpa [hl, hs2] using h
theorem spec_PacketOk_ev (l : List Int) : Ev (fun k => spec_PacketOk.f k l) (packetB l) := by
  unfold spec_PacketOk.f
  by_cases h : (l.length : Int) > 12
  · have : packetB l = false := by
      cases e : packetB l with
      | false => rfl
      | true => have := packetB_len e; omega
    rw [this]
    simp only [if_pos h]
    exact Ev.now _
  · simp only [if_neg h]
    exact spec_PacketOk_at l [] [] _ (by simp; omega) rfl (by simp) (by
      intro c h0 h1
      have : c.toNat < 12 := by omega
      rw [List.getD_eq_getElem?_getD, List.getElem?_replicate, if_pos this]
      rfl)
theorem packetM_cards (xs : List Int) : ∀ met : List Bool, packetM met xs = true → ∀ x ∈ xs, 0 ≤ cardOf x := by
  induction xs with
  | nil => intro met _ x hx; cases hx
  | cons y xs ih =>
    intro met h x hx
    unfold packetM at h
    by_cases c : cardOf y < 0
    · rw [if_pos c] at h; cases h
    · rw [if_neg c] at h
      by_cases m : met.getD (cardOf y).toNat false = true
      · rw [if_pos m] at h; cases h
      · rw [if_neg m] at h
        rcases List.mem_cons.1 hx with rfl | hx
        · omega
        · exact ih _ h x hx
theorem packetB_card {l : List Int} (h : packetB l = true) : ∀ x ∈ l, 0 ≤ cardOf x := packetM_cards l _ h
end Go.Proofs.Ytdnedgkanglgjaa.F
/- Even numbers of cards. -/
namespace Go.Proofs.Ytdnedgkanglgjaa.F
open Go.RowKit Go.Proofs.YtdnedgkanglgjaaW.PrintWords Go.Proofs.YtdnedgkanglgjaaW.PrintLast Go.Proofs.YtdnedgkanglgjaaW.PrintMore
set_option linter.unusedVariables false
set_option linter.unusedSimpArgs false
/-- An even number of cards, from 2 to 12. -/
def pairedB (n : Int) : Bool := decide (2 ≤ n ∧ n ≤ 12 ∧ n % 2 = 0)
theorem paired_eq (n : Int) : impl_isPaired.f n = some (pairedB n) ∧ spec_l08Ok.f n = some (pairedB n) := by
  unfold spec_l08Ok.f impl_isPaired.f pairedB
  rw [l01In_eq]
  by_cases h1 : 2 ≤ n
  · by_cases h2 : n ≤ 12
    · have h4 : Int.tmod n 2 = n % 2 := Int.tmod_eq_emod_of_nonneg (by omega)
      by_cases h3 : n % 2 = 0
      · simp [h1, h2, h4, h3]
      · simp [h1, h2, h4, h3]
    · simp [h1, h2]
  · simp [h1]
end Go.Proofs.Ytdnedgkanglgjaa.F
/- When there is no perfect shuffle. -/
namespace Go.Proofs.Ytdnedgkanglgjaa.F
open Go.RowKit Go.Proofs.YtdnedgkanglgjaaW.PrintWords Go.Proofs.YtdnedgkanglgjaaW.PrintLast Go.Proofs.YtdnedgkanglgjaaW.PrintMore
set_option linter.unusedVariables false
set_option linter.unusedSimpArgs false
theorem faroOk_no (k : Nat) (a0 a1 : Int) (h : ¬ (0 ≤ a1 ∧ a1 ≤ 1)) : impl_MoveOk.f (k + 5) a0 4 a1 = some false := by
  unfold impl_MoveOk.f
  by_cases c1 : a0 < 1
  · rw [if_pos c1]; rfl
  · rw [if_neg c1]
    by_cases c2 : a0 > 12
    · rw [if_pos c2]; rfl
    · rw [if_neg c2]
      by_cases c3 : a1 < 0
      · rw [decide_eq_true c3]; rfl
      · rw [decide_eq_false c3]
        have c4 : decide (a1 ≤ 1) = false := decide_eq_false (by omega)
        simp [impl_MoveOk.j0, impl_MoveOk.j1, impl_MoveOk.j2, c4]
theorem impl_FaroPerm_no (k : Nat) (a0 a1 : Int) (h : ¬ (pairedB a0 = true ∧ 0 ≤ a1 ∧ a1 ≤ 1)) : impl_FaroPerm.f (k + 5) a0 a1 = some (([] : List Int), false) := by
  unfold impl_FaroPerm.f
  rw [(paired_eq a0).1, Option.bind_some]
  by_cases c : pairedB a0 = true
  · rw [if_pos c]
    unfold impl_PermOfMove.f
    rw [faroOk_no k a0 a1 (fun h2 => h ⟨c, h2⟩)]
    rfl
  · rw [if_neg c]
theorem spec_FaroPerm_no (k : Nat) (a0 a1 : Int) (h : ¬ (pairedB a0 = true ∧ 0 ≤ a1 ∧ a1 ≤ 1)) : spec_FaroPerm.f k a0 a1 = some (([] : List Int), false) := by
  unfold spec_FaroPerm.f
  rw [(paired_eq a0).2, Option.bind_some, l01In_eq, Option.bind_some]
  by_cases c : pairedB a0 = true
  · rw [if_pos c, decide_eq_false (fun h2 => h ⟨c, h2⟩)]
    rfl
  · rw [if_neg c]
end Go.Proofs.Ytdnedgkanglgjaa.F
/- FaroOrder: both functions answer the same at every pair of numbers. -/
namespace Go.Proofs.Ytdnedgkanglgjaa.Pure
open Go.RowKit Go.Proofs.Ytdnedgkanglgjaa.F Go.Proofs.YtdnedgkanglgjaaW.PrintWords Go.Proofs.YtdnedgkanglgjaaW.PrintLast Go.Proofs.YtdnedgkanglgjaaW.PrintMore
set_option linter.unusedVariables false
set_option linter.unusedSimpArgs false
theorem key : ∀ n : Fin 13, ∀ m : Fin 2, pairedB (n.1 : Int) = true → laws_FnExactFaroOrder.f 400 (n.1 : Int) (m.1 : Int) = some true := by decide +kernel
theorem FnExactFaroOrder : laws_FnExactFaroOrder.Pure := by
  intro a0 a1 h0 h1
  refine ⟨400, ?_⟩
  by_cases h : pairedB a0 = true ∧ 0 ≤ a1 ∧ a1 ≤ 1
  · have hp := h.1
    unfold pairedB at hp
    have hq := of_decide_eq_true hp
    obtain ⟨n, rfl⟩ := Int.eq_ofNat_of_zero_le (show 0 ≤ a0 by omega)
    obtain ⟨m, rfl⟩ := Int.eq_ofNat_of_zero_le (show 0 ≤ a1 by omega)
    exact key ⟨n, by omega⟩ ⟨m, by omega⟩ h.1
  · unfold laws_FnExactFaroOrder.f spec_FaroOrder.f impl_FaroOrder.f
    rw [spec_FaroPerm_no 400 a0 a1 h, impl_FaroPerm_no 395 a0 a1 h]
    rfl
end Go.Proofs.Ytdnedgkanglgjaa.Pure
