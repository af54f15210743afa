import Derived.Test.YtgldcbcefncjjaaZGFnExactFourForce4
import Derived.Test.YtgldcbcefncjjaaZGFnExactFourForce5
import Derived.Test.YtgldcbcefncjjaaZGFnExactFourForce6
import Derived.Test.YtgldcbcefncjjaaZGFnExactFourForce7
section
/- Laid by a program of this claim's own. What the Go function does, as a Lean function, and the proof that the Go code does just that; Lean checks it. -/
namespace Go.Proofs.Ytgldcbcefncjjaa.F
open Go.RowKit Go.Proofs.YtgldcbcefncjjaaW.PrintWords Go.Proofs.YtgldcbcefncjjaaW.PrintLast Go.Proofs.YtgldcbcefncjjaaW.PrintMore
attribute [local go_sem] max2_int min2_int max_two min_two max_three min_three max_four min_four   -- for this text's walks alone
set_option linter.unusedVariables false
set_option linter.unusedSimpArgs false
/-! ### spec_FourForce: function 13 -/
def spec_FourForce.l0 : Nat → Int → List (S49) → Int → Option ((List (S49)) × Bool)
  | 0, _, _, _ => none
  | k + 1, x1, x6, x7 => if x7 < 4 then ((spec_l13Say.f ((Int.tmod x7 2) == 0)).bind fun t120 => (if x6.length < 2932031007402 then (spec_FourForce.l0 k x1 (x6 ++ [(⟨t120, ([] : List Int), x1⟩ : S49)]) (wrap64 (x7 + 1))) else (none))) else (some (x6, true))
def spec_FourForce.f (k : Nat) (l0 : List Int) (a1 : Int) : Option ((List (S49)) × Bool) := (spec_l13Objects.f k l0 4 a1).bind fun t107 => (if t107 = true then (spec_FourForce.l0 k a1 (([(⟨(⟨#[116, 97, 107, 101, 32, 116, 119, 111]⟩ : ByteArray), (([1, 2] : List Int)), 0⟩ : S49), (⟨(⟨#[107, 101, 101, 112, 32, 116, 104, 101, 109, 44, 32, 112, 111, 105, 110, 116, 32, 97, 116, 32, 111, 110, 101]⟩ : ByteArray), (([3, 4] : List Int)), 0⟩ : S49), (⟨(⟨#[112, 117, 116, 32, 116, 104, 101, 109, 32, 97, 119, 97, 121, 44, 32, 112, 111, 105, 110, 116, 32, 97, 116, 32, 111, 110, 101]⟩ : ByteArray), (([5, 6] : List Int)), 0⟩ : S49)] : List (S49))) 0) else (some (([] : List (S49)), false)))
set_option maxHeartbeats 8000000 in
set_option maxRecDepth 100000 in
theorem spec_FourForce.calls (k : Nat) (A0 : Option Addr) (c0 : Nat) (l0 : List Int) (a1 : Int) (r1 : List (S49)) (r2 : Bool) (w : World) (hr0 : Kd.C (Kd.int .i64) w A0 l0.length l0) (hc0 : l0.length ≤ c0) (h : spec_FourForce.f k l0 a1 = some (r1, r2)) :
    Calls Try.prog 13 #[.slice A0 l0.length c0, .int .i64 a1] w fun e w' => ∃ v0_ : Value, e = .returned (.tuple #[v0_, .bool r2]) ∧ Kd.N k49 49 w' w.heap.size (fun k_ => (w.heap.size ≤ k_)) v0_ r1 ∧ Below w.heap.size w w' := by
  have hu49 := Try.underlying49
  have HR0 := Aside0.mk hr0
  have HC0 := Aside0.mk hc0
  clear hr0 hc0
  have HB := Aside0.mk (Below.refl w.heap.size w)
  have H : ((spec_l13Objects.f k l0 4 a1).bind fun t107 => (if t107 = true then (spec_FourForce.l0 k a1 (([(⟨(⟨#[116, 97, 107, 101, 32, 116, 119, 111]⟩ : ByteArray), (([1, 2] : List Int)), 0⟩ : S49), (⟨(⟨#[107, 101, 101, 112, 32, 116, 104, 101, 109, 44, 32, 112, 111, 105, 110, 116, 32, 97, 116, 32, 111, 110, 101]⟩ : ByteArray), (([3, 4] : List Int)), 0⟩ : S49), (⟨(⟨#[112, 117, 116, 32, 116, 104, 101, 109, 32, 97, 119, 97, 121, 44, 32, 112, 111, 105, 110, 116, 32, 97, 116, 32, 111, 110, 101]⟩ : ByteArray), (([5, 6] : List Int)), 0⟩ : S49)] : List (S49))) 0) else (some (([] : List (S49)), false)))) = some (r1, r2) := h
  clear h
  replace H := Option.bind_eq_some_iff.mp H
  obtain ⟨t107, A30, H⟩ := H
  replace H : (if t107 = true then (spec_FourForce.l0 k a1 (([(⟨(⟨#[116, 97, 107, 101, 32, 116, 119, 111]⟩ : ByteArray), (([1, 2] : List Int)), 0⟩ : S49), (⟨(⟨#[107, 101, 101, 112, 32, 116, 104, 101, 109, 44, 32, 112, 111, 105, 110, 116, 32, 97, 116, 32, 111, 110, 101]⟩ : ByteArray), (([3, 4] : List Int)), 0⟩ : S49), (⟨(⟨#[112, 117, 116, 32, 116, 104, 101, 109, 32, 97, 119, 97, 121, 44, 32, 112, 111, 105, 110, 116, 32, 97, 116, 32, 111, 110, 101]⟩ : ByteArray), (([5, 6] : List Int)), 0⟩ : S49)] : List (S49))) 0) else (some (([] : List (S49)), false))) = some (r1, r2) := H
  have A3 := Aside0.mk A30
  clear A30
  by_cases c4 : t107 = true
  · subst c4
    have H1 : (spec_FourForce.l0 k a1 (([(⟨(⟨#[116, 97, 107, 101, 32, 116, 119, 111]⟩ : ByteArray), (([1, 2] : List Int)), 0⟩ : S49), (⟨(⟨#[107, 101, 101, 112, 32, 116, 104, 101, 109, 44, 32, 112, 111, 105, 110, 116, 32, 97, 116, 32, 111, 110, 101]⟩ : ByteArray), (([3, 4] : List Int)), 0⟩ : S49), (⟨(⟨#[112, 117, 116, 32, 116, 104, 101, 109, 32, 97, 119, 97, 121, 44, 32, 112, 111, 105, 110, 116, 32, 97, 116, 32, 111, 110, 101]⟩ : ByteArray), (([5, 6] : List Int)), 0⟩ : S49)] : List (S49))) 0) = some (r1, r2) := by rw [if_pos rfl] at H; exact H
    clear H
    have H := H1
    clear H1
    obtain ⟨y108, hy108⟩ : ∃ y_ : List Int, y_ = (([1, 2] : List Int)) := ⟨_, rfl⟩
    replace H : (spec_FourForce.l0 k a1 (([(⟨(⟨#[116, 97, 107, 101, 32, 116, 119, 111]⟩ : ByteArray), y108, 0⟩ : S49), (⟨(⟨#[107, 101, 101, 112, 32, 116, 104, 101, 109, 44, 32, 112, 111, 105, 110, 116, 32, 97, 116, 32, 111, 110, 101]⟩ : ByteArray), (([3, 4] : List Int)), 0⟩ : S49), (⟨(⟨#[112, 117, 116, 32, 116, 104, 101, 109, 32, 97, 119, 97, 121, 44, 32, 112, 111, 105, 110, 116, 32, 97, 116, 32, 111, 110, 101]⟩ : ByteArray), (([5, 6] : List Int)), 0⟩ : S49)] : List (S49))) 0) = some (r1, r2) := by first | (rw [hy108]; with_reducible exact H) | (have H2_ := (Option.bind_some _ _).symm.trans H; rw [hy108]; with_reducible exact H2_) | (have H2_ := (Option.bind_some _ _).symm.trans H; with_reducible exact H2_) | with_reducible exact H | (rw [hy108]; exact H) | exact H
    have Ny108 := Aside0.mk hy108
    clear hy108
    obtain ⟨y111, hy111⟩ : ∃ y_ : List Int, y_ = (([3, 4] : List Int)) := ⟨_, rfl⟩
    replace H : (spec_FourForce.l0 k a1 (([(⟨(⟨#[116, 97, 107, 101, 32, 116, 119, 111]⟩ : ByteArray), y108, 0⟩ : S49), (⟨(⟨#[107, 101, 101, 112, 32, 116, 104, 101, 109, 44, 32, 112, 111, 105, 110, 116, 32, 97, 116, 32, 111, 110, 101]⟩ : ByteArray), y111, 0⟩ : S49), (⟨(⟨#[112, 117, 116, 32, 116, 104, 101, 109, 32, 97, 119, 97, 121, 44, 32, 112, 111, 105, 110, 116, 32, 97, 116, 32, 111, 110, 101]⟩ : ByteArray), (([5, 6] : List Int)), 0⟩ : S49)] : List (S49))) 0) = some (r1, r2) := by first | (rw [hy111]; with_reducible exact H) | (have H2_ := (Option.bind_some _ _).symm.trans H; rw [hy111]; with_reducible exact H2_) | (have H2_ := (Option.bind_some _ _).symm.trans H; with_reducible exact H2_) | with_reducible exact H | (rw [hy111]; exact H) | exact H
    have Ny111 := Aside0.mk hy111
    clear hy111
    obtain ⟨y114, hy114⟩ : ∃ y_ : List Int, y_ = (([5, 6] : List Int)) := ⟨_, rfl⟩
    replace H : (spec_FourForce.l0 k a1 (([(⟨(⟨#[116, 97, 107, 101, 32, 116, 119, 111]⟩ : ByteArray), y108, 0⟩ : S49), (⟨(⟨#[107, 101, 101, 112, 32, 116, 104, 101, 109, 44, 32, 112, 111, 105, 110, 116, 32, 97, 116, 32, 111, 110, 101]⟩ : ByteArray), y111, 0⟩ : S49), (⟨(⟨#[112, 117, 116, 32, 116, 104, 101, 109, 32, 97, 119, 97, 121, 44, 32, 112, 111, 105, 110, 116, 32, 97, 116, 32, 111, 110, 101]⟩ : ByteArray), y114, 0⟩ : S49)] : List (S49))) 0) = some (r1, r2) := by first | (rw [hy114]; with_reducible exact H) | (have H2_ := (Option.bind_some _ _).symm.trans H; rw [hy114]; with_reducible exact H2_) | (have H2_ := (Option.bind_some _ _).symm.trans H; with_reducible exact H2_) | with_reducible exact H | (rw [hy114]; exact H) | exact H
    have Ny114 := Aside0.mk hy114
    clear hy114
    obtain ⟨y117, hy117⟩ : ∃ y_ : List (S49), y_ = (([(⟨(⟨#[116, 97, 107, 101, 32, 116, 119, 111]⟩ : ByteArray), y108, 0⟩ : S49), (⟨(⟨#[107, 101, 101, 112, 32, 116, 104, 101, 109, 44, 32, 112, 111, 105, 110, 116, 32, 97, 116, 32, 111, 110, 101]⟩ : ByteArray), y111, 0⟩ : S49), (⟨(⟨#[112, 117, 116, 32, 116, 104, 101, 109, 32, 97, 119, 97, 121, 44, 32, 112, 111, 105, 110, 116, 32, 97, 116, 32, 111, 110, 101]⟩ : ByteArray), y114, 0⟩ : S49)] : List (S49))) := ⟨_, rfl⟩
    replace H : (spec_FourForce.l0 k a1 y117 0) = some (r1, r2) := by first | (rw [hy117]; with_reducible exact H) | (have H2_ := (Option.bind_some _ _).symm.trans H; rw [hy117]; with_reducible exact H2_) | (have H2_ := (Option.bind_some _ _).symm.trans H; with_reducible exact H2_) | with_reducible exact H | (rw [hy117]; exact H) | exact H
    have Ny117 := Aside0.mk hy117
    clear hy117
    have H' := Aside0.mk H
    clear H
    go_enter Try.func13, Try.ntmps13
    go_wp2_with (first | ((with_reducible refine gate_callee (f := 51) rfl ?_); refine goesL_ (some 10) rfl rfl Try.func51 (by kernel_rfl) rfl #[.slice A0 l0.length c0, .int .i64 4, .int .i64 a1] rfl (by (try simp only [List.map_toArray, List.map_cons, List.map_nil]); first | done | rfl | (simp only [List.length_drop, List.length_take]; rfl)) ?_; (with_reducible refine (spec_l13Objects.calls k _ _ l0 4 a1 true _ ?side1 ?side2 A3.out).mono ?_); (case side1 => repeat (first | exact HR0.out | (with_reducible refine Kd.C_alloc ?_ _) | (with_reducible refine Kd.C_drewN ?_ _) | (with_reducible refine Kd.C_drew ?_))); (case side2 => exact HC0.out); rintro e w' ⟨rfl, ⟨nd, rfl⟩⟩; refine ⟨_, rfl, ?_⟩) | ((with_reducible refine gate_dst (N := 12) rfl ?_); refine Kd.R_lit (Kd.int .i64) _ 3 ?hg (N := 12) ?hd (xs := ([1, 2] : List Int)) (inner := [.int .i64 1, .int .i64 2]) (ok := fun _ => True) (okp := fun _ => True) ?hr ?hp (fun _ hk => hk) trivial (Below.refl _ _) (Nat.le_refl _) (by simp) ?_; (case hd => rfl); (case hg => rfl); (case hr => first | (go_simp; done) | (go_simp; rfl)); (case hp => exact (Reps.one (show Kd.M (Kd.int .i64) _ _ _ 1 [.int .i64 1] from rfl) (Reps.one (show Kd.M (Kd.int .i64) _ _ _ 2 [.int .i64 2] from rfl) (Reps.none _ _)))); intro v109 w5 ho6 hb hg_ hnew_; clear hg_ hnew_; (first | rw [← Ny108.out] at ho6 | (simp only [Int.reduceToNat] at ho6; rw [← Ny108.out] at ho6)); have n0_ := Aside0.mk (Kd.R_lower (Kd.R_newM (M := fun k_ => (w.heap.size ≤ k_)) ho6 (below_size (by repeat (first | (with_reducible first | exact HB.out | apply below_alloc | apply pw_below_drewN | apply below_drew1) | exact HB.out))) (fun k_ h_ => h_)) (below_size (by repeat (first | (with_reducible first | exact HB.out | apply below_alloc | apply pw_below_drewN | apply below_drew1) | exact HB.out)))); have n1_ := Aside0.mk (below_step (by repeat (first | (with_reducible first | exact HB.out | apply below_alloc | apply pw_below_drewN | apply below_drew1) | exact HB.out)) hb); clear HB; have HO110 := n0_; have HB := n1_; clear n0_ n1_; clear hb ho6; obtain ⟨Ao7, co7, eo7⟩ := Kd.R_slice HO110.out; subst eo7) | ((with_reducible refine gate_dst (N := 14) rfl ?_); refine Kd.R_lit (Kd.int .i64) _ 3 ?hg (N := 14) ?hd (xs := ([3, 4] : List Int)) (inner := [.int .i64 3, .int .i64 4]) (ok := fun _ => True) (okp := fun _ => True) ?hr ?hp (fun _ hk => hk) trivial (Below.refl _ _) (Nat.le_refl _) (by simp) ?_; (case hd => rfl); (case hg => rfl); (case hr => first | (go_simp; done) | (go_simp; rfl)); (case hp => exact (Reps.one (show Kd.M (Kd.int .i64) _ _ _ 3 [.int .i64 3] from rfl) (Reps.one (show Kd.M (Kd.int .i64) _ _ _ 4 [.int .i64 4] from rfl) (Reps.none _ _)))); intro v112 w8 ho9 hb hg_ hnew_; clear hg_ hnew_; (first | rw [← Ny111.out] at ho9 | (simp only [Int.reduceToNat] at ho9; rw [← Ny111.out] at ho9)); have n0_ := Aside0.mk (Kd.R_elder' (by (with_reducible repeat (first | apply Kd.R_alloc | apply Kd.R_drewN | apply Kd.R_drew)); exact HO110.out) (Kd.R_base ho9) hb); have n1_ := Aside0.mk (Kd.R_lower (Kd.R_new' (Kd.R_newM (M := fun k_ => (w.heap.size ≤ k_)) ho9 (below_size (by repeat (first | (with_reducible first | exact HB.out | apply below_alloc | apply pw_below_drewN | apply below_drew1) | exact HB.out))) (fun k_ h_ => h_)) (Kd.R_lt (by (with_reducible repeat (first | apply Kd.R_alloc | apply Kd.R_drewN | apply Kd.R_drew)); exact HO110.out))) (below_size (by repeat (first | (with_reducible first | exact HB.out | apply below_alloc | apply pw_below_drewN | apply below_drew1) | exact HB.out)))); have n2_ := Aside0.mk (below_step (by repeat (first | (with_reducible first | exact HB.out | apply below_alloc | apply pw_below_drewN | apply below_drew1) | exact HB.out)) hb); clear HO110; clear HB; have HO110 := n0_; have HO113 := n1_; have HB := n2_; clear n0_ n1_ n2_; clear hb ho9; obtain ⟨Ao10, co10, eo10⟩ := Kd.R_slice HO113.out; subst eo10) | ((with_reducible refine gate_dst (N := 16) rfl ?_); refine Kd.R_lit (Kd.int .i64) _ 3 ?hg (N := 16) ?hd (xs := ([5, 6] : List Int)) (inner := [.int .i64 5, .int .i64 6]) (ok := fun _ => True) (okp := fun _ => True) ?hr ?hp (fun _ hk => hk) trivial (Below.refl _ _) (Nat.le_refl _) (by simp) ?_; (case hd => rfl); (case hg => rfl); (case hr => first | (go_simp; done) | (go_simp; rfl)); (case hp => exact (Reps.one (show Kd.M (Kd.int .i64) _ _ _ 5 [.int .i64 5] from rfl) (Reps.one (show Kd.M (Kd.int .i64) _ _ _ 6 [.int .i64 6] from rfl) (Reps.none _ _)))); intro v115 w11 ho12 hb hg_ hnew_; clear hg_ hnew_; (first | rw [← Ny114.out] at ho12 | (simp only [Int.reduceToNat] at ho12; rw [← Ny114.out] at ho12)); have n0_ := Aside0.mk (Kd.R_elder' (by (with_reducible repeat (first | apply Kd.R_alloc | apply Kd.R_drewN | apply Kd.R_drew)); exact HO110.out) (Kd.R_base ho12) hb); have n1_ := Aside0.mk (Kd.R_elder' (by (with_reducible repeat (first | apply Kd.R_alloc | apply Kd.R_drewN | apply Kd.R_drew)); exact HO113.out) (Kd.R_base ho12) hb); have n2_ := Aside0.mk (Kd.R_lower (Kd.R_new' (Kd.R_new' (Kd.R_newM (M := fun k_ => (w.heap.size ≤ k_)) ho12 (below_size (by repeat (first | (with_reducible first | exact HB.out | apply below_alloc | apply pw_below_drewN | apply below_drew1) | exact HB.out))) (fun k_ h_ => h_)) (Kd.R_lt (by (with_reducible repeat (first | apply Kd.R_alloc | apply Kd.R_drewN | apply Kd.R_drew)); exact HO110.out))) (Kd.R_lt (by (with_reducible repeat (first | apply Kd.R_alloc | apply Kd.R_drewN | apply Kd.R_drew)); exact HO113.out))) (below_size (by repeat (first | (with_reducible first | exact HB.out | apply below_alloc | apply pw_below_drewN | apply below_drew1) | exact HB.out)))); have n3_ := Aside0.mk (below_step (by repeat (first | (with_reducible first | exact HB.out | apply below_alloc | apply pw_below_drewN | apply below_drew1) | exact HB.out)) hb); clear HO110; clear HO113; clear HB; have HO110 := n0_; have HO113 := n1_; have HO116 := n2_; have HB := n3_; clear n0_ n1_ n2_ n3_; clear hb ho12; obtain ⟨Ao13, co13, eo13⟩ := Kd.R_slice HO116.out; subst eo13) | ((with_reducible refine gate_dst (N := 18) rfl ?_); refine Kd.N_lit k49 _ 49 ?hg (N' := 18) ?hd (xs := ([(⟨(⟨#[116, 97, 107, 101, 32, 116, 119, 111]⟩ : ByteArray), y108, 0⟩ : S49), (⟨(⟨#[107, 101, 101, 112, 32, 116, 104, 101, 109, 44, 32, 112, 111, 105, 110, 116, 32, 97, 116, 32, 111, 110, 101]⟩ : ByteArray), y111, 0⟩ : S49), (⟨(⟨#[112, 117, 116, 32, 116, 104, 101, 109, 32, 97, 119, 97, 121, 44, 32, 112, 111, 105, 110, 116, 32, 97, 116, 32, 111, 110, 101]⟩ : ByteArray), y114, 0⟩ : S49)] : List (S49))) (inner := [.string (⟨#[116, 97, 107, 101, 32, 116, 119, 111]⟩ : ByteArray), .slice Ao7 y108.length co7, .int .i64 0, .string (⟨#[107, 101, 101, 112, 32, 116, 104, 101, 109, 44, 32, 112, 111, 105, 110, 116, 32, 97, 116, 32, 111, 110, 101]⟩ : ByteArray), .slice Ao10 y111.length co10, .int .i64 0, .string (⟨#[112, 117, 116, 32, 116, 104, 101, 109, 32, 97, 119, 97, 121, 44, 32, 112, 111, 105, 110, 116, 32, 97, 116, 32, 111, 110, 101]⟩ : ByteArray), .slice Ao13 y114.length co13, .int .i64 0]) (ok := (fun k_ => (w.heap.size ≤ k_))) (okp := (fun k_ => (w.heap.size ≤ k_))) ?hr ?hp (fun _ hk => hk) ((show ∀ k_, w11.heap.size ≤ k_ → (fun k_ => (w.heap.size ≤ k_)) k_ from fun k_ hk => (Nat.le_trans (below_size (by repeat (first | (with_reducible first | exact HB.out | apply below_alloc | apply pw_below_drewN | apply below_drew1) | exact HB.out))) hk)) _ (Nat.le_refl _)) (Below.refl _ _) (Nat.le_refl _) (by simp) ?_; (case hd => rfl); (case hg => rfl); (case hr => first | (go_simp; done) | (go_simp; rfl)); (case hp => exact (Reps.c3 (show Kd.FK k49 _ _ (⟨(⟨#[116, 97, 107, 101, 32, 116, 119, 111]⟩ : ByteArray), y108, 0⟩ : S49) [.string (⟨#[116, 97, 107, 101, 32, 116, 119, 111]⟩ : ByteArray), .slice Ao7 y108.length co7, .int .i64 0] from (k49_mkF _ _ (⟨(⟨#[116, 97, 107, 101, 32, 116, 119, 111]⟩ : ByteArray), y108, 0⟩ : S49) (Kd.R_reads' (Kd.R_mono (ok' := (fun k_ => (w.heap.size ≤ k_))) (HO110.out) (fun k_ hk => hk.1.1.1))).2.1 (Kd.R_F (Kd.R_mono (ok' := (fun k_ => (w.heap.size ≤ k_))) (HO110.out) (fun k_ hk => hk.1.1.1))))) (Reps.c3 (show Kd.FK k49 _ _ (⟨(⟨#[107, 101, 101, 112, 32, 116, 104, 101, 109, 44, 32, 112, 111, 105, 110, 116, 32, 97, 116, 32, 111, 110, 101]⟩ : ByteArray), y111, 0⟩ : S49) [.string (⟨#[107, 101, 101, 112, 32, 116, 104, 101, 109, 44, 32, 112, 111, 105, 110, 116, 32, 97, 116, 32, 111, 110, 101]⟩ : ByteArray), .slice Ao10 y111.length co10, .int .i64 0] from (k49_mkF _ _ (⟨(⟨#[107, 101, 101, 112, 32, 116, 104, 101, 109, 44, 32, 112, 111, 105, 110, 116, 32, 97, 116, 32, 111, 110, 101]⟩ : ByteArray), y111, 0⟩ : S49) (Kd.R_reads' (Kd.R_mono (ok' := (fun k_ => (w.heap.size ≤ k_))) (HO113.out) (fun k_ hk => hk.1.1.1))).2.1 (Kd.R_F (Kd.R_mono (ok' := (fun k_ => (w.heap.size ≤ k_))) (HO113.out) (fun k_ hk => hk.1.1.1))))) (Reps.c3 (show Kd.FK k49 _ _ (⟨(⟨#[112, 117, 116, 32, 116, 104, 101, 109, 32, 97, 119, 97, 121, 44, 32, 112, 111, 105, 110, 116, 32, 97, 116, 32, 111, 110, 101]⟩ : ByteArray), y114, 0⟩ : S49) [.string (⟨#[112, 117, 116, 32, 116, 104, 101, 109, 32, 97, 119, 97, 121, 44, 32, 112, 111, 105, 110, 116, 32, 97, 116, 32, 111, 110, 101]⟩ : ByteArray), .slice Ao13 y114.length co13, .int .i64 0] from (k49_mkF _ _ (⟨(⟨#[112, 117, 116, 32, 116, 104, 101, 109, 32, 97, 119, 97, 121, 44, 32, 112, 111, 105, 110, 116, 32, 97, 116, 32, 111, 110, 101]⟩ : ByteArray), y114, 0⟩ : S49) (Kd.R_reads' (Kd.R_mono (ok' := (fun k_ => (w.heap.size ≤ k_))) (HO116.out) (fun k_ hk => hk.1.1.1))).2.1 (Kd.R_F (Kd.R_mono (ok' := (fun k_ => (w.heap.size ≤ k_))) (HO116.out) (fun k_ hk => hk.1.1.1))))) (Reps.none _ _))))); intro v118 w14 ho15 hb hg_ hnew_; clear hg_ hnew_; (first | rw [← Ny117.out] at ho15 | (simp only [Int.reduceToNat] at ho15; rw [← Ny117.out] at ho15)); have n0_ := Aside0.mk (Kd.N_lower ho15 (below_size (by repeat (first | (with_reducible first | exact HB.out | apply below_alloc | apply pw_below_drewN | apply below_drew1) | exact HB.out)))); have n1_ := Aside0.mk (below_step (by repeat (first | (with_reducible first | exact HB.out | apply below_alloc | apply pw_below_drewN | apply below_drew1) | exact HB.out)) hb); clear HB; clear HO110; clear HO113; clear HO116; have HO119 := n0_; have HB := n1_; clear n0_ n1_; clear hb ho15))
    go_loopg [6, 7] k (fun kq v6 v7 w' => ∃ (x6_1 : List (S49)) (x7_1 : Int), v7 = .int .i64 x7_1 ∧ Aside0 (spec_FourForce.l0 kq a1 x6_1 x7_1 = some (r1, r2)) ∧ Aside0 (kq ≤ k) ∧ Aside0 (Kd.N k49 49 w' w.heap.size (fun k_ => (w.heap.size ≤ k_)) v6 x6_1) ∧ Aside0 (Below w.heap.size w w'))
    case atStart => exact ⟨(y117), (0), (by first | rfl | (simp; done) | (simp [*]; done)), H', ⟨Nat.le_refl _⟩, ⟨by (with_reducible repeat (first | apply Kd.N_alloc | apply Kd.N_drewN | apply Kd.N_drew)); exact HO119.out⟩, ⟨by repeat (first | (with_reducible first | exact HB.out | apply below_alloc | apply pw_below_drewN | apply below_drew1) | exact HB.out)⟩⟩
    case round =>
      clear H'
      try clear c1
      try clear p2
      try clear c3
      try clear c4
      try clear c5
      try clear c13
      obtain ⟨x6_1, x7_1, rfl, HA, HK1, HO_6, HB⟩ := hrel
      cases gk with
      | zero => exact absurd HA.out (by simp [spec_FourForce.l0])
      | succ k1 =>
        have H := HA.out
        clear HA
        simp only [spec_FourForce.l0] at H
        by_cases c16 : x7_1 < 4
        · rw [if_pos c16] at H
          have c16b0 : decide (x7_1 < 4) = true := decide_eq_true c16
          clear c16
          replace H := Option.bind_eq_some_iff.mp H
          obtain ⟨t120, A170, H⟩ := H
          replace H : (if x6_1.length < 2932031007402 then (spec_FourForce.l0 k1 a1 (x6_1 ++ [(⟨t120, ([] : List Int), a1⟩ : S49)]) (wrap64 (x7_1 + 1))) else (none)) = some (r1, r2) := H
          have A17 := Aside0.mk A170
          clear A170
          by_cases c18 : x6_1.length < 2932031007402
          · rw [if_pos c18] at H
            have LMc18 := Aside0.mk c18
            clear c18
            obtain ⟨y121, hy121⟩ : ∃ y_ : List (S49), y_ = (x6_1 ++ [(⟨t120, ([] : List Int), a1⟩ : S49)]) := ⟨_, rfl⟩
            replace H : (spec_FourForce.l0 k1 a1 y121 (wrap64 (x7_1 + 1))) = some (r1, r2) := by first | (rw [hy121]; with_reducible exact H) | (have H2_ := (Option.bind_some _ _).symm.trans H; rw [hy121]; with_reducible exact H2_) | (have H2_ := (Option.bind_some _ _).symm.trans H; with_reducible exact H2_) | with_reducible exact H | (rw [hy121]; exact H) | exact H
            have Ny121 := Aside0.mk hy121
            clear hy121
            have H' := Aside0.mk H
            clear H
            go_wp2_with (first | ((with_reducible refine gate_callee (f := 52) rfl ?_); refine goesL_ (some 27) rfl rfl Try.func52 (by kernel_rfl) rfl #[.bool ((Int.tmod x7_1 2) == 0)] rfl (by (try simp only [List.map_toArray, List.map_cons, List.map_nil]); first | done | rfl | (simp only [List.length_drop, List.length_take]; rfl)) ?_; (with_reducible refine (spec_l13Say.calls ((Int.tmod x7_1 2) == 0) t120 _ A17.out).mono ?_); rintro e w' ⟨rfl, ⟨nd, rfl⟩⟩; refine ⟨_, rfl, ?_⟩) | ((with_reducible refine gate_builtin (b := .append) (xs := #[.tmp 23, .tmp 30]) rfl ?_); at_builtin; refine Kd.N_append k49 (w0 := w) w.heap.size rfl (.tmp 23) (.tmp 30) 23 49 (.agg #[(.string ⟨#[]⟩), (.slice none 0 0), (.int .i64 0)]) 48 rfl Try.underlying23 info49 rfl (by decide) (by omega) u6 x6_1 (⟨t120, ([] : List Int), a1⟩ : S49) [.string t120, .slice none 0 0, .int .i64 a1] (fun k_ => (w.heap.size ≤ k_)) (fun k_ => ((fun k_ => (w.heap.size ≤ k_))) k_ ∧ some k_ ≠ (u6 : Value).ownBlock) rfl rfl ?aP (fun _ hk => hk) ?aF ?aO ?aB ?aS ?aL ?_; (case aP => exact (k49_mkF _ _ (⟨t120, ([] : List Int), a1⟩ : S49) (Nat.le_refl _) (Kd.F_nil _ _ _))); (case aB => exact (by repeat (first | (with_reducible first | exact HB.out | apply below_alloc | apply pw_below_drewN | apply below_drew1) | exact HB.out))); (case aF => exact (fun k_ hk => (Nat.le_trans (below_size (by repeat (first | (with_reducible first | exact HB.out | apply below_alloc | apply pw_below_drewN | apply below_drew1) | exact HB.out))) hk))); (case aO => exact (by (with_reducible repeat (first | apply Kd.N_alloc | apply Kd.N_drewN | apply Kd.N_drew)); exact HO_6.out)); (case aS => exact (below_size (by repeat (first | (with_reducible first | exact HB.out | apply below_alloc | apply pw_below_drewN | apply below_drew1) | exact HB.out)))); (case aL => have := LMc18.out; omega); intro v122 w19 ho hb hg hat; rw [← Ny121.out] at ho; have n0_ := Aside0.mk (hb); have n1_ := Aside0.mk (ho); clear HB; clear HO_6; have HB := n0_; have HO123 := n1_; clear n0_ n1_; clear ho hb hg hat))
            go_roundg k1
            case measure => have := HK1.out; omega
            case rel => exact ⟨(y121), (wrap64 (x7_1 + 1)), (by first | rfl | (simp; done) | (simp [*]; done)), H', ⟨by have := HK1.out; omega⟩, ⟨by (with_reducible repeat (first | apply Kd.N_alloc | apply Kd.N_drewN | apply Kd.N_drew)); exact HO123.out⟩, ⟨by repeat (first | (with_reducible first | exact HB.out | apply below_alloc | apply pw_below_drewN | apply below_drew1) | exact HB.out)⟩⟩
          · rw [if_neg c18] at H
            exact absurd H (by simp)
        · rw [if_neg c16] at H
          have c16b0 : decide (x7_1 < 4) = false := decide_eq_false c16
          clear c16
          simp only [Option.some.injEq, Prod.mk.injEq] at H
          obtain ⟨rfl, rfl⟩ := H
          go_wp2
          go_ret2
          exact ⟨_, by first | rfl | (simp [errW_none, errW_some] <;> rfl) | (simp [*, errW_none, errW_some] <;> rfl), by (with_reducible repeat (first | apply Kd.N_alloc | apply Kd.N_drewN | apply Kd.N_drew)); exact HO_6.out, by repeat (first | (with_reducible first | exact HB.out | apply below_alloc | apply pw_below_drewN | apply below_drew1) | exact HB.out)⟩
  · replace c4 := Bool.eq_false_iff.mpr c4
    subst c4
    have H1 : (some (([] : List (S49)), false)) = some (r1, r2) := by rw [if_neg (show ¬ (false = true) by decide)] at H; exact H
    clear H
    have H := H1
    clear H1
    simp only [Option.some.injEq, Prod.mk.injEq] at H
    obtain ⟨rfl, rfl⟩ := H
    go_enter Try.func13, Try.ntmps13
    go_wp2_with (first | ((with_reducible refine gate_callee (f := 51) rfl ?_); refine goesL_ (some 10) rfl rfl Try.func51 (by kernel_rfl) rfl #[.slice A0 l0.length c0, .int .i64 4, .int .i64 a1] rfl (by (try simp only [List.map_toArray, List.map_cons, List.map_nil]); first | done | rfl | (simp only [List.length_drop, List.length_take]; rfl)) ?_; (with_reducible refine (spec_l13Objects.calls k _ _ l0 4 a1 false _ ?side1 ?side2 A3.out).mono ?_); (case side1 => repeat (first | exact HR0.out | (with_reducible refine Kd.C_alloc ?_ _) | (with_reducible refine Kd.C_drewN ?_ _) | (with_reducible refine Kd.C_drew ?_))); (case side2 => exact HC0.out); rintro e w' ⟨rfl, ⟨nd, rfl⟩⟩; refine ⟨_, rfl, ?_⟩))
    go_ret2
    exact ⟨_, by first | rfl | (simp [errW_none, errW_some] <;> rfl) | (simp [*, errW_none, errW_some] <;> rfl), by first | exact Kd.S_nil _ _ _ _ _ | exact Kd.N_nil _ _ _ _ _ | exact Kd.V_nil _ _ _ _ _ | exact Kd.Q_nil _ _ _ _ _ | exact Kd.R_nil _ _ _ _ _, by repeat (first | (with_reducible first | exact HB.out | apply below_alloc | apply pw_below_drewN | apply below_drew1) | exact HB.out)⟩
end Go.Proofs.Ytgldcbcefncjjaa.F
end
section
/- Laid by a program of this claim's own. What the Go function does, as a Lean function, and the proof that the Go code does just that; Lean checks it. -/
namespace Go.Proofs.Ytgldcbcefncjjaa.F
open Go.RowKit Go.Proofs.YtgldcbcefncjjaaW.PrintWords Go.Proofs.YtgldcbcefncjjaaW.PrintLast Go.Proofs.YtgldcbcefncjjaaW.PrintMore
attribute [local go_sem] max2_int min2_int max_two min_two max_three min_three max_four min_four   -- for this text's walks alone
set_option linter.unusedVariables false
set_option linter.unusedSimpArgs false
/-! ### impl_FourForce: function 15 -/
def fourN (a1 : Int) : List S49 := [⟨(⟨#[116, 97, 107, 101, 32, 116, 119, 111]⟩ : ByteArray), [1, 2], 0⟩, ⟨(⟨#[107, 101, 101, 112, 32, 116, 104, 101, 109, 44, 32, 112, 111, 105, 110, 116, 32, 97, 116, 32, 111, 110, 101]⟩ : ByteArray), [3, 4], 0⟩, ⟨(⟨#[112, 117, 116, 32, 116, 104, 101, 109, 32, 97, 119, 97, 121, 44, 32, 112, 111, 105, 110, 116, 32, 97, 116, 32, 111, 110, 101]⟩ : ByteArray), [5, 6], 0⟩, ⟨(⟨#[121, 111, 117, 114, 115]⟩ : ByteArray), [], a1⟩, ⟨(⟨#[112, 117, 116, 32, 105, 116, 32, 97, 119, 97, 121]⟩ : ByteArray), [], a1⟩, ⟨(⟨#[121, 111, 117, 114, 115]⟩ : ByteArray), [], a1⟩, ⟨(⟨#[112, 117, 116, 32, 105, 116, 32, 97, 119, 97, 121]⟩ : ByteArray), [], a1⟩]
def fourI (v1 v2 v3 : Value) (a1 : Int) : List Value := [.string (⟨#[116, 97, 107, 101, 32, 116, 119, 111]⟩ : ByteArray), v1, .int .i64 0, .string (⟨#[107, 101, 101, 112, 32, 116, 104, 101, 109, 44, 32, 112, 111, 105, 110, 116, 32, 97, 116, 32, 111, 110, 101]⟩ : ByteArray), v2, .int .i64 0, .string (⟨#[112, 117, 116, 32, 116, 104, 101, 109, 32, 97, 119, 97, 121, 44, 32, 112, 111, 105, 110, 116, 32, 97, 116, 32, 111, 110, 101]⟩ : ByteArray), v3, .int .i64 0, .string (⟨#[121, 111, 117, 114, 115]⟩ : ByteArray), .slice none 0 0, .int .i64 a1, .string (⟨#[112, 117, 116, 32, 105, 116, 32, 97, 119, 97, 121]⟩ : ByteArray), .slice none 0 0, .int .i64 a1, .string (⟨#[121, 111, 117, 114, 115]⟩ : ByteArray), .slice none 0 0, .int .i64 a1, .string (⟨#[112, 117, 116, 32, 105, 116, 32, 97, 119, 97, 121]⟩ : ByteArray), .slice none 0 0, .int .i64 a1]
/-- Whose block is it? -/
def fourB (v1 v2 v3 : Value) (j k : Nat) : Prop := (j = 0 ∧ some k = v1.ownBlock) ∨ (j = 1 ∧ some k = v2.ownBlock) ∨ (j = 2 ∧ some k = v3.ownBlock)
theorem four_reps (W : World) (base : Nat) (v1 v2 v3 : Value) (a1 : Int) (h1 : (Kd.int .i64).R 3 W base (fun k => some k = v1.ownBlock) v1 [1, 2]) (h2 : (Kd.int .i64).R 3 W base (fun k => some k = v2.ownBlock) v2 [3, 4]) (h3 : (Kd.int .i64).R 3 W base (fun k => some k = v3.ownBlock) v3 [5, 6]) :
    ∀ j x, (fourN a1)[j]? = some x → k49.M W base (fourB v1 v2 v3 j) x (((fourI v1 v2 v3 a1).drop (j * 3)).take 3) := by
  intro j x hj
  rcases j with _ | _ | _ | _ | _ | _ | _ | j
  · obtain rfl := Option.some.inj hj
    exact k49_mkM _ _ _ (⟨_, _, _⟩ : S49) (Kd.R_mono h1 (fun k hk => .inl ⟨rfl, hk⟩))
  · obtain rfl := Option.some.inj hj
    exact k49_mkM _ _ _ (⟨_, _, _⟩ : S49) (Kd.R_mono h2 (fun k hk => .inr (.inl ⟨rfl, hk⟩)))
  · obtain rfl := Option.some.inj hj
    exact k49_mkM _ _ _ (⟨_, _, _⟩ : S49) (Kd.R_mono h3 (fun k hk => .inr (.inr ⟨rfl, hk⟩)))
  · obtain rfl := Option.some.inj hj
    exact k49_mkM _ _ _ (⟨_, _, _⟩ : S49) (Kd.R_nil _ _ _ _ _)
  · obtain rfl := Option.some.inj hj
    exact k49_mkM _ _ _ (⟨_, _, _⟩ : S49) (Kd.R_nil _ _ _ _ _)
  · obtain rfl := Option.some.inj hj
    exact k49_mkM _ _ _ (⟨_, _, _⟩ : S49) (Kd.R_nil _ _ _ _ _)
  · obtain rfl := Option.some.inj hj
    exact k49_mkM _ _ _ (⟨_, _, _⟩ : S49) (Kd.R_nil _ _ _ _ _)
  · exact absurd hj (by simp [fourN])
theorem four_apart (v1 v2 v3 : Value) (d12 : ∀ k, some k = v1.ownBlock → some k ≠ v2.ownBlock) (d13 : ∀ k, some k = v1.ownBlock → some k ≠ v3.ownBlock) (d23 : ∀ k, some k = v2.ownBlock → some k ≠ v3.ownBlock) : ∀ i j k, fourB v1 v2 v3 i k → fourB v1 v2 v3 j k → i = j := by
  rintro i j k (⟨rfl, h⟩ | ⟨rfl, h⟩ | ⟨rfl, h⟩) (⟨rfl, g⟩ | ⟨rfl, g⟩ | ⟨rfl, g⟩)
  · rfl
  · exact absurd g (d12 k h)
  · exact absurd g (d13 k h)
  · exact absurd h (d12 k g)
  · rfl
  · exact absurd g (d23 k h)
  · exact absurd h (d13 k g)
  · exact absurd h (d23 k g)
  · rfl
def impl_FourForce.f (k : Nat) (l0 : List Int) (a1 : Int) : Option (List S49 × Bool) := (impl_areObjects.f k l0 4 a1).bind fun b => if b = true then some (fourN a1, true) else some ([], false)
set_option maxHeartbeats 16000000 in
set_option maxRecDepth 100000 in
theorem impl_FourForce.calls (k : Nat) (A0 : Option Addr) (c0 : Nat) (l0 : List Int) (a1 : Int) (r1 : List S49) (r2 : Bool) (w : World) (hr0 : Kd.C (Kd.int .i64) w A0 l0.length l0) (hc0 : l0.length ≤ c0) (h : impl_FourForce.f k l0 a1 = some (r1, r2)) :
    Calls Try.prog 15 #[.slice A0 l0.length c0, .int .i64 a1] w fun e w' => ∃ v0_ : Value, e = .returned (.tuple #[v0_, .bool r2]) ∧ Kd.S k49 49 w' w.heap.size (fun _ => True) v0_ r1 ∧ Below w.heap.size w w' := by
  have hu49 := Try.underlying49
  have HR0 := Aside0.mk hr0
  have HC0 := Aside0.mk hc0
  unfold impl_FourForce.f at h
  obtain ⟨b, h1, h⟩ := Option.bind_eq_some_iff.mp h
  have A3 := Aside0.mk h1
  clear hr0 hc0 h1
  cases b with
  | true =>
    rw [if_pos rfl] at h
    simp only [Option.some.injEq, Prod.mk.injEq] at h
    obtain ⟨rfl, rfl⟩ := h
    go_enter Try.func15, Try.ntmps15
    go_wp2_with (first
      | (go_at_call 53; (with_reducible refine (impl_areObjects.calls k A0 c0 l0 4 a1 true _ HR0.out HC0.out A3.out).mono ?_); rintro e w4 ⟨rfl, hd⟩; have HB4 := Aside0.mk hd.below; clear hd)
      | ((with_reducible refine gate_dst (N := 10) rfl ?_); refine Kd.R_lit (Kd.int .i64) _ 3 ?hg (N := 10) ?hd (xs := ([1, 2] : List Int)) (inner := [.int .i64 1, .int .i64 2]) (ok := fun _ => True) (okp := fun _ => True) ?hr ?hp (fun _ hk => hk) trivial (Below.refl _ _) (Nat.le_refl _) (by simp) ?_; (case hd => rfl); (case hg => rfl); (case hr => first | (go_simp; done) | (go_simp; rfl)); (case hp => exact (Reps.one (show Kd.M (Kd.int .i64) _ _ _ 1 [.int .i64 1] from rfl) (Reps.one (show Kd.M (Kd.int .i64) _ _ _ 2 [.int .i64 2] from rfl) (Reps.none _ _)))); intro v1 w5 ho hb hg_ hnew_; clear hg_ hnew_; obtain ⟨B1, e1, ev_⟩ := Kd.R_slice ho; have ev2_ : v1 = .slice B1 2 e1 := ev_; clear ev_; subst ev2_; have Z1 := Aside0.mk (Kd.R_lt ho); have R1 := Aside0.mk (Kd.R_lower (Kd.R_tight rfl ho) HB4.out.size); have HB5 := Aside0.mk (below_step HB4.out hb); clear ho hb HB4)
      | ((with_reducible refine gate_dst (N := 12) rfl ?_); refine Kd.R_lit (Kd.int .i64) _ 3 ?hg (N := 12) ?hd (xs := ([3, 4] : List Int)) (inner := [.int .i64 3, .int .i64 4]) (ok := fun _ => True) (okp := fun _ => True) ?hr ?hp (fun _ hk => hk) trivial (Below.refl _ _) (Nat.le_refl _) (by simp) ?_; (case hd => rfl); (case hg => rfl); (case hr => first | (go_simp; done) | (go_simp; rfl)); (case hp => exact (Reps.one (show Kd.M (Kd.int .i64) _ _ _ 3 [.int .i64 3] from rfl) (Reps.one (show Kd.M (Kd.int .i64) _ _ _ 4 [.int .i64 4] from rfl) (Reps.none _ _)))); intro v2 w6 ho hb hg_ hnew_; clear hg_ hnew_; obtain ⟨B2, e2, ev_⟩ := Kd.R_slice ho; have ev2_ : v2 = .slice B2 2 e2 := ev_; clear ev_; subst ev2_; have D12 := Aside0.mk (fun k_ (h1_ : some k_ = (Value.slice B1 2 e1).ownBlock) (h2_ : some k_ = (Value.slice B2 2 e2).ownBlock) => Nat.lt_irrefl _ (Nat.lt_of_lt_of_le (Z1.out k_ h1_.symm) (Kd.R_base ho k_ h2_.symm))); have n1_ := Aside0.mk (Kd.R_below R1.out hb); clear R1; have R1 := n1_; clear n1_; have z1_ := Aside0.mk (fun k_ (h_ : (Value.slice B1 2 e1).ownBlock = some k_) => Nat.lt_of_lt_of_le (Z1.out k_ h_) hb.size); clear Z1; have Z1 := z1_; clear z1_; have Z2 := Aside0.mk (Kd.R_lt ho); have R2 := Aside0.mk (Kd.R_lower (Kd.R_tight rfl ho) HB5.out.size); have HB6 := Aside0.mk (below_step HB5.out hb); clear ho hb HB5)
      | ((with_reducible refine gate_dst (N := 14) rfl ?_); refine Kd.R_lit (Kd.int .i64) _ 3 ?hg (N := 14) ?hd (xs := ([5, 6] : List Int)) (inner := [.int .i64 5, .int .i64 6]) (ok := fun _ => True) (okp := fun _ => True) ?hr ?hp (fun _ hk => hk) trivial (Below.refl _ _) (Nat.le_refl _) (by simp) ?_; (case hd => rfl); (case hg => rfl); (case hr => first | (go_simp; done) | (go_simp; rfl)); (case hp => exact (Reps.one (show Kd.M (Kd.int .i64) _ _ _ 5 [.int .i64 5] from rfl) (Reps.one (show Kd.M (Kd.int .i64) _ _ _ 6 [.int .i64 6] from rfl) (Reps.none _ _)))); intro v3 w7 ho hb hg_ hnew_; clear hg_ hnew_; obtain ⟨B3, e3, ev_⟩ := Kd.R_slice ho; have ev2_ : v3 = .slice B3 2 e3 := ev_; clear ev_; subst ev2_; have D13 := Aside0.mk (fun k_ (h1_ : some k_ = (Value.slice B1 2 e1).ownBlock) (h2_ : some k_ = (Value.slice B3 2 e3).ownBlock) => Nat.lt_irrefl _ (Nat.lt_of_lt_of_le (Z1.out k_ h1_.symm) (Kd.R_base ho k_ h2_.symm))); have D23 := Aside0.mk (fun k_ (h1_ : some k_ = (Value.slice B2 2 e2).ownBlock) (h2_ : some k_ = (Value.slice B3 2 e3).ownBlock) => Nat.lt_irrefl _ (Nat.lt_of_lt_of_le (Z2.out k_ h1_.symm) (Kd.R_base ho k_ h2_.symm))); have n1_ := Aside0.mk (Kd.R_below R1.out hb); clear R1; have R1 := n1_; clear n1_; have z1_ := Aside0.mk (fun k_ (h_ : (Value.slice B1 2 e1).ownBlock = some k_) => Nat.lt_of_lt_of_le (Z1.out k_ h_) hb.size); clear Z1; have Z1 := z1_; clear z1_; have n2_ := Aside0.mk (Kd.R_below R2.out hb); clear R2; have R2 := n2_; clear n2_; have z2_ := Aside0.mk (fun k_ (h_ : (Value.slice B2 2 e2).ownBlock = some k_) => Nat.lt_of_lt_of_le (Z2.out k_ h_) hb.size); clear Z2; have Z2 := z2_; clear z2_; have Z3 := Aside0.mk (Kd.R_lt ho); have R3 := Aside0.mk (Kd.R_lower (Kd.R_tight rfl ho) HB6.out.size); have HB7 := Aside0.mk (below_step HB6.out hb); clear ho hb HB6)
      | ((with_reducible refine gate_dst (N := 24) rfl ?_); refine Kd.S_lits k49 _ 49 ?hg (N := 24) ?hd (xs := fourN a1) (inner := [.string (⟨#[116, 97, 107, 101, 32, 116, 119, 111]⟩ : ByteArray), .slice B1 2 e1, .int .i64 0, .string (⟨#[107, 101, 101, 112, 32, 116, 104, 101, 109, 44, 32, 112, 111, 105, 110, 116, 32, 97, 116, 32, 111, 110, 101]⟩ : ByteArray), .slice B2 2 e2, .int .i64 0, .string (⟨#[112, 117, 116, 32, 116, 104, 101, 109, 32, 97, 119, 97, 121, 44, 32, 112, 111, 105, 110, 116, 32, 97, 116, 32, 111, 110, 101]⟩ : ByteArray), .slice B3 2 e3, .int .i64 0, .string (⟨#[121, 111, 117, 114, 115]⟩ : ByteArray), .slice none 0 0, .int .i64 a1, .string (⟨#[112, 117, 116, 32, 105, 116, 32, 97, 119, 97, 121]⟩ : ByteArray), .slice none 0 0, .int .i64 a1, .string (⟨#[121, 111, 117, 114, 115]⟩ : ByteArray), .slice none 0 0, .int .i64 a1, .string (⟨#[112, 117, 116, 32, 105, 116, 32, 97, 119, 97, 121]⟩ : ByteArray), .slice none 0 0, .int .i64 a1]) (ok := fun _ => True) (fourB (.slice B1 2 e1) (.slice B2 2 e2) (.slice B3 2 e3)) ?hr ?hl (four_reps _ _ _ _ _ a1 R1.out R2.out R3.out) (four_apart _ _ _ D12.out D13.out D23.out) (fun _ _ _ => trivial) trivial HB7.out HB7.out.size ?hm ?_; (case hd => rfl); (case hg => rfl); (case hr => first | (go_simp; done) | (go_simp; rfl)); (case hl => rfl); (case hm => exact (by decide : (7 : Nat) ≤ 9223372036854775807)); intro v8 w8 ho hb hg_ hnew_; clear hg_ hnew_; have HO := Aside0.mk ho; have HB8 := Aside0.mk hb; clear ho hb R1 R2 R3 HB7))
    go_ret2
    exact ⟨_, rfl, HO.out, HB8.out⟩
  | false =>
    rw [if_neg (by decide)] at h
    simp only [Option.some.injEq, Prod.mk.injEq] at h
    obtain ⟨rfl, rfl⟩ := h
    go_enter Try.func15, Try.ntmps15
    go_wp2_with (go_at_call 53; (with_reducible refine (impl_areObjects.calls k A0 c0 l0 4 a1 false _ HR0.out HC0.out A3.out).mono ?_); rintro e w4 ⟨rfl, hd⟩; have HB4 := Aside0.mk hd.below; clear hd)
    go_ret2
    exact ⟨_, rfl, Kd.S_nil _ _ _ _ _, HB4.out⟩
end Go.Proofs.Ytgldcbcefncjjaa.F
end
section
/- Laid by a program of this claim's own. What the Go function does, as a Lean function, and the proof that the Go code does just that; Lean checks it. -/
namespace Go.Proofs.Ytgldcbcefncjjaa.F
open Go.RowKit Go.Proofs.YtgldcbcefncjjaaW.PrintWords Go.Proofs.YtgldcbcefncjjaaW.PrintLast Go.Proofs.YtgldcbcefncjjaaW.PrintMore
attribute [local go_sem] max2_int min2_int max_two min_two max_three min_three max_four min_four   -- for this text's walks alone
set_option linter.unusedVariables false
set_option linter.unusedSimpArgs false
/-! ### laws_FnExactFourForce: function 3 -/
open Classical in
/-- What is to be shown of numbers and lists: both functions make the same; marks that are laid are held. -/
noncomputable def laws_FnExactFourForce.f (k : Nat) (l0 : List Int) (a1 : Int) : Option Bool :=
  if (l0.length : Int) > 1048576 then some true else
  (laws_toIntS.f k l0).bind fun X => (spec_FourForce.f k X a1).bind fun R => (laws_markIntS.f k X 1).bind fun M => (laws_markNodeS.f k R.1 1).bind fun m =>
    if impl_FourForce.f k X a1 = some R ∧ laws_eqNodeS.f k R.1 R.1 = some true ∧ laws_eqIntS.f k X X = some true ∧ 0 ≤ M.1 ∧ 0 ≤ m.1 ∧ laws_heldNodeS.f k m.2 1 = some m.1 then some true else none
set_option maxHeartbeats 16000000 in
set_option maxRecDepth 100000 in
theorem laws_FnExactFourForce.calls_big (A0 : Option Addr) (c0 : Nat) (l0 : List Int) (a1 : Int) (w : World) (hbig : (l0.length : Int) > 1048576) :
    Calls Try.prog 3 #[.slice A0 l0.length c0, .int .i64 a1] w fun e w' => e = .returned (.bool true) ∧ Below w.heap.size w w' := by
  have h1 : decide (1048576 < l0.length) = true := decide_eq_true (by omega)
  have h2 : decide (1048576 < (l0.length : Int)) = true := decide_eq_true (by omega)
  have HB := Aside0.mk (Below.refl w.heap.size w)
  clear hbig
  go_enter Try.func3, Try.ntmps3
  go_wp2
  go_ret
  exact ⟨rfl, HB.out⟩
set_option maxHeartbeats 16000000 in
set_option maxRecDepth 100000 in
theorem laws_FnExactFourForce.calls_in (k : Nat) (A0 : Option Addr) (c0 : Nat) (l0 : List Int) (a1 : Int) (w : World) (hr0 : Kd.C (Kd.int .i64) w A0 l0.length l0) (hc0 : l0.length ≤ c0) (hle : ¬ (l0.length : Int) > 1048576) (X : List Int) (ht : laws_toIntS.f k l0 = some X) (r : List S49) (b : Bool) (hs : spec_FourForce.f k X a1 = some (r, b)) (M1 : Int) (M2 : List Int) (hM : laws_markIntS.f k X 1 = some (M1, M2)) (m1 : Int) (m2 : List S49) (hm : laws_markNodeS.f k r 1 = some (m1, m2)) (hi : impl_FourForce.f k X a1 = some (r, b)) (he : laws_eqNodeS.f k r r = some true) (hq : laws_eqIntS.f k X X = some true) (hn1 : 0 ≤ M1) (hn2 : 0 ≤ m1) (hh : laws_heldNodeS.f k m2 1 = some m1) :
    Calls Try.prog 3 #[.slice A0 l0.length c0, .int .i64 a1] w fun e w' => e = .returned (.bool true) ∧ Below w.heap.size w w' := by
  have HR0 := Aside0.mk hr0
  have HC0 := Aside0.mk hc0
  have HT := Aside0.mk ht
  have HQ := Aside0.mk hq
  have HM := Aside0.mk hM
  have g2 : decide (M1 < 0) = false := decide_eq_false (by omega)
  have g7 : decide (1048576 < l0.length) = false := decide_eq_false (by omega)
  have g8 : decide (1048576 < (l0.length : Int)) = false := decide_eq_false (by omega)
  have HS := Aside0.mk hs
  have HI := Aside0.mk hi
  have HE := Aside0.mk he
  have HM1 := Aside0.mk hm
  have HH := Aside0.mk hh
  have g3 : decide (m1 < 0) = false := decide_eq_false (by omega)
  have g4 : (b == b) = true := beq_self_eq_true b
  have g5 : (b != b) = false := bne_self_eq_false b
  clear hr0 hc0 ht hq hM hn1 hs hm hi he hn2 hh hle
  go_enter Try.func3, Try.ntmps3
  go_wp2_with (go_at_call 14; (with_reducible refine (laws_toIntS.calls k A0 c0 l0 X _ HR0.out HC0.out HT.out).mono ?_); rintro e w1 ⟨v, rfl, ho, hb⟩; obtain ⟨A1, c1, rfl⟩ := Kd.R_slice ho; have B1 := Aside0.mk hb; have C1 := Aside0.mk (Kd.R_reads' ho).2.2; have L1 := Aside0.mk (Kd.R_reads' ho).2.1; clear ho hb)
  go_wp2_with (go_at_call 13; (with_reducible refine (spec_FourForce.calls k A1 c1 X a1 r b _ C1.out L1.out HS.out).mono ?_); rintro e w2 ⟨v, rfl, ho, hb⟩; obtain ⟨A2, c2, rfl⟩ := Kd.N_slice ho; have B2 := Aside0.mk (below_step B1.out hb); have C2 := Aside0.mk (Kd.N_reads' ho).2.2; have L2 := Aside0.mk (Kd.N_reads' ho).2.1; clear ho hb B1 C1 L1)
  go_wp2_with (go_at_call 14; (with_reducible refine (laws_toIntS.calls k A0 c0 l0 X _ (Kd.C_below HR0.out B2.out) HC0.out HT.out).mono ?_); rintro e w3 ⟨v, rfl, ho, hb⟩; obtain ⟨A3, c3, rfl⟩ := Kd.R_slice ho; have D3 := Aside0.mk hb; have X3 := Aside0.mk ho; have SZ := Aside0.mk hb.size; have T0 := Aside0.mk (Kd.R_lt ho); clear ho hb)
  go_wp2_with (go_at_call 15; (with_reducible refine (impl_FourForce.calls k A3 c3 X a1 r b _ (Kd.R_reads' X3.out).2.2 (Kd.R_reads' X3.out).2.1 HI.out).mono ?_); rintro e w4 ⟨v, rfl, ho, hb⟩; obtain ⟨A4, c4, rfl⟩ := Kd.S_slice ho; have D4 := Aside0.mk (below_step D3.out hb); have G4 := Aside0.mk ho; have X4 := Aside0.mk (Kd.R_below X3.out hb); clear ho hb D3 X3)
  go_wp2_with (go_at_call 16; (with_reducible refine (laws_eqNodeS.calls k A4 c4 r A2 c2 r true _ (Kd.S_reads' G4.out).2.2 (Kd.S_reads' G4.out).2.1 (Kd.C_below C2.out D4.out) L2.out HE.out).mono ?_); rintro e w5 ⟨rfl, hd⟩; have D5 := Aside0.mk (below_step D4.out hd); have G5 := Aside0.mk (Kd.S_below G4.out hd); have X5 := Aside0.mk (Kd.R_below X4.out hd); clear hd D4 G4 X4)
  go_wp2_with (go_at_call 14; (with_reducible refine (laws_toIntS.calls k A0 c0 l0 X _ (Kd.C_below HR0.out (below_step B2.out D5.out)) HC0.out HT.out).mono ?_); rintro e w6 ⟨v, rfl, ho, hb⟩; obtain ⟨A6, c6, rfl⟩ := Kd.R_slice ho; have D6 := Aside0.mk (below_step D5.out hb); have G6 := Aside0.mk (Kd.S_below G5.out hb); have X6 := Aside0.mk (Kd.R_below X5.out hb); have C6 := Aside0.mk (Kd.R_reads' ho).2.2; have L6 := Aside0.mk (Kd.R_reads' ho).2.1; clear ho hb D5 G5 X5)
  go_wp2_with (go_at_call 17; (with_reducible refine (laws_eqIntS.calls k A3 c3 X A6 c6 X true _ (Kd.R_reads' X6.out).2.2 (Kd.R_reads' X6.out).2.1 C6.out L6.out HQ.out).mono ?_); rintro e w7 ⟨rfl, hd⟩; have D7 := Aside0.mk (below_step D6.out hd.below); have G7 := Aside0.mk (Kd.S_below G6.out hd.below); have X7 := Aside0.mk (Kd.R_tight rfl (Kd.R_below X6.out hd.below)); clear hd D6 G6 X6 C6 L6)
  go_wp2_with (go_at_call 18; (with_reducible refine (laws_markIntS.calls k (fun k_ => some k_ = (Value.slice A3 X.length c3).ownBlock) _ X 1 M1 M2 w2 _ D7.out X7.out HM.out).mono ?_); rintro e w8 ⟨rfl, ho, hb, hk⟩; have D8 := Aside0.mk hb; have G8 := Aside0.mk (Kd.S_lower (S_past G7.out hk (fun k_ h_ e_ => Nat.lt_irrefl _ (Nat.lt_of_lt_of_le (T0.out k_ e_.symm) h_))) SZ.out); clear ho hb hk D7 G7 X7)
  go_wp2_with (go_at_call 16; (with_reducible refine (laws_eqNodeS.calls k A4 c4 r A2 c2 r true _ (Kd.S_reads' G8.out).2.2 (Kd.S_reads' G8.out).2.1 (Kd.C_below C2.out D8.out) L2.out HE.out).mono ?_); rintro e w9 ⟨rfl, hd⟩; have D9 := Aside0.mk (below_step D8.out hd); have G9 := Aside0.mk (Kd.S_below G8.out hd); clear hd D8 G8)
  go_wp2_with (go_at_call 19; (with_reducible refine (laws_markNodeS.calls k (fun _ => True) _ r 1 m1 m2 w2 _ D9.out G9.out HM1.out).mono ?_); rintro e w10 ⟨rfl, ho, hb, hk⟩; have D10 := Aside0.mk hb; have G10 := Aside0.mk ho; have E0 := Aside0.mk (Kd.S_reads' ho).1; clear ho hb hk D9 G9)
  go_wp2_with (go_at_call 20; refine calls_of_args (args' := #[.slice A4 m2.length c4, .int .i64 1]) (by rw [← E0.out]) ?_; (with_reducible refine (laws_heldNodeS.calls k A4 c4 m2 1 m1 _ (Kd.S_reads' G10.out).2.2 (by rw [← E0.out]; exact (Kd.S_reads' G10.out).2.1) HH.out).mono ?_); rintro e w11 ⟨rfl, hd⟩; have D11 := Aside0.mk (below_step D10.out hd); have G11 := Aside0.mk (Kd.S_below G10.out hd); clear hd D10 G10)
  go_wp2_with (go_at_call 14; (with_reducible refine (laws_toIntS.calls k A0 c0 l0 X _ (Kd.C_below HR0.out (below_step B2.out D11.out)) HC0.out HT.out).mono ?_); rintro e w12 ⟨v, rfl, ho, hb⟩; obtain ⟨A12, c12, rfl⟩ := Kd.R_slice ho; have D12 := Aside0.mk (below_step D11.out hb); have G12 := Aside0.mk (Kd.S_below G11.out hb); have C12 := Aside0.mk (Kd.R_reads' ho).2.2; have L12 := Aside0.mk (Kd.R_reads' ho).2.1; clear ho hb D11 G11)
  go_wp2_with (go_at_call 15; (with_reducible refine (impl_FourForce.calls k A12 c12 X a1 r b _ C12.out L12.out HI.out).mono ?_); rintro e w13 ⟨v, rfl, ho, hb⟩; obtain ⟨A13, c13, rfl⟩ := Kd.S_slice ho; have D13 := Aside0.mk (below_step D12.out hb); have G13 := Aside0.mk (Kd.S_below G12.out hb); have C13 := Aside0.mk (Kd.S_reads' ho).2.2; have L13 := Aside0.mk (Kd.S_reads' ho).2.1; clear ho hb D12 G12 C12 L12)
  go_wp2_with (go_at_call 16; (with_reducible refine (laws_eqNodeS.calls k A13 c13 r A2 c2 r true _ C13.out L13.out (Kd.C_below C2.out D13.out) L2.out HE.out).mono ?_); rintro e w14 ⟨rfl, hd⟩; have D14 := Aside0.mk (below_step D13.out hd); have G14 := Aside0.mk (Kd.S_below G13.out hd); clear hd D13 G13 C13 L13)
  go_wp2_with (go_at_call 20; refine calls_of_args (args' := #[.slice A4 m2.length c4, .int .i64 1]) (by rw [← E0.out]) ?_; (with_reducible refine (laws_heldNodeS.calls k A4 c4 m2 1 m1 _ (Kd.S_reads' G14.out).2.2 (by rw [← E0.out]; exact (Kd.S_reads' G14.out).2.1) HH.out).mono ?_); rintro e w15 ⟨rfl, hd⟩; have D15 := Aside0.mk (below_step D14.out hd); clear hd D14 G14)
  go_ret
  exact ⟨rfl, below_step B2.out D15.out⟩
theorem laws_FnExactFourForce.calls (k : Nat) (A0 : Option Addr) (c0 : Nat) (l0 : List Int) (a1 : Int) (r : Bool) (w : World) (hr0 : Kd.C (Kd.int .i64) w A0 l0.length l0) (hc0 : l0.length ≤ c0) (h : laws_FnExactFourForce.f k l0 a1 = some r) :
    Calls Try.prog 3 #[.slice A0 l0.length c0, .int .i64 a1] w fun e w' => e = .returned (.bool r) ∧ Below w.heap.size w w' := by
  unfold laws_FnExactFourForce.f at h
  by_cases hbig : (l0.length : Int) > 1048576
  · rw [if_pos hbig] at h
    obtain rfl := Option.some.inj h
    exact laws_FnExactFourForce.calls_big A0 c0 l0 a1 w hbig
  · rw [if_neg hbig] at h
    obtain ⟨X, h2, h⟩ := Option.bind_eq_some_iff.mp h
    obtain ⟨⟨R1, R2⟩, h3, h⟩ := Option.bind_eq_some_iff.mp h
    obtain ⟨⟨M1, M2⟩, h4, h⟩ := Option.bind_eq_some_iff.mp h
    obtain ⟨⟨m1, m2⟩, h5, h⟩ := Option.bind_eq_some_iff.mp h
    split at h
    · rename_i hc
      obtain ⟨q1, q2, q3, q4, q5, q6⟩ := hc
      obtain rfl := Option.some.inj h
      exact laws_FnExactFourForce.calls_in k A0 c0 l0 a1 w hr0 hc0 hbig X h2 R1 R2 h3 M1 M2 h4 m1 m2 h5 q1 q2 q3 q4 q5 q6
    · cases h
end Go.Proofs.Ytgldcbcefncjjaa.F
end
