import Derived.Test.YtgldcbcefncjjaaZGFnExactFourForce4
import Derived.Test.YtgldcbcefncjjaaZGFnExactFourForce5
import Derived.Test.YtgldcbcefncjjaaZGFnExactFourForce6
import Derived.Test.YtgldcbcefncjjaaZGFnExactFourForce7
import Derived.Test.YtgldcbcefncjjaaZGFnExactFourForce8
section
/- Laid by a program of this claim's own. What the Go function does, as a Lean function, and the proof that the Go code does just that; Lean checks it. -/
namespace Go.Proofs.Ytgldcbcefncjjaa.F
open Go.RowKit Go.Proofs.YtgldcbcefncjjaaW.PrintWords Go.Proofs.YtgldcbcefncjjaaW.PrintLast Go.Proofs.YtgldcbcefncjjaaW.PrintMore
attribute [local go_sem] max2_int min2_int max_two min_two max_three min_three max_four min_four   -- for this text's walks alone
set_option linter.unusedVariables false
set_option linter.unusedSimpArgs false
/-! ### spec_PairForce: function 21 -/
def spec_PairForce.l0 : Nat → Int → List (S49) → List Int → Int → Int → Option ((List (S49)) × Bool)
  | 0, _, _, _, _, _ => none
  | k + 1, x1, x6, x16, x17, x18 => if x18 < x17 then (if 0 ≤ x18 then (if x18 < (x16.length : Int) then ((spec_l13Say.f ((rd x16 x18) == x1)).bind fun t161 => (if x6.length < 2932031007402 then (spec_PairForce.l0 k x1 (x6 ++ [(⟨t161, ([] : List Int), x1⟩ : S49)]) x16 x17 (wrap64 (x18 + 1))) else (none))) else (none)) else (none)) else (some (x6, true))
def spec_PairForce.f (k : Nat) (l0 : List Int) (a1 : Int) : Option ((List (S49)) × Bool) := (spec_l13Objects.f k l0 2 a1).bind fun t153 => (if t153 = true then (spec_PairForce.l0 k a1 (([(⟨(⟨#[112, 111, 105, 110, 116, 32, 97, 116, 32, 111, 110, 101]⟩ : ByteArray), (([1, 2] : List Int)), 0⟩ : S49)] : List (S49))) l0 (l0.length : Int) 0) else (some (([] : List (S49)), false)))
set_option maxHeartbeats 8000000 in
set_option maxRecDepth 100000 in
theorem spec_PairForce.calls (k : Nat) (A0 : Option Addr) (c0 : Nat) (l0 : List Int) (a1 : Int) (r1 : List (S49)) (r2 : Bool) (w : World) (hr0 : Kd.C (Kd.int .i64) w A0 l0.length l0) (hc0 : l0.length ≤ c0) (h : spec_PairForce.f k l0 a1 = some (r1, r2)) :
    Calls Try.prog 21 #[.slice A0 l0.length c0, .int .i64 a1] w fun e w' => ∃ v0_ : Value, e = .returned (.tuple #[v0_, .bool r2]) ∧ Kd.N k49 49 w' w.heap.size (fun k_ => (w.heap.size ≤ k_)) v0_ r1 ∧ Below w.heap.size w w' := by
  have hu49 := Try.underlying49
  have HR0 := Aside0.mk hr0
  have HC0 := Aside0.mk hc0
  clear hr0 hc0
  have HB := Aside0.mk (Below.refl w.heap.size w)
  have H : ((spec_l13Objects.f k l0 2 a1).bind fun t153 => (if t153 = true then (spec_PairForce.l0 k a1 (([(⟨(⟨#[112, 111, 105, 110, 116, 32, 97, 116, 32, 111, 110, 101]⟩ : ByteArray), (([1, 2] : List Int)), 0⟩ : S49)] : List (S49))) l0 (l0.length : Int) 0) else (some (([] : List (S49)), false)))) = some (r1, r2) := h
  clear h
  replace H := Option.bind_eq_some_iff.mp H
  obtain ⟨t153, A30, H⟩ := H
  replace H : (if t153 = true then (spec_PairForce.l0 k a1 (([(⟨(⟨#[112, 111, 105, 110, 116, 32, 97, 116, 32, 111, 110, 101]⟩ : ByteArray), (([1, 2] : List Int)), 0⟩ : S49)] : List (S49))) l0 (l0.length : Int) 0) else (some (([] : List (S49)), false))) = some (r1, r2) := H
  have A3 := Aside0.mk A30
  clear A30
  by_cases c4 : t153 = true
  · subst c4
    have H1 : (spec_PairForce.l0 k a1 (([(⟨(⟨#[112, 111, 105, 110, 116, 32, 97, 116, 32, 111, 110, 101]⟩ : ByteArray), (([1, 2] : List Int)), 0⟩ : S49)] : List (S49))) l0 (l0.length : Int) 0) = some (r1, r2) := by rw [if_pos rfl] at H; exact H
    clear H
    have H := H1
    clear H1
    obtain ⟨y154, hy154⟩ : ∃ y_ : List Int, y_ = (([1, 2] : List Int)) := ⟨_, rfl⟩
    replace H : (spec_PairForce.l0 k a1 (([(⟨(⟨#[112, 111, 105, 110, 116, 32, 97, 116, 32, 111, 110, 101]⟩ : ByteArray), y154, 0⟩ : S49)] : List (S49))) l0 (l0.length : Int) 0) = some (r1, r2) := by first | (rw [hy154]; with_reducible exact H) | (have H2_ := (Option.bind_some _ _).symm.trans H; rw [hy154]; with_reducible exact H2_) | (have H2_ := (Option.bind_some _ _).symm.trans H; with_reducible exact H2_) | with_reducible exact H | (rw [hy154]; exact H) | exact H
    have Ny154 := Aside0.mk hy154
    clear hy154
    obtain ⟨y157, hy157⟩ : ∃ y_ : List (S49), y_ = (([(⟨(⟨#[112, 111, 105, 110, 116, 32, 97, 116, 32, 111, 110, 101]⟩ : ByteArray), y154, 0⟩ : S49)] : List (S49))) := ⟨_, rfl⟩
    replace H : (spec_PairForce.l0 k a1 y157 l0 (l0.length : Int) 0) = some (r1, r2) := by first | (rw [hy157]; with_reducible exact H) | (have H2_ := (Option.bind_some _ _).symm.trans H; rw [hy157]; with_reducible exact H2_) | (have H2_ := (Option.bind_some _ _).symm.trans H; with_reducible exact H2_) | with_reducible exact H | (rw [hy157]; exact H) | exact H
    have Ny157 := Aside0.mk hy157
    clear hy157
    have H' := Aside0.mk H
    clear H
    go_enter Try.func21, Try.ntmps21
    go_wp2_with (first | ((with_reducible refine gate_callee (f := 51) rfl ?_); refine goesL_ (some 11) rfl rfl Try.func51 (by kernel_rfl) rfl #[.slice A0 l0.length c0, .int .i64 2, .int .i64 a1] rfl (by (try simp only [List.map_toArray, List.map_cons, List.map_nil]); first | done | rfl | (simp only [List.length_drop, List.length_take]; rfl)) ?_; (with_reducible refine (spec_l13Objects.calls k _ _ l0 2 a1 true _ ?side1 ?side2 A3.out).mono ?_); (case side1 => repeat (first | exact HR0.out | (with_reducible refine Kd.C_alloc ?_ _) | (with_reducible refine Kd.C_drewN ?_ _) | (with_reducible refine Kd.C_drew ?_))); (case side2 => exact HC0.out); rintro e w' ⟨rfl, ⟨nd, rfl⟩⟩; refine ⟨_, rfl, ?_⟩) | ((with_reducible refine gate_dst (N := 13) rfl ?_); refine Kd.R_lit (Kd.int .i64) _ 3 ?hg (N := 13) ?hd (xs := ([1, 2] : List Int)) (inner := [.int .i64 1, .int .i64 2]) (ok := fun _ => True) (okp := fun _ => True) ?hr ?hp (fun _ hk => hk) trivial (Below.refl _ _) (Nat.le_refl _) (by simp) ?_; (case hd => rfl); (case hg => rfl); (case hr => first | (go_simp; done) | (go_simp; rfl)); (case hp => exact (Reps.one (show Kd.M (Kd.int .i64) _ _ _ 1 [.int .i64 1] from rfl) (Reps.one (show Kd.M (Kd.int .i64) _ _ _ 2 [.int .i64 2] from rfl) (Reps.none _ _)))); intro v155 w5 ho6 hb hg_ hnew_; clear hg_ hnew_; (first | rw [← Ny154.out] at ho6 | (simp only [Int.reduceToNat] at ho6; rw [← Ny154.out] at ho6)); have n0_ := Aside0.mk (Kd.R_lower (Kd.R_newM (M := fun k_ => (w.heap.size ≤ k_)) ho6 (below_size (by repeat (first | (with_reducible first | exact HB.out | apply below_alloc | apply pw_below_drewN | apply below_drew1) | exact HB.out))) (fun k_ h_ => h_)) (below_size (by repeat (first | (with_reducible first | exact HB.out | apply below_alloc | apply pw_below_drewN | apply below_drew1) | exact HB.out)))); have n1_ := Aside0.mk (below_step (by repeat (first | (with_reducible first | exact HB.out | apply below_alloc | apply pw_below_drewN | apply below_drew1) | exact HB.out)) hb); clear HB; have HO156 := n0_; have HB := n1_; clear n0_ n1_; clear hb ho6; obtain ⟨Ao7, co7, eo7⟩ := Kd.R_slice HO156.out; subst eo7) | ((with_reducible refine gate_dst (N := 15) rfl ?_); refine Kd.N_lit k49 _ 49 ?hg (N' := 15) ?hd (xs := ([(⟨(⟨#[112, 111, 105, 110, 116, 32, 97, 116, 32, 111, 110, 101]⟩ : ByteArray), y154, 0⟩ : S49)] : List (S49))) (inner := [.string (⟨#[112, 111, 105, 110, 116, 32, 97, 116, 32, 111, 110, 101]⟩ : ByteArray), .slice Ao7 y154.length co7, .int .i64 0]) (ok := (fun k_ => (w.heap.size ≤ k_))) (okp := (fun k_ => (w.heap.size ≤ k_))) ?hr ?hp (fun _ hk => hk) ((show ∀ k_, w5.heap.size ≤ k_ → (fun k_ => (w.heap.size ≤ k_)) k_ from fun k_ hk => (Nat.le_trans (below_size (by repeat (first | (with_reducible first | exact HB.out | apply below_alloc | apply pw_below_drewN | apply below_drew1) | exact HB.out))) hk)) _ (Nat.le_refl _)) (Below.refl _ _) (Nat.le_refl _) (by simp) ?_; (case hd => rfl); (case hg => rfl); (case hr => first | (go_simp; done) | (go_simp; rfl)); (case hp => exact (Reps.c3 (show Kd.FK k49 _ _ (⟨(⟨#[112, 111, 105, 110, 116, 32, 97, 116, 32, 111, 110, 101]⟩ : ByteArray), y154, 0⟩ : S49) [.string (⟨#[112, 111, 105, 110, 116, 32, 97, 116, 32, 111, 110, 101]⟩ : ByteArray), .slice Ao7 y154.length co7, .int .i64 0] from (k49_mkF _ _ (⟨(⟨#[112, 111, 105, 110, 116, 32, 97, 116, 32, 111, 110, 101]⟩ : ByteArray), y154, 0⟩ : S49) (Kd.R_reads' (Kd.R_mono (ok' := (fun k_ => (w.heap.size ≤ k_))) (HO156.out) (fun k_ hk => hk.1))).2.1 (Kd.R_F (Kd.R_mono (ok' := (fun k_ => (w.heap.size ≤ k_))) (HO156.out) (fun k_ hk => hk.1))))) (Reps.none _ _))); intro v158 w8 ho9 hb hg_ hnew_; clear hg_ hnew_; (first | rw [← Ny157.out] at ho9 | (simp only [Int.reduceToNat] at ho9; rw [← Ny157.out] at ho9)); have n0_ := Aside0.mk (Kd.N_lower ho9 (below_size (by repeat (first | (with_reducible first | exact HB.out | apply below_alloc | apply pw_below_drewN | apply below_drew1) | exact HB.out)))); have n1_ := Aside0.mk (below_step (by repeat (first | (with_reducible first | exact HB.out | apply below_alloc | apply pw_below_drewN | apply below_drew1) | exact HB.out)) hb); clear HB; clear HO156; have HO159 := n0_; have HB := n1_; clear n0_ n1_; clear hb ho9))
    go_loopg [6, 18] k (fun kq v6 v18 w' => ∃ (x6_1 : List (S49)) (x18_1 : Int), v18 = .int .i64 x18_1 ∧ Aside0 (spec_PairForce.l0 kq a1 x6_1 l0 (l0.length : Int) x18_1 = some (r1, r2)) ∧ Aside0 (kq ≤ k) ∧ Aside0 (Kd.N k49 49 w' w.heap.size (fun k_ => (w.heap.size ≤ k_)) v6 x6_1) ∧ Aside0 (Below w.heap.size w w'))
    case atStart => exact ⟨(y157), (0), (by first | rfl | (simp; done) | (simp [*]; done)), H', ⟨Nat.le_refl _⟩, ⟨by (with_reducible repeat (first | apply Kd.N_alloc | apply Kd.N_drewN | apply Kd.N_drew)); exact HO159.out⟩, ⟨by repeat (first | (with_reducible first | exact HB.out | apply below_alloc | apply pw_below_drewN | apply below_drew1) | exact HB.out)⟩⟩
    case round =>
      clear H'
      try clear c2
      try clear p2
      try clear c3
      try clear c4
      try clear c5
      obtain ⟨x6_1, x18_1, rfl, HA, HK1, HO_6, HB⟩ := hrel
      cases gk with
      | zero => exact absurd HA.out (by simp [spec_PairForce.l0])
      | succ k1 =>
        have H := HA.out
        clear HA
        simp only [spec_PairForce.l0] at H
        by_cases c10 : x18_1 < (l0.length : Int)
        · rw [if_pos c10] at H
          have c10b0 : decide (x18_1 < (l0.length : Int)) = true := decide_eq_true c10
          clear c10
          by_cases c11 : 0 ≤ x18_1
          · rw [if_pos c11] at H
            have c11b0 : decide (0 ≤ x18_1) = true := decide_eq_true c11
            clear c11
            by_cases c12 : x18_1 < (l0.length : Int)
            · rw [if_pos c12] at H
              have c12b0 : decide (x18_1 < (l0.length : Int)) = true := decide_eq_true c12
              clear c12
              replace H := Option.bind_eq_some_iff.mp H
              obtain ⟨t161, A130, H⟩ := H
              replace H : (if x6_1.length < 2932031007402 then (spec_PairForce.l0 k1 a1 (x6_1 ++ [(⟨t161, ([] : List Int), a1⟩ : S49)]) l0 (l0.length : Int) (wrap64 (x18_1 + 1))) else (none)) = some (r1, r2) := H
              have A13 := Aside0.mk A130
              clear A130
              by_cases c14 : x6_1.length < 2932031007402
              · rw [if_pos c14] at H
                have LMc14 := Aside0.mk c14
                clear c14
                obtain ⟨y162, hy162⟩ : ∃ y_ : List (S49), y_ = (x6_1 ++ [(⟨t161, ([] : List Int), a1⟩ : S49)]) := ⟨_, rfl⟩
                replace H : (spec_PairForce.l0 k1 a1 y162 l0 (l0.length : Int) (wrap64 (x18_1 + 1))) = some (r1, r2) := by first | (rw [hy162]; with_reducible exact H) | (have H2_ := (Option.bind_some _ _).symm.trans H; rw [hy162]; with_reducible exact H2_) | (have H2_ := (Option.bind_some _ _).symm.trans H; with_reducible exact H2_) | with_reducible exact H | (rw [hy162]; exact H) | exact H
                have Ny162 := Aside0.mk hy162
                clear hy162
                have H' := Aside0.mk H
                clear H
                have p160 : 0 ≤ (x18_1 : Int) := of_decide_eq_true (by first | (with_reducible assumption) | assumption)
                have q160 : x18_1 < (l0.length : Int) := of_decide_eq_true (by first | (with_reducible assumption) | assumption)
                obtain ⟨ad160, e160, hx160_0⟩ := Kd.at_int HR0.out x18_1 p160 q160
                cases e160
                replace hx160_0 := (HB.out.cell (World.block_lt_of_cell? w _ hx160_0)).trans hx160_0
                replace p160 := eq_true p160
                replace q160 := eq_true q160
                go_wp2_with (first | ((with_reducible refine gate_callee (f := 52) rfl ?_); refine goesL_ (some 26) rfl rfl Try.func52 (by kernel_rfl) rfl #[.bool ((rd l0 x18_1) == a1)] rfl (by (try simp only [List.map_toArray, List.map_cons, List.map_nil]); first | done | rfl | (simp only [List.length_drop, List.length_take]; rfl)) ?_; (with_reducible refine (spec_l13Say.calls ((rd l0 x18_1) == a1) t161 _ A13.out).mono ?_); rintro e w' ⟨rfl, ⟨nd, rfl⟩⟩; refine ⟨_, rfl, ?_⟩) | ((with_reducible refine gate_builtin (b := .append) (xs := #[.tmp 22, .tmp 29]) rfl ?_); at_builtin; refine Kd.N_append k49 (w0 := w) w.heap.size rfl (.tmp 22) (.tmp 29) 23 49 (.agg #[(.string ⟨#[]⟩), (.slice none 0 0), (.int .i64 0)]) 48 rfl Try.underlying23 info49 rfl (by decide) (by omega) u6 x6_1 (⟨t161, ([] : List Int), a1⟩ : S49) [.string t161, .slice none 0 0, .int .i64 a1] (fun k_ => (w.heap.size ≤ k_)) (fun k_ => ((fun k_ => (w.heap.size ≤ k_))) k_ ∧ some k_ ≠ (u6 : Value).ownBlock) rfl rfl ?aP (fun _ hk => hk) ?aF ?aO ?aB ?aS ?aL ?_; (case aP => exact (k49_mkF _ _ (⟨t161, ([] : List Int), a1⟩ : S49) (Nat.le_refl _) (Kd.F_nil _ _ _))); (case aB => exact (by repeat (first | (with_reducible first | exact HB.out | apply below_alloc | apply pw_below_drewN | apply below_drew1) | exact HB.out))); (case aF => exact (fun k_ hk => (Nat.le_trans (below_size (by repeat (first | (with_reducible first | exact HB.out | apply below_alloc | apply pw_below_drewN | apply below_drew1) | exact HB.out))) hk))); (case aO => exact (by (with_reducible repeat (first | apply Kd.N_alloc | apply Kd.N_drewN | apply Kd.N_drew)); exact HO_6.out)); (case aS => exact (below_size (by repeat (first | (with_reducible first | exact HB.out | apply below_alloc | apply pw_below_drewN | apply below_drew1) | exact HB.out)))); (case aL => have := LMc14.out; omega); intro v163 w15 ho hb hg hat; rw [← Ny162.out] at ho; have n0_ := Aside0.mk (hb); have n1_ := Aside0.mk (ho); clear HB; clear HO_6; have HB := n0_; have HO164 := n1_; clear n0_ n1_; clear ho hb hg hat))
                go_roundg k1
                case measure => have := HK1.out; omega
                case rel => exact ⟨(y162), (wrap64 (x18_1 + 1)), (by first | rfl | (simp; done) | (simp [*]; done)), H', ⟨by have := HK1.out; omega⟩, ⟨by (with_reducible repeat (first | apply Kd.N_alloc | apply Kd.N_drewN | apply Kd.N_drew)); exact HO164.out⟩, ⟨by repeat (first | (with_reducible first | exact HB.out | apply below_alloc | apply pw_below_drewN | apply below_drew1) | exact HB.out)⟩⟩
              · rw [if_neg c14] at H
                exact absurd H (by simp)
            · rw [if_neg c12] at H
              exact absurd H (by simp)
          · rw [if_neg c11] at H
            exact absurd H (by simp)
        · rw [if_neg c10] at H
          have c10b0 : decide (x18_1 < (l0.length : Int)) = false := decide_eq_false c10
          clear c10
          simp only [Option.some.injEq, Prod.mk.injEq] at H
          obtain ⟨rfl, rfl⟩ := H
          go_wp2
          go_ret2
          exact ⟨_, by first | rfl | (simp [errW_none, errW_some] <;> rfl) | (simp [*, errW_none, errW_some] <;> rfl), by (with_reducible repeat (first | apply Kd.N_alloc | apply Kd.N_drewN | apply Kd.N_drew)); exact HO_6.out, by repeat (first | (with_reducible first | exact HB.out | apply below_alloc | apply pw_below_drewN | apply below_drew1) | exact HB.out)⟩
  · replace c4 := Bool.eq_false_iff.mpr c4
    subst c4
    have H1 : (some (([] : List (S49)), false)) = some (r1, r2) := by rw [if_neg (show ¬ (false = true) by decide)] at H; exact H
    clear H
    have H := H1
    clear H1
    simp only [Option.some.injEq, Prod.mk.injEq] at H
    obtain ⟨rfl, rfl⟩ := H
    go_enter Try.func21, Try.ntmps21
    go_wp2_with (first | ((with_reducible refine gate_callee (f := 51) rfl ?_); refine goesL_ (some 11) rfl rfl Try.func51 (by kernel_rfl) rfl #[.slice A0 l0.length c0, .int .i64 2, .int .i64 a1] rfl (by (try simp only [List.map_toArray, List.map_cons, List.map_nil]); first | done | rfl | (simp only [List.length_drop, List.length_take]; rfl)) ?_; (with_reducible refine (spec_l13Objects.calls k _ _ l0 2 a1 false _ ?side1 ?side2 A3.out).mono ?_); (case side1 => repeat (first | exact HR0.out | (with_reducible refine Kd.C_alloc ?_ _) | (with_reducible refine Kd.C_drewN ?_ _) | (with_reducible refine Kd.C_drew ?_))); (case side2 => exact HC0.out); rintro e w' ⟨rfl, ⟨nd, rfl⟩⟩; refine ⟨_, rfl, ?_⟩))
    go_ret2
    exact ⟨_, by first | rfl | (simp [errW_none, errW_some] <;> rfl) | (simp [*, errW_none, errW_some] <;> rfl), by first | exact Kd.S_nil _ _ _ _ _ | exact Kd.N_nil _ _ _ _ _ | exact Kd.V_nil _ _ _ _ _ | exact Kd.Q_nil _ _ _ _ _ | exact Kd.R_nil _ _ _ _ _, by repeat (first | (with_reducible first | exact HB.out | apply below_alloc | apply pw_below_drewN | apply below_drew1) | exact HB.out)⟩
end Go.Proofs.Ytgldcbcefncjjaa.F
end
section
/- Laid by a program of this claim's own. What the Go function does, as a Lean function, and the proof that the Go code does just that; Lean checks it. -/
namespace Go.Proofs.Ytgldcbcefncjjaa.F
open Go.RowKit Go.Proofs.YtgldcbcefncjjaaW.PrintWords Go.Proofs.YtgldcbcefncjjaaW.PrintLast Go.Proofs.YtgldcbcefncjjaaW.PrintMore
attribute [local go_sem] max2_int min2_int max_two min_two max_three min_three max_four min_four   -- for this text's walks alone
set_option linter.unusedVariables false
set_option linter.unusedSimpArgs false
/-! ### impl_PairForce: function 22 -/
def pairN : List S49 := [⟨(⟨#[112, 111, 105, 110, 116, 32, 97, 116, 32, 111, 110, 101]⟩ : ByteArray), [1, 2], 0⟩]
theorem pair_reps (W : World) (base : Nat) (v1 : Value) (h1 : (Kd.int .i64).R 3 W base (fun k => some k = v1.ownBlock) v1 [1, 2]) :
    ∀ j x, pairN[j]? = some x → k49.M W base (fun k => j = 0 ∧ some k = v1.ownBlock) x ((([.string (⟨#[112, 111, 105, 110, 116, 32, 97, 116, 32, 111, 110, 101]⟩ : ByteArray), v1, .int .i64 0] : List Value).drop (j * 3)).take 3) := by
  intro j x hj
  rcases j with _ | j
  · obtain rfl := Option.some.inj hj
    exact k49_mkM _ _ _ (⟨_, _, _⟩ : S49) (Kd.R_mono h1 (fun k hk => ⟨rfl, hk⟩))
  · exact absurd hj (by simp [pairN])
def impl_PairForce.l0 : Nat → Int → List S49 → List Int → Int → Option (List S49 × Bool)
  | 0, _, _, _, _ => none
  | k + 1, x1, x6, x17, x19 => if x19 < (x17.length : Int) then (if 0 ≤ x19 then (if x6.length < 2932031007402 then (impl_PairForce.l0 k x1 (x6 ++ [⟨if rd x17 x19 = x1 then (⟨#[121, 111, 117, 114, 115]⟩ : ByteArray) else (⟨#[112, 117, 116, 32, 105, 116, 32, 97, 119, 97, 121]⟩ : ByteArray), [], x1⟩]) x17 (wrap64 (x19 + 1))) else none) else none) else some (x6, true)
def impl_PairForce.f (k : Nat) (l0 : List Int) (a1 : Int) : Option (List S49 × Bool) := (impl_areObjects.f k l0 2 a1).bind fun b => if b = true then impl_PairForce.l0 k a1 pairN l0 0 else some ([], false)
set_option maxHeartbeats 16000000 in
set_option maxRecDepth 100000 in
theorem impl_PairForce.calls (k : Nat) (A0 : Option Addr) (c0 : Nat) (l0 : List Int) (a1 : Int) (r1 : List S49) (r2 : Bool) (w : World) (hr0 : Kd.C (Kd.int .i64) w A0 l0.length l0) (hc0 : l0.length ≤ c0) (h : impl_PairForce.f k l0 a1 = some (r1, r2)) :
    Calls Try.prog 22 #[.slice A0 l0.length c0, .int .i64 a1] w fun e w' => ∃ v0_ : Value, e = .returned (.tuple #[v0_, .bool r2]) ∧ Kd.S k49 49 w' w.heap.size (fun _ => True) v0_ r1 ∧ Below w.heap.size w w' := by
  have hu49 := Try.underlying49
  have HR0 := Aside0.mk hr0
  have HC0 := Aside0.mk hc0
  unfold impl_PairForce.f at h
  obtain ⟨b, h1, h⟩ := Option.bind_eq_some_iff.mp h
  have A3 := Aside0.mk h1
  clear hr0 hc0 h1
  cases b with
  | true =>
    rw [if_pos rfl] at h
    have H' := Aside0.mk h
    clear h
    go_enter Try.func22, Try.ntmps22
    go_wp2_with (first
      | (go_at_call 53; (with_reducible refine (impl_areObjects.calls k A0 c0 l0 2 a1 true _ HR0.out HC0.out A3.out).mono ?_); rintro e w4 ⟨rfl, hd⟩; have HB4 := Aside0.mk hd.below; clear hd)
      | ((with_reducible refine gate_dst (N := 14) rfl ?_); refine Kd.R_lit (Kd.int .i64) _ 3 ?hg (N := 14) ?hd (xs := ([1, 2] : List Int)) (inner := [.int .i64 1, .int .i64 2]) (ok := fun _ => True) (okp := fun _ => True) ?hr ?hp (fun _ hk => hk) trivial (Below.refl _ _) (Nat.le_refl _) (by simp) ?_; (case hd => rfl); (case hg => rfl); (case hr => first | (go_simp; done) | (go_simp; rfl)); (case hp => exact (Reps.one (show Kd.M (Kd.int .i64) _ _ _ 1 [.int .i64 1] from rfl) (Reps.one (show Kd.M (Kd.int .i64) _ _ _ 2 [.int .i64 2] from rfl) (Reps.none _ _)))); intro v1 w5 ho hb hg_ hnew_; clear hg_ hnew_; obtain ⟨B1, e1, ev_⟩ := Kd.R_slice ho; have ev2_ : v1 = .slice B1 2 e1 := ev_; clear ev_; subst ev2_; have R1 := Aside0.mk (Kd.R_lower (Kd.R_tight rfl ho) HB4.out.size); have HB5 := Aside0.mk (below_step HB4.out hb); clear ho hb HB4)
      | ((with_reducible refine gate_dst (N := 16) rfl ?_); refine Kd.S_lits k49 _ 49 ?hg (N := 16) ?hd (xs := pairN) (inner := [.string (⟨#[112, 111, 105, 110, 116, 32, 97, 116, 32, 111, 110, 101]⟩ : ByteArray), .slice B1 2 e1, .int .i64 0]) (ok := fun _ => True) (fun j k => j = 0 ∧ some k = (Value.slice B1 2 e1).ownBlock) ?hr ?hl (pair_reps _ _ _ R1.out) (fun i j k h1 h2 => h1.1.trans h2.1.symm) (fun _ _ _ => trivial) trivial HB5.out HB5.out.size ?hm ?_; (case hd => rfl); (case hg => rfl); (case hr => first | (go_simp; done) | (go_simp; rfl)); (case hl => rfl); (case hm => exact (by decide : (1 : Nat) ≤ 9223372036854775807)); intro v8 w8 ho hb hg_ hnew_; clear hg_ hnew_; have HO := Aside0.mk ho; have HB := Aside0.mk hb; clear ho hb R1 HB5))
    go_loopg [6, 8, 9, 19] k (fun kq v6 v8 v9 v19 w' => ∃ (x6 : List S49) (x19 : Int), v19 = .int .i64 x19 ∧ Aside0 (impl_PairForce.l0 kq a1 x6 l0 x19 = some (r1, r2)) ∧ Aside0 (kq ≤ k) ∧ Aside0 (Kd.S k49 49 w' w.heap.size (fun _ => True) v6 x6) ∧ Aside0 (Below w.heap.size w w'))
    case atStart => exact ⟨pairN, 0, rfl, H', ⟨Nat.le_refl _⟩, HO, HB⟩
    case round =>
      clear H' HO HB
      obtain ⟨x6, x19, rfl, HA, HK1, HO, HB⟩ := hrel
      cases gk with
      | zero => exact absurd HA.out (by simp [impl_PairForce.l0])
      | succ k1 =>
        have H := HA.out
        clear HA
        simp only [impl_PairForce.l0] at H
        by_cases c5 : x19 < (l0.length : Int)
        · rw [if_pos c5] at H
          by_cases c6 : 0 ≤ x19
          · rw [if_pos c6] at H
            by_cases c7 : x6.length < 2932031007402
            · rw [if_pos c7] at H
              have LM := Aside0.mk c7
              obtain ⟨ad, ead, hx0⟩ := Kd.at_int (Kd.C_below HR0.out HB.out) x19 c6 c5
              cases ead
              have c5b0 : decide (x19 < (l0.length : Int)) = true := decide_eq_true c5
              have c6b0 : decide (0 ≤ x19) = true := decide_eq_true c6
              replace c5 := eq_true c5
              replace c6 := eq_true c6
              clear c7
              generalize hy : rd l0 x19 = y at hx0 H
              clear hy
              by_cases c8 : y = a1
              · rw [if_pos c8] at H
                have c8b0 : (y == a1) = true := beq_iff_eq.mpr c8
                have H' := Aside0.mk H
                clear H c8
                go_wp2_with (((with_reducible refine gate_builtin (b := .append) (xs := #[.tmp 26, .tmp 30]) rfl ?_); at_builtin; refine Kd.S_append k49 w.heap.size rfl (.tmp 26) (.tmp 30) 23 49 (.agg #[(.string ⟨#[]⟩), (.slice none 0 0), (.int .i64 0)]) 48 rfl Try.underlying23 info49 rfl (by decide) (by omega) u6 x6 (⟨(⟨#[121, 111, 117, 114, 115]⟩ : ByteArray), ([] : List Int), a1⟩ : S49) [.string (⟨#[121, 111, 117, 114, 115]⟩ : ByteArray), .slice none 0 0, .int .i64 a1] (fun _ => True) (fun _ => False) rfl rfl ?aP (fun k_ hk_ => hk_.elim) ?aF ?aO HB.out HB.out.size ?aL ?_; (case aP => exact k49_mkM _ _ _ (⟨(⟨#[121, 111, 117, 114, 115]⟩ : ByteArray), ([] : List Int), a1⟩ : S49) (Kd.R_nil _ _ _ _ _)); (case aF => exact (fun _ _ => trivial)); (case aO => exact Kd.S_mono HO.out (fun k_ hk => ⟨trivial, fun e_ => e_⟩)); (case aL => have := LM.out; omega); intro v9 w9 ho hb hg hat; have HO9 := Aside0.mk ho; have HB9 := Aside0.mk hb; clear ho hb hg hat HO HB))
                go_roundg k1
                case measure => have := HK1.out; omega
                case rel => exact ⟨_, _, rfl, H', ⟨by have := HK1.out; omega⟩, HO9, HB9⟩
              · rw [if_neg c8] at H
                have c8b0 : (y == a1) = false := beq_eq_false_iff_ne.mpr c8
                have H' := Aside0.mk H
                clear H c8
                go_wp2_with (((with_reducible refine gate_builtin (b := .append) (xs := #[.tmp 26, .tmp 30]) rfl ?_); at_builtin; refine Kd.S_append k49 w.heap.size rfl (.tmp 26) (.tmp 30) 23 49 (.agg #[(.string ⟨#[]⟩), (.slice none 0 0), (.int .i64 0)]) 48 rfl Try.underlying23 info49 rfl (by decide) (by omega) u6 x6 (⟨(⟨#[112, 117, 116, 32, 105, 116, 32, 97, 119, 97, 121]⟩ : ByteArray), ([] : List Int), a1⟩ : S49) [.string (⟨#[112, 117, 116, 32, 105, 116, 32, 97, 119, 97, 121]⟩ : ByteArray), .slice none 0 0, .int .i64 a1] (fun _ => True) (fun _ => False) rfl rfl ?aP (fun k_ hk_ => hk_.elim) ?aF ?aO HB.out HB.out.size ?aL ?_; (case aP => exact k49_mkM _ _ _ (⟨(⟨#[112, 117, 116, 32, 105, 116, 32, 97, 119, 97, 121]⟩ : ByteArray), ([] : List Int), a1⟩ : S49) (Kd.R_nil _ _ _ _ _)); (case aF => exact (fun _ _ => trivial)); (case aO => exact Kd.S_mono HO.out (fun k_ hk => ⟨trivial, fun e_ => e_⟩)); (case aL => have := LM.out; omega); intro v9 w9 ho hb hg hat; have HO9 := Aside0.mk ho; have HB9 := Aside0.mk hb; clear ho hb hg hat HO HB))
                go_roundg k1
                case measure => have := HK1.out; omega
                case rel => exact ⟨_, _, rfl, H', ⟨by have := HK1.out; omega⟩, HO9, HB9⟩
            · rw [if_neg c7] at H
              exact absurd H (by simp)
          · rw [if_neg c6] at H
            exact absurd H (by simp)
        · rw [if_neg c5] at H
          simp only [Option.some.injEq, Prod.mk.injEq] at H
          obtain ⟨rfl, rfl⟩ := H
          have c5b0 : decide (x19 < (l0.length : Int)) = false := decide_eq_false c5
          clear c5
          go_wp2
          go_ret2
          exact ⟨_, rfl, HO.out, HB.out⟩
  | false =>
    rw [if_neg (by decide)] at h
    simp only [Option.some.injEq, Prod.mk.injEq] at h
    obtain ⟨rfl, rfl⟩ := h
    go_enter Try.func22, Try.ntmps22
    go_wp2_with (go_at_call 53; (with_reducible refine (impl_areObjects.calls k A0 c0 l0 2 a1 false _ HR0.out HC0.out A3.out).mono ?_); rintro e w4 ⟨rfl, hd⟩; have HB4 := Aside0.mk hd.below; clear hd)
    go_ret2
    exact ⟨_, rfl, Kd.S_nil _ _ _ _ _, HB4.out⟩
end Go.Proofs.Ytgldcbcefncjjaa.F
end
section
/- Laid by a program of this claim's own. What the Go function does, as a Lean function, and the proof that the Go code does just that; Lean checks it. -/
namespace Go.Proofs.Ytgldcbcefncjjaa.F
open Go.RowKit Go.Proofs.YtgldcbcefncjjaaW.PrintWords Go.Proofs.YtgldcbcefncjjaaW.PrintLast Go.Proofs.YtgldcbcefncjjaaW.PrintMore
attribute [local go_sem] max2_int min2_int max_two min_two max_three min_three max_four min_four   -- for this text's walks alone
set_option linter.unusedVariables false
set_option linter.unusedSimpArgs false
/-! ### laws_FnExactPairForce: function 4 -/
open Classical in
/-- What is to be shown of numbers and lists: both functions make the same; marks that are laid are held. -/
noncomputable def laws_FnExactPairForce.f (k : Nat) (l0 : List Int) (a1 : Int) : Option Bool :=
  if (l0.length : Int) > 1048576 then some true else
  (laws_toIntS.f k l0).bind fun X => (spec_PairForce.f k X a1).bind fun R => (laws_markIntS.f k X 1).bind fun M => (laws_markNodeS.f k R.1 1).bind fun m =>
    if impl_PairForce.f k X a1 = some R ∧ laws_eqNodeS.f k R.1 R.1 = some true ∧ laws_eqIntS.f k X X = some true ∧ 0 ≤ M.1 ∧ 0 ≤ m.1 ∧ laws_heldNodeS.f k m.2 1 = some m.1 then some true else none
set_option maxHeartbeats 16000000 in
set_option maxRecDepth 100000 in
theorem laws_FnExactPairForce.calls_big (A0 : Option Addr) (c0 : Nat) (l0 : List Int) (a1 : Int) (w : World) (hbig : (l0.length : Int) > 1048576) :
    Calls Try.prog 4 #[.slice A0 l0.length c0, .int .i64 a1] w fun e w' => e = .returned (.bool true) ∧ Below w.heap.size w w' := by
  have h1 : decide (1048576 < l0.length) = true := decide_eq_true (by omega)
  have h2 : decide (1048576 < (l0.length : Int)) = true := decide_eq_true (by omega)
  have HB := Aside0.mk (Below.refl w.heap.size w)
  clear hbig
  go_enter Try.func4, Try.ntmps4
  go_wp2
  go_ret
  exact ⟨rfl, HB.out⟩
set_option maxHeartbeats 16000000 in
set_option maxRecDepth 100000 in
theorem laws_FnExactPairForce.calls_in (k : Nat) (A0 : Option Addr) (c0 : Nat) (l0 : List Int) (a1 : Int) (w : World) (hr0 : Kd.C (Kd.int .i64) w A0 l0.length l0) (hc0 : l0.length ≤ c0) (hle : ¬ (l0.length : Int) > 1048576) (X : List Int) (ht : laws_toIntS.f k l0 = some X) (r : List S49) (b : Bool) (hs : spec_PairForce.f k X a1 = some (r, b)) (M1 : Int) (M2 : List Int) (hM : laws_markIntS.f k X 1 = some (M1, M2)) (m1 : Int) (m2 : List S49) (hm : laws_markNodeS.f k r 1 = some (m1, m2)) (hi : impl_PairForce.f k X a1 = some (r, b)) (he : laws_eqNodeS.f k r r = some true) (hq : laws_eqIntS.f k X X = some true) (hn1 : 0 ≤ M1) (hn2 : 0 ≤ m1) (hh : laws_heldNodeS.f k m2 1 = some m1) :
    Calls Try.prog 4 #[.slice A0 l0.length c0, .int .i64 a1] w fun e w' => e = .returned (.bool true) ∧ Below w.heap.size w w' := by
  have HR0 := Aside0.mk hr0
  have HC0 := Aside0.mk hc0
  have HT := Aside0.mk ht
  have HQ := Aside0.mk hq
  have HM := Aside0.mk hM
  have g2 : decide (M1 < 0) = false := decide_eq_false (by omega)
  have g7 : decide (1048576 < l0.length) = false := decide_eq_false (by omega)
  have g8 : decide (1048576 < (l0.length : Int)) = false := decide_eq_false (by omega)
  have HS := Aside0.mk hs
  have HI := Aside0.mk hi
  have HE := Aside0.mk he
  have HM1 := Aside0.mk hm
  have HH := Aside0.mk hh
  have g3 : decide (m1 < 0) = false := decide_eq_false (by omega)
  have g4 : (b == b) = true := beq_self_eq_true b
  have g5 : (b != b) = false := bne_self_eq_false b
  clear hr0 hc0 ht hq hM hn1 hs hm hi he hn2 hh hle
  go_enter Try.func4, Try.ntmps4
  go_wp2_with (go_at_call 14; (with_reducible refine (laws_toIntS.calls k A0 c0 l0 X _ HR0.out HC0.out HT.out).mono ?_); rintro e w1 ⟨v, rfl, ho, hb⟩; obtain ⟨A1, c1, rfl⟩ := Kd.R_slice ho; have B1 := Aside0.mk hb; have C1 := Aside0.mk (Kd.R_reads' ho).2.2; have L1 := Aside0.mk (Kd.R_reads' ho).2.1; clear ho hb)
  go_wp2_with (go_at_call 21; (with_reducible refine (spec_PairForce.calls k A1 c1 X a1 r b _ C1.out L1.out HS.out).mono ?_); rintro e w2 ⟨v, rfl, ho, hb⟩; obtain ⟨A2, c2, rfl⟩ := Kd.N_slice ho; have B2 := Aside0.mk (below_step B1.out hb); have C2 := Aside0.mk (Kd.N_reads' ho).2.2; have L2 := Aside0.mk (Kd.N_reads' ho).2.1; clear ho hb B1 C1 L1)
  go_wp2_with (go_at_call 14; (with_reducible refine (laws_toIntS.calls k A0 c0 l0 X _ (Kd.C_below HR0.out B2.out) HC0.out HT.out).mono ?_); rintro e w3 ⟨v, rfl, ho, hb⟩; obtain ⟨A3, c3, rfl⟩ := Kd.R_slice ho; have D3 := Aside0.mk hb; have X3 := Aside0.mk ho; have SZ := Aside0.mk hb.size; have T0 := Aside0.mk (Kd.R_lt ho); clear ho hb)
  go_wp2_with (go_at_call 22; (with_reducible refine (impl_PairForce.calls k A3 c3 X a1 r b _ (Kd.R_reads' X3.out).2.2 (Kd.R_reads' X3.out).2.1 HI.out).mono ?_); rintro e w4 ⟨v, rfl, ho, hb⟩; obtain ⟨A4, c4, rfl⟩ := Kd.S_slice ho; have D4 := Aside0.mk (below_step D3.out hb); have G4 := Aside0.mk ho; have X4 := Aside0.mk (Kd.R_below X3.out hb); clear ho hb D3 X3)
  go_wp2_with (go_at_call 16; (with_reducible refine (laws_eqNodeS.calls k A4 c4 r A2 c2 r true _ (Kd.S_reads' G4.out).2.2 (Kd.S_reads' G4.out).2.1 (Kd.C_below C2.out D4.out) L2.out HE.out).mono ?_); rintro e w5 ⟨rfl, hd⟩; have D5 := Aside0.mk (below_step D4.out hd); have G5 := Aside0.mk (Kd.S_below G4.out hd); have X5 := Aside0.mk (Kd.R_below X4.out hd); clear hd D4 G4 X4)
  go_wp2_with (go_at_call 14; (with_reducible refine (laws_toIntS.calls k A0 c0 l0 X _ (Kd.C_below HR0.out (below_step B2.out D5.out)) HC0.out HT.out).mono ?_); rintro e w6 ⟨v, rfl, ho, hb⟩; obtain ⟨A6, c6, rfl⟩ := Kd.R_slice ho; have D6 := Aside0.mk (below_step D5.out hb); have G6 := Aside0.mk (Kd.S_below G5.out hb); have X6 := Aside0.mk (Kd.R_below X5.out hb); have C6 := Aside0.mk (Kd.R_reads' ho).2.2; have L6 := Aside0.mk (Kd.R_reads' ho).2.1; clear ho hb D5 G5 X5)
  go_wp2_with (go_at_call 17; (with_reducible refine (laws_eqIntS.calls k A3 c3 X A6 c6 X true _ (Kd.R_reads' X6.out).2.2 (Kd.R_reads' X6.out).2.1 C6.out L6.out HQ.out).mono ?_); rintro e w7 ⟨rfl, hd⟩; have D7 := Aside0.mk (below_step D6.out hd.below); have G7 := Aside0.mk (Kd.S_below G6.out hd.below); have X7 := Aside0.mk (Kd.R_tight rfl (Kd.R_below X6.out hd.below)); clear hd D6 G6 X6 C6 L6)
  go_wp2_with (go_at_call 18; (with_reducible refine (laws_markIntS.calls k (fun k_ => some k_ = (Value.slice A3 X.length c3).ownBlock) _ X 1 M1 M2 w2 _ D7.out X7.out HM.out).mono ?_); rintro e w8 ⟨rfl, ho, hb, hk⟩; have D8 := Aside0.mk hb; have G8 := Aside0.mk (Kd.S_lower (S_past G7.out hk (fun k_ h_ e_ => Nat.lt_irrefl _ (Nat.lt_of_lt_of_le (T0.out k_ e_.symm) h_))) SZ.out); clear ho hb hk D7 G7 X7)
  go_wp2_with (go_at_call 16; (with_reducible refine (laws_eqNodeS.calls k A4 c4 r A2 c2 r true _ (Kd.S_reads' G8.out).2.2 (Kd.S_reads' G8.out).2.1 (Kd.C_below C2.out D8.out) L2.out HE.out).mono ?_); rintro e w9 ⟨rfl, hd⟩; have D9 := Aside0.mk (below_step D8.out hd); have G9 := Aside0.mk (Kd.S_below G8.out hd); clear hd D8 G8)
  go_wp2_with (go_at_call 19; (with_reducible refine (laws_markNodeS.calls k (fun _ => True) _ r 1 m1 m2 w2 _ D9.out G9.out HM1.out).mono ?_); rintro e w10 ⟨rfl, ho, hb, hk⟩; have D10 := Aside0.mk hb; have G10 := Aside0.mk ho; have E0 := Aside0.mk (Kd.S_reads' ho).1; clear ho hb hk D9 G9)
  go_wp2_with (go_at_call 20; refine calls_of_args (args' := #[.slice A4 m2.length c4, .int .i64 1]) (by rw [← E0.out]) ?_; (with_reducible refine (laws_heldNodeS.calls k A4 c4 m2 1 m1 _ (Kd.S_reads' G10.out).2.2 (by rw [← E0.out]; exact (Kd.S_reads' G10.out).2.1) HH.out).mono ?_); rintro e w11 ⟨rfl, hd⟩; have D11 := Aside0.mk (below_step D10.out hd); have G11 := Aside0.mk (Kd.S_below G10.out hd); clear hd D10 G10)
  go_wp2_with (go_at_call 14; (with_reducible refine (laws_toIntS.calls k A0 c0 l0 X _ (Kd.C_below HR0.out (below_step B2.out D11.out)) HC0.out HT.out).mono ?_); rintro e w12 ⟨v, rfl, ho, hb⟩; obtain ⟨A12, c12, rfl⟩ := Kd.R_slice ho; have D12 := Aside0.mk (below_step D11.out hb); have G12 := Aside0.mk (Kd.S_below G11.out hb); have C12 := Aside0.mk (Kd.R_reads' ho).2.2; have L12 := Aside0.mk (Kd.R_reads' ho).2.1; clear ho hb D11 G11)
  go_wp2_with (go_at_call 22; (with_reducible refine (impl_PairForce.calls k A12 c12 X a1 r b _ C12.out L12.out HI.out).mono ?_); rintro e w13 ⟨v, rfl, ho, hb⟩; obtain ⟨A13, c13, rfl⟩ := Kd.S_slice ho; have D13 := Aside0.mk (below_step D12.out hb); have G13 := Aside0.mk (Kd.S_below G12.out hb); have C13 := Aside0.mk (Kd.S_reads' ho).2.2; have L13 := Aside0.mk (Kd.S_reads' ho).2.1; clear ho hb D12 G12 C12 L12)
  go_wp2_with (go_at_call 16; (with_reducible refine (laws_eqNodeS.calls k A13 c13 r A2 c2 r true _ C13.out L13.out (Kd.C_below C2.out D13.out) L2.out HE.out).mono ?_); rintro e w14 ⟨rfl, hd⟩; have D14 := Aside0.mk (below_step D13.out hd); have G14 := Aside0.mk (Kd.S_below G13.out hd); clear hd D13 G13 C13 L13)
  go_wp2_with (go_at_call 20; refine calls_of_args (args' := #[.slice A4 m2.length c4, .int .i64 1]) (by rw [← E0.out]) ?_; (with_reducible refine (laws_heldNodeS.calls k A4 c4 m2 1 m1 _ (Kd.S_reads' G14.out).2.2 (by rw [← E0.out]; exact (Kd.S_reads' G14.out).2.1) HH.out).mono ?_); rintro e w15 ⟨rfl, hd⟩; have D15 := Aside0.mk (below_step D14.out hd); clear hd D14 G14)
  go_ret
  exact ⟨rfl, below_step B2.out D15.out⟩
theorem laws_FnExactPairForce.calls (k : Nat) (A0 : Option Addr) (c0 : Nat) (l0 : List Int) (a1 : Int) (r : Bool) (w : World) (hr0 : Kd.C (Kd.int .i64) w A0 l0.length l0) (hc0 : l0.length ≤ c0) (h : laws_FnExactPairForce.f k l0 a1 = some r) :
    Calls Try.prog 4 #[.slice A0 l0.length c0, .int .i64 a1] w fun e w' => e = .returned (.bool r) ∧ Below w.heap.size w w' := by
  unfold laws_FnExactPairForce.f at h
  by_cases hbig : (l0.length : Int) > 1048576
  · rw [if_pos hbig] at h
    obtain rfl := Option.some.inj h
    exact laws_FnExactPairForce.calls_big A0 c0 l0 a1 w hbig
  · rw [if_neg hbig] at h
    obtain ⟨X, h2, h⟩ := Option.bind_eq_some_iff.mp h
    obtain ⟨⟨R1, R2⟩, h3, h⟩ := Option.bind_eq_some_iff.mp h
    obtain ⟨⟨M1, M2⟩, h4, h⟩ := Option.bind_eq_some_iff.mp h
    obtain ⟨⟨m1, m2⟩, h5, h⟩ := Option.bind_eq_some_iff.mp h
    split at h
    · rename_i hc
      obtain ⟨q1, q2, q3, q4, q5, q6⟩ := hc
      obtain rfl := Option.some.inj h
      exact laws_FnExactPairForce.calls_in k A0 c0 l0 a1 w hr0 hc0 hbig X h2 R1 R2 h3 M1 M2 h4 m1 m2 h5 q1 q2 q3 q4 q5 q6
    · cases h
end Go.Proofs.Ytgldcbcefncjjaa.F
end
section
namespace Go.Proofs.Ytgldcbcefncjjaa.F
open Go.RowKit Go.Proofs.YtgldcbcefncjjaaW.PrintWords
/-- What is to be shown of numbers and lists. -/
def laws_FnExactPairForce.Pure : Prop := ∀ (l0 : List (Int)) (a1 : Int), ((l0.length * 8 ≤ 140737488351232 ∧ l0.length ≤ maxLen ∧ ∀ yl0 ∈ l0, ((Lit.int .i64 yl0).wf = true))) → (((Lit.int .i64 a1).wf = true)) → ∃ k, laws_FnExactPairForce.f k l0 a1 = some true
end Go.Proofs.Ytgldcbcefncjjaa.F
end
section
/- The force with two objects. -/
namespace Go.Proofs.Ytgldcbcefncjjaa.F
open Go.RowKit Go.Proofs.YtgldcbcefncjjaaW.PrintWords Go.Proofs.YtgldcbcefncjjaaW.PrintLast Go.Proofs.YtgldcbcefncjjaaW.PrintMore
set_option linter.unusedVariables false
set_option linter.unusedSimpArgs false
def sayN (w x : Int) : IN := ⟨if x = w then (⟨#[121, 111, 117, 114, 115]⟩ : ByteArray) else (⟨#[112, 117, 116, 32, 105, 116, 32, 97, 119, 97, 121]⟩ : ByteArray), [], w⟩
theorem impl_pair_at (w : Int) (rest : List Int) : ∀ (pre : List Int) (acc : List IN), (pre ++ rest).length ≤ 1048576 → acc.length = pre.length + 1 →
    Ev (fun k => impl_PairForce.l0 k w acc (pre ++ rest) (pre.length : Int)) (acc ++ rest.map (sayN w), true) := by
  induction rest with
  | nil =>
    intro pre acc hb ha
    refine Ev.step (f := fun _ => some (acc ++ [], true)) (fun k => ?_) (Ev.now _)
    show impl_PairForce.l0 (k + 1) _ _ _ _ = _
    rw [impl_PairForce.l0, if_neg (mid_nlt _), List.append_nil]
  | cons x rest ih =>
    intro pre acc hb ha
    have hp : pre.length ≤ 1048576 := by simp at hb; omega
    have h := ih (pre ++ [x]) (acc ++ [sayN w x]) (by simpa using hb) (by simpa using ha)
    rw [← mid_cons, ← mid_succ pre x (by omega)] at h
    rw [List.map_cons, show acc ++ sayN w x :: rest.map (sayN w) = acc ++ [sayN w x] ++ rest.map (sayN w) by simp]
    refine Ev.step (fun k => ?_) h
    show impl_PairForce.l0 (k + 1) _ _ _ _ = _
    rw [impl_PairForce.l0, if_pos (mid_lt _ _ _), if_pos (nn _), if_pos (by omega), mid_rd]
    rfl
theorem say_eq (w x : Int) : spec_l13Say.f (x == w) = some (sayN w x).f0 := by
  unfold spec_l13Say.f sayN
  by_cases c : x = w
  · rw [if_pos (beq_iff_eq.mpr c), if_pos c]
  · rw [if_neg (by simpa using c), if_neg c]
theorem spec_pair_at (w : Int) (rest : List Int) : ∀ (pre : List Int) (acc : List IN), (pre ++ rest).length ≤ 1048576 → acc.length = pre.length + 1 →
    Ev (fun k => spec_PairForce.l0 k w acc (pre ++ rest) ((pre ++ rest).length : Int) (pre.length : Int)) (acc ++ rest.map (sayN w), true) := by
  induction rest with
  | nil =>
    intro pre acc hb ha
    refine Ev.step (f := fun _ => some (acc ++ [], true)) (fun k => ?_) (Ev.now _)
    show spec_PairForce.l0 (k + 1) _ _ _ _ _ = _
    rw [spec_PairForce.l0, if_neg (mid_nlt _), List.append_nil]
  | cons x rest ih =>
    intro pre acc hb ha
    have hp : pre.length ≤ 1048576 := by simp at hb; omega
    have h := ih (pre ++ [x]) (acc ++ [sayN w x]) (by simpa using hb) (by simpa using ha)
    rw [← mid_cons, ← mid_succ pre x (by omega)] at h
    rw [List.map_cons, show acc ++ sayN w x :: rest.map (sayN w) = acc ++ [sayN w x] ++ rest.map (sayN w) by simp]
    refine Ev.step (fun k => ?_) h
    show spec_PairForce.l0 (k + 1) _ _ _ _ _ = _
    rw [spec_PairForce.l0, if_pos (mid_lt _ _ _), if_pos (nn _), if_pos (mid_lt _ _ _), mid_rd, say_eq, Option.bind_some, if_pos (by omega)]
    rfl
def pairR (l : List Int) (a : Int) : List IN × Bool := if objB l 2 a = true then (pairN ++ l.map (sayN a), true) else ([], false)
theorem spec_pair_ev (l : List Int) (a : Int) (hb : l.length ≤ 1048576) : Ev (fun k => spec_PairForce.f k l a) (pairR l a) := by
  unfold spec_PairForce.f pairR
  refine Ev.bind (objs_ev l 2 a hb) ?_
  by_cases c : objB l 2 a = true
  · simp only [if_pos c]; exact spec_pair_at a l [] pairN hb rfl
  · simp only [if_neg c]; exact Ev.now _
theorem impl_pair_ev (l : List Int) (a : Int) (hb : l.length ≤ 1048576) : Ev (fun k => impl_PairForce.f k l a) (pairR l a) := by
  unfold impl_PairForce.f pairR
  refine Ev.bind (areObj_ev l 2 a hb) ?_
  by_cases c : objB l 2 a = true
  · simp only [if_pos c]; exact impl_pair_at a l [] pairN hb rfl
  · simp only [if_neg c]; exact Ev.now _
theorem objB_len {l : List Int} {n a : Int} (h : objB l n a = true) : (l.length : Int) = n := by
  unfold objB at h
  simp only [Bool.and_eq_true, decide_eq_true_eq] at h
  exact h.2.1
end Go.Proofs.Ytgldcbcefncjjaa.F
end
