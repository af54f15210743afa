import Derived.Test.YtbeehklibkeecaaZGFnExactPlacesFor4
import Derived.Test.YtbeehklibkeecaaZGFnExactPlacesFor7
import Derived.Test.YtbeehklibkeecaaZGFnExactPlacesFor12
import Derived.Test.YtbeehklibkeecaaZGFnExactPlacesFor11
import Derived.Test.YtbeehklibkeecaaZGFnExactPlacesFor6
import Derived.Test.YtbeehklibkeecaaZGFnExactPlacesFor8
section
/- Laid by a program of this claim's own. What the Go function does, as a Lean function, and the proof that the Go code does just that; Lean checks it. -/
namespace Go.Proofs.Ytbeehklibkeecaa.F
open Go.RowKit Go.Proofs.YtbeehklibkeecaaW.PrintWords Go.Proofs.YtbeehklibkeecaaW.PrintLast Go.Proofs.YtbeehklibkeecaaW.PrintMore
attribute [local go_sem] max2_int min2_int max_two min_two max_three min_three max_four min_four   -- for this text's walks alone
set_option linter.unusedVariables false
set_option linter.unusedSimpArgs false
/-! ### laws_FnExactShortestFaro: function 10 -/
mutual
def laws_FnExactShortestFaro.j0 : Nat → Int → Int → Int → List Int → Bool → List Int → Bool → Option (Bool)
  | 0, _, _, _, _, _, _, _ => none
  | k + 1, x0, x1, x2, x7, x8, x9, x37 => if x37 = true then (some false) else ((laws_markIntS.f k x9 1).bind fun bt884 => ((laws_heldIntS.f k bt884.2 1).bind fun t886 => (if t886 < 0 then (some false) else (if t886 = bt884.1 then ((impl_ShortestFaro.f k x0 x1 x2).bind fun bt887 => ((laws_eqIntS.f k bt887.1 x7).bind fun t891 => (if t891 = true then (laws_FnExactShortestFaro.j1 k bt884.2 bt884.1 (bt887.2 != x8)) else (laws_FnExactShortestFaro.j1 k bt884.2 bt884.1 true)))) else (some false)))))
def laws_FnExactShortestFaro.j1 : Nat → List Int → Int → Bool → Option (Bool)
  | 0, _, _, _ => none
  | k + 1, x9, x11, x64 => if x64 = true then (some false) else ((laws_heldIntS.f k x9 1).bind fun t892 => (if t892 < 0 then (some false) else (if t892 = x11 then (some true) else (some false))))
end
def laws_FnExactShortestFaro.f (k : Nat) (a0 : Int) (a1 : Int) (a2 : Int) : Option (Bool) := (spec_ShortestFaro.f k a0 a1 a2).bind fun bt875 => ((impl_ShortestFaro.f k a0 a1 a2).bind fun bt879 => ((laws_eqIntS.f k bt879.1 bt875.1).bind fun t883 => (if t883 = true then (laws_FnExactShortestFaro.j0 k a0 a1 a2 bt875.1 bt875.2 bt879.1 (bt879.2 != bt875.2)) else (laws_FnExactShortestFaro.j0 k a0 a1 a2 bt875.1 bt875.2 bt879.1 true))))
set_option maxHeartbeats 8000000 in
set_option maxRecDepth 100000 in
theorem laws_FnExactShortestFaro.calls (k : Nat) (a0 : Int) (a1 : Int) (a2 : Int) (r : Bool) (w : World) (h : laws_FnExactShortestFaro.f k a0 a1 a2 = some r) :
    Calls Try.prog 10 #[.int .i64 a0, .int .i64 a1, .int .i64 a2] w fun e w' => e = .returned (.bool r) ∧ Below w.heap.size w w' := by
  have HB := Aside0.mk (Below.refl w.heap.size w)
  have H : ((spec_ShortestFaro.f k a0 a1 a2).bind fun bt875 => ((impl_ShortestFaro.f k a0 a1 a2).bind fun bt879 => ((laws_eqIntS.f k bt879.1 bt875.1).bind fun t883 => (if t883 = true then (laws_FnExactShortestFaro.j0 k a0 a1 a2 bt875.1 bt875.2 bt879.1 (bt879.2 != bt875.2)) else (laws_FnExactShortestFaro.j0 k a0 a1 a2 bt875.1 bt875.2 bt879.1 true))))) = some r := h
  clear h
  replace H := Option.bind_eq_some_iff.mp H
  obtain ⟨⟨t875, t876⟩, A40, H⟩ := H
  replace H : ((impl_ShortestFaro.f k a0 a1 a2).bind fun bt879 => ((laws_eqIntS.f k bt879.1 t875).bind fun t883 => (if t883 = true then (laws_FnExactShortestFaro.j0 k a0 a1 a2 t875 t876 bt879.1 (bt879.2 != t876)) else (laws_FnExactShortestFaro.j0 k a0 a1 a2 t875 t876 bt879.1 true)))) = some r := H
  have A4 := Aside0.mk A40
  clear A40
  replace H := Option.bind_eq_some_iff.mp H
  obtain ⟨⟨t879, t880⟩, A50, H⟩ := H
  replace H : ((laws_eqIntS.f k t879 t875).bind fun t883 => (if t883 = true then (laws_FnExactShortestFaro.j0 k a0 a1 a2 t875 t876 t879 (t880 != t876)) else (laws_FnExactShortestFaro.j0 k a0 a1 a2 t875 t876 t879 true))) = some r := H
  have A5 := Aside0.mk A50
  clear A50
  have HC6 := Aside0.mk H
  clear H
  go_enter Try.func10, Try.ntmps10
  go_upto_region 3 with (first | ((with_reducible refine gate_callee (f := 37) rfl ?_); refine goesL_ (some 19) rfl rfl Try.func37 (by kernel_rfl) rfl #[.int .i64 a0, .int .i64 a1, .int .i64 a2] rfl (by (try simp only [List.map_toArray, List.map_cons, List.map_nil]); first | done | rfl | (simp only [List.length_drop, List.length_take]; rfl)) ?_; (with_reducible refine (spec_ShortestFaro.calls k a0 a1 a2 t875 t876 _ A4.out).mono ?_); rintro e w7 ⟨v877, rfl, ho0, hb⟩; refine ⟨_, rfl, ?_⟩; have n0_ := Aside0.mk (Kd.R_lower ho0 (below_size (by repeat (first | (with_reducible first | exact HB.out | apply below_alloc | apply pw_below_drewN | apply below_drew1) | exact HB.out)))); have n1_ := Aside0.mk (below_step (by repeat (first | (with_reducible first | exact HB.out | apply below_alloc | apply pw_below_drewN | apply below_drew1) | exact HB.out)) hb); clear HB; have HO878 := n0_; have HB := n1_; clear n0_ n1_; (try clear hb); (try clear hb2); (try clear hk); (try clear hi); (try clear ho0)) | ((with_reducible refine gate_callee (f := 34) rfl ?_); refine goesL_ (some 26) rfl rfl Try.func34 (by kernel_rfl) rfl #[.int .i64 a0, .int .i64 a1, .int .i64 a2] rfl (by (try simp only [List.map_toArray, List.map_cons, List.map_nil]); first | done | rfl | (simp only [List.length_drop, List.length_take]; rfl)) ?_; (with_reducible refine (impl_ShortestFaro.calls k a0 a1 a2 t879 t880 _ A5.out).mono ?_); rintro e w8 ⟨v881, rfl, ho0, hb⟩; refine ⟨_, rfl, ?_⟩; have n0_ := Aside0.mk (Kd.R_elder' (by (with_reducible repeat (first | apply Kd.R_alloc | apply Kd.R_drewN | apply Kd.R_drew)); exact HO878.out) (Kd.R_base ho0) hb); have n1_ := Aside0.mk (Kd.R_lower (Kd.R_new' ho0 (Kd.R_lt (by (with_reducible repeat (first | apply Kd.R_alloc | apply Kd.R_drewN | apply Kd.R_drew)); exact HO878.out))) (below_size (by repeat (first | (with_reducible first | exact HB.out | apply below_alloc | apply pw_below_drewN | apply below_drew1) | exact HB.out)))); have n2_ := Aside0.mk (below_step (by repeat (first | (with_reducible first | exact HB.out | apply below_alloc | apply pw_below_drewN | apply below_drew1) | exact HB.out)) hb); clear HO878; clear HB; have HO878 := n0_; have HO882 := n1_; have HB := n2_; clear n0_ n1_ n2_; (try clear hb); (try clear hb2); (try clear hk); (try clear hi); (try clear ho0)))
  (try simp only [Act.put, List.setIfInBounds_toArray, List.set_cons_zero, List.set_cons_succ])
  go_cut [37] (fun v37 wc => ∃ (kq : Nat) (x37_5 : Bool), v37 = .bool x37_5 ∧ Aside0 (laws_FnExactShortestFaro.j0 kq a0 a1 a2 t875 t876 t879 x37_5 = some r) ∧ Aside0 (kq ≤ k) ∧ Aside0 (Kd.R (Kd.int .i64) 3 wc w.heap.size (fun k_ => some k_ ≠ (v881 : Value).ownBlock) v877 t875) ∧ Aside0 (Kd.R (Kd.int .i64) 3 wc w.heap.size (fun k_ => some k_ ≠ (v877 : Value).ownBlock) v881 t879) ∧ Aside0 (Below w.heap.size w wc))
  case first =>
    have H := HC6.out
    clear HC6
    replace H := Option.bind_eq_some_iff.mp H
    obtain ⟨t883, A90, H⟩ := H
    replace H : (if t883 = true then (laws_FnExactShortestFaro.j0 k a0 a1 a2 t875 t876 t879 (t880 != t876)) else (laws_FnExactShortestFaro.j0 k a0 a1 a2 t875 t876 t879 true)) = some r := H
    have A9 := Aside0.mk A90
    clear A90
    by_cases c10 : t883 = true
    · subst c10
      have H1 : (laws_FnExactShortestFaro.j0 k a0 a1 a2 t875 t876 t879 (t880 != t876)) = some r := by rw [if_pos rfl] at H; exact H
      clear H
      have H := H1
      clear H1
      have H' := Aside0.mk H
      clear H
      obtain ⟨Ao11, co11, eo11⟩ := Kd.R_slice HO882.out
      subst eo11
      obtain ⟨Ao12, co12, eo12⟩ := Kd.R_slice HO878.out
      subst eo12
      go_wp2_with (first | ((with_reducible refine gate_callee (f := 17) rfl ?_); refine goesL_ (some 31) rfl rfl Try.func17 (by kernel_rfl) rfl #[.slice Ao11 t879.length co11, .slice Ao12 t875.length co12] rfl (by (try simp only [List.map_toArray, List.map_cons, List.map_nil]); first | done | rfl | (simp only [List.length_drop, List.length_take]; rfl)) ?_; (with_reducible refine (laws_eqIntS.calls k _ _ t879 _ _ t875 true _ ?side1 ?side2 ?side3 ?side4 A9.out).mono ?_); (case side1 => repeat (first | exact (Kd.R_reads' HO882.out).2.2 | (with_reducible refine Kd.C_alloc ?_ _) | (with_reducible refine Kd.C_drewN ?_ _) | (with_reducible refine Kd.C_drew ?_))); (case side2 => exact (Kd.R_reads' HO882.out).2.1); (case side3 => repeat (first | exact (Kd.R_reads' HO878.out).2.2 | (with_reducible refine Kd.C_alloc ?_ _) | (with_reducible refine Kd.C_drewN ?_ _) | (with_reducible refine Kd.C_drew ?_))); (case side4 => exact (Kd.R_reads' HO878.out).2.1); rintro e w' ⟨rfl, ⟨nd, rfl⟩⟩; refine ⟨_, rfl, ?_⟩))
      go_meet
      case rel => exact ⟨_, ((t880 != t876)), (by first | rfl | (simp; done) | (simp [*]; done)), H', ⟨by first | omega | exact Nat.le_refl _⟩, ⟨by (with_reducible repeat (first | apply Kd.R_alloc | apply Kd.R_drewN | apply Kd.R_drew)); exact Kd.R_mono HO878.out (fun _ hk => hk.2)⟩, ⟨by (with_reducible repeat (first | apply Kd.R_alloc | apply Kd.R_drewN | apply Kd.R_drew)); exact Kd.R_mono HO882.out (fun _ hk => hk.2)⟩, ⟨by repeat (first | (with_reducible first | exact HB.out | apply below_alloc | apply pw_below_drewN | apply below_drew1) | exact HB.out)⟩⟩
    · replace c10 := Bool.eq_false_iff.mpr c10
      subst c10
      have H1 : (laws_FnExactShortestFaro.j0 k a0 a1 a2 t875 t876 t879 true) = some r := by rw [if_neg (show ¬ (false = true) by decide)] at H; exact H
      clear H
      have H := H1
      clear H1
      have H' := Aside0.mk H
      clear H
      obtain ⟨Ao13, co13, eo13⟩ := Kd.R_slice HO882.out
      subst eo13
      obtain ⟨Ao14, co14, eo14⟩ := Kd.R_slice HO878.out
      subst eo14
      go_wp2_with (first | ((with_reducible refine gate_callee (f := 17) rfl ?_); refine goesL_ (some 31) rfl rfl Try.func17 (by kernel_rfl) rfl #[.slice Ao13 t879.length co13, .slice Ao14 t875.length co14] rfl (by (try simp only [List.map_toArray, List.map_cons, List.map_nil]); first | done | rfl | (simp only [List.length_drop, List.length_take]; rfl)) ?_; (with_reducible refine (laws_eqIntS.calls k _ _ t879 _ _ t875 false _ ?side1 ?side2 ?side3 ?side4 A9.out).mono ?_); (case side1 => repeat (first | exact (Kd.R_reads' HO882.out).2.2 | (with_reducible refine Kd.C_alloc ?_ _) | (with_reducible refine Kd.C_drewN ?_ _) | (with_reducible refine Kd.C_drew ?_))); (case side2 => exact (Kd.R_reads' HO882.out).2.1); (case side3 => repeat (first | exact (Kd.R_reads' HO878.out).2.2 | (with_reducible refine Kd.C_alloc ?_ _) | (with_reducible refine Kd.C_drewN ?_ _) | (with_reducible refine Kd.C_drew ?_))); (case side4 => exact (Kd.R_reads' HO878.out).2.1); rintro e w' ⟨rfl, ⟨nd, rfl⟩⟩; refine ⟨_, rfl, ?_⟩))
      go_meet
      case rel => exact ⟨_, (true), (by first | rfl | (simp; done) | (simp [*]; done)), H', ⟨by first | omega | exact Nat.le_refl _⟩, ⟨by (with_reducible repeat (first | apply Kd.R_alloc | apply Kd.R_drewN | apply Kd.R_drew)); exact Kd.R_mono HO878.out (fun _ hk => hk.2)⟩, ⟨by (with_reducible repeat (first | apply Kd.R_alloc | apply Kd.R_drewN | apply Kd.R_drew)); exact Kd.R_mono HO882.out (fun _ hk => hk.2)⟩, ⟨by repeat (first | (with_reducible first | exact HB.out | apply below_alloc | apply pw_below_drewN | apply below_drew1) | exact HB.out)⟩⟩
  case rest =>
    clear HC6
    try clear c1
    try clear p2
    try clear c3
    try clear c10
    obtain ⟨kq, x37_5, rfl, HA, HJ5, HO_7, HO_9, HB⟩ := hcut
    cases kq with
    | zero => exact absurd HA.out (by simp [laws_FnExactShortestFaro.j0])
    | succ kj5 =>
      have H := HA.out
      clear HA
      simp only [laws_FnExactShortestFaro.j0] at H
      by_cases c15 : x37_5 = true
      · subst c15
        have H1 : (some false) = some r := by rw [if_pos rfl] at H; exact H
        clear H
        have H := H1
        clear H1
        obtain rfl := Option.some.inj H
        go_wp2
        go_ret
        exact ⟨by first | rfl | (simp [errW_none, errW_some] <;> rfl) | (simp [*, errW_none, errW_some] <;> rfl), by repeat (first | (with_reducible first | exact HB.out | apply below_alloc | apply pw_below_drewN | apply below_drew1) | exact HB.out)⟩
      · replace c15 := Bool.eq_false_iff.mpr c15
        subst c15
        have H1 : ((laws_markIntS.f kj5 t879 1).bind fun bt884 => ((laws_heldIntS.f kj5 bt884.2 1).bind fun t886 => (if t886 < 0 then (some false) else (if t886 = bt884.1 then ((impl_ShortestFaro.f kj5 a0 a1 a2).bind fun bt887 => ((laws_eqIntS.f kj5 bt887.1 t875).bind fun t891 => (if t891 = true then (laws_FnExactShortestFaro.j1 kj5 bt884.2 bt884.1 (bt887.2 != t876)) else (laws_FnExactShortestFaro.j1 kj5 bt884.2 bt884.1 true)))) else (some false))))) = some r := by rw [if_neg (show ¬ (false = true) by decide)] at H; exact H
        clear H
        have H := H1
        clear H1
        replace H := Option.bind_eq_some_iff.mp H
        obtain ⟨⟨t884, t885⟩, A160, H⟩ := H
        replace H : ((laws_heldIntS.f kj5 t885 1).bind fun t886 => (if t886 < 0 then (some false) else (if t886 = t884 then ((impl_ShortestFaro.f kj5 a0 a1 a2).bind fun bt887 => ((laws_eqIntS.f kj5 bt887.1 t875).bind fun t891 => (if t891 = true then (laws_FnExactShortestFaro.j1 kj5 t885 t884 (bt887.2 != t876)) else (laws_FnExactShortestFaro.j1 kj5 t885 t884 true)))) else (some false)))) = some r := H
        have A16 := Aside0.mk A160
        clear A160
        replace H := Option.bind_eq_some_iff.mp H
        obtain ⟨t886, A170, H⟩ := H
        replace H : (if t886 < 0 then (some false) else (if t886 = t884 then ((impl_ShortestFaro.f kj5 a0 a1 a2).bind fun bt887 => ((laws_eqIntS.f kj5 bt887.1 t875).bind fun t891 => (if t891 = true then (laws_FnExactShortestFaro.j1 kj5 t885 t884 (bt887.2 != t876)) else (laws_FnExactShortestFaro.j1 kj5 t885 t884 true)))) else (some false))) = some r := H
        have A17 := Aside0.mk A170
        clear A170
        by_cases c18 : t886 < 0
        · rw [if_pos c18] at H
          have c18b0 : decide (t886 < 0) = true := decide_eq_true c18
          clear c18
          obtain rfl := Option.some.inj H
          obtain ⟨Ao19, co19, eo19⟩ := Kd.R_slice HO_9.out
          subst eo19
          go_wp2_with (first | ((with_reducible refine gate_callee (f := 18) rfl ?_); refine goesL_ (some 40) rfl rfl Try.func18 (by kernel_rfl) rfl #[.slice Ao19 t879.length co19, .int .i64 1] rfl (by (try simp only [List.map_toArray, List.map_cons, List.map_nil]); first | done | rfl | (simp only [List.length_drop, List.length_take]; rfl)) ?_; (with_reducible refine (laws_markIntS.calls kj5 (fun k_ => some k_ = (.slice Ao19 t879.length co19 : Value).ownBlock) (.slice Ao19 t879.length co19) t879 1 t884 t885 w _ ?side1 ?side2 A16.out).mono ?_); (case side1 => repeat (first | (with_reducible first | exact HB.out | apply below_alloc | apply pw_below_drewN | apply below_drew1) | exact HB.out)); (case side2 => exact Kd.R_tight rfl HO_9.out); rintro e w20 ⟨rfl, hy0, hb, hkp⟩; refine ⟨_, rfl, ?_⟩; have n0_ := Aside0.mk (Kd.R_mono (ok' := fun k_ => some k_ ≠ (.slice Ao19 t879.length co19 : Value).ownBlock) (Kd.R_keptB (HO_7.out) hkp (fun k_ hk_ hs_ => (hk_) hs_)) (fun k_ hk_ => hk_.1)); have n1_ := Aside0.mk (Kd.R_reok rfl hy0 (fun k_ e_ => HO_9.out.1 k_ e_)); have n2_ := Aside0.mk (hb); clear HO_7; clear HO_9; clear HB; have HO_7 := n0_; have HO_9 := n1_; have HB := n2_; clear n0_ n1_ n2_; (try clear hb); (try clear hkp); (try clear hy0)) | ((with_reducible refine gate_callee (f := 19) rfl ?_); refine goesL_ (some 43) rfl rfl Try.func19 (by kernel_rfl) rfl #[.slice Ao19 t885.length co19, .int .i64 1] rfl (by (try simp only [List.map_toArray, List.map_cons, List.map_nil]); first | done | (rw [show t885.length = t879.length from (Kd.R_reads' HO_9.out).1.symm] <;> rfl) | rfl | (simp only [List.length_drop, List.length_take]; rfl)) ?_; (with_reducible refine (laws_heldIntS.calls kj5 _ _ t885 1 t886 _ ?side1 ?side2 A17.out).mono ?_); (case side1 => repeat (first | exact (Kd.R_reads' HO_9.out).2.2 | (with_reducible refine Kd.C_alloc ?_ _) | (with_reducible refine Kd.C_drewN ?_ _) | (with_reducible refine Kd.C_drew ?_))); (case side2 => rw [show t885.length = t879.length from (Kd.R_reads' HO_9.out).1.symm]; exact (Kd.R_reads' HO_9.out).2.1); rintro e w' ⟨rfl, ⟨nd, rfl⟩⟩; refine ⟨_, rfl, ?_⟩))
          go_ret
          exact ⟨by first | rfl | (simp [errW_none, errW_some] <;> rfl) | (simp [*, errW_none, errW_some] <;> rfl), by repeat (first | (with_reducible first | exact HB.out | apply below_alloc | apply pw_below_drewN | apply below_drew1) | exact HB.out)⟩
        · rw [if_neg c18] at H
          have c18b0 : decide (t886 < 0) = false := decide_eq_false c18
          clear c18
          by_cases c21 : t886 = t884
          · rw [if_pos c21] at H
            have c21b0 : (t886 == t884) = true := beq_iff_eq.mpr c21
            have c21b1 : (t886 != t884) = false := bne_eq_false_iff_eq.mpr c21
            clear c21
            replace H := Option.bind_eq_some_iff.mp H
            obtain ⟨⟨t887, t888⟩, A220, H⟩ := H
            replace H : ((laws_eqIntS.f kj5 t887 t875).bind fun t891 => (if t891 = true then (laws_FnExactShortestFaro.j1 kj5 t885 t884 (t888 != t876)) else (laws_FnExactShortestFaro.j1 kj5 t885 t884 true))) = some r := H
            have A22 := Aside0.mk A220
            clear A220
            have HC23 := Aside0.mk H
            clear H
            obtain ⟨Ao24, co24, eo24⟩ := Kd.R_slice HO_9.out
            subst eo24
            go_upto_region 14 with (first | ((with_reducible refine gate_callee (f := 18) rfl ?_); refine goesL_ (some 40) rfl rfl Try.func18 (by kernel_rfl) rfl #[.slice Ao24 t879.length co24, .int .i64 1] rfl (by (try simp only [List.map_toArray, List.map_cons, List.map_nil]); first | done | rfl | (simp only [List.length_drop, List.length_take]; rfl)) ?_; (with_reducible refine (laws_markIntS.calls kj5 (fun k_ => some k_ = (.slice Ao24 t879.length co24 : Value).ownBlock) (.slice Ao24 t879.length co24) t879 1 t884 t885 w _ ?side1 ?side2 A16.out).mono ?_); (case side1 => repeat (first | (with_reducible first | exact HB.out | apply below_alloc | apply pw_below_drewN | apply below_drew1) | exact HB.out)); (case side2 => exact Kd.R_tight rfl HO_9.out); rintro e w25 ⟨rfl, hy0, hb, hkp⟩; refine ⟨_, rfl, ?_⟩; have n0_ := Aside0.mk (Kd.R_mono (ok' := fun k_ => some k_ ≠ (.slice Ao24 t879.length co24 : Value).ownBlock) (Kd.R_keptB (HO_7.out) hkp (fun k_ hk_ hs_ => (hk_) hs_)) (fun k_ hk_ => hk_.1)); have n1_ := Aside0.mk (Kd.R_reok rfl hy0 (fun k_ e_ => HO_9.out.1 k_ e_)); have n2_ := Aside0.mk (hb); clear HO_7; clear HO_9; clear HB; have HO_7 := n0_; have HO_9 := n1_; have HB := n2_; clear n0_ n1_ n2_; (try clear hb); (try clear hkp); (try clear hy0)) | ((with_reducible refine gate_callee (f := 19) rfl ?_); refine goesL_ (some 43) rfl rfl Try.func19 (by kernel_rfl) rfl #[.slice Ao24 t885.length co24, .int .i64 1] rfl (by (try simp only [List.map_toArray, List.map_cons, List.map_nil]); first | done | (rw [show t885.length = t879.length from (Kd.R_reads' HO_9.out).1.symm] <;> rfl) | rfl | (simp only [List.length_drop, List.length_take]; rfl)) ?_; (with_reducible refine (laws_heldIntS.calls kj5 _ _ t885 1 t886 _ ?side1 ?side2 A17.out).mono ?_); (case side1 => repeat (first | exact (Kd.R_reads' HO_9.out).2.2 | (with_reducible refine Kd.C_alloc ?_ _) | (with_reducible refine Kd.C_drewN ?_ _) | (with_reducible refine Kd.C_drew ?_))); (case side2 => rw [show t885.length = t879.length from (Kd.R_reads' HO_9.out).1.symm]; exact (Kd.R_reads' HO_9.out).2.1); rintro e w' ⟨rfl, ⟨nd, rfl⟩⟩; refine ⟨_, rfl, ?_⟩) | ((with_reducible refine gate_callee (f := 34) rfl ?_); refine goesL_ (some 53) rfl rfl Try.func34 (by kernel_rfl) rfl #[.int .i64 a0, .int .i64 a1, .int .i64 a2] rfl (by (try simp only [List.map_toArray, List.map_cons, List.map_nil]); first | done | rfl | (simp only [List.length_drop, List.length_take]; rfl)) ?_; (with_reducible refine (impl_ShortestFaro.calls kj5 a0 a1 a2 t887 t888 _ A22.out).mono ?_); rintro e w26 ⟨v889, rfl, ho0, hb⟩; refine ⟨_, rfl, ?_⟩; have n0_ := Aside0.mk (Kd.R_elder' (by (with_reducible repeat (first | apply Kd.R_alloc | apply Kd.R_drewN | apply Kd.R_drew)); exact HO_7.out) (Kd.R_base ho0) hb); have n1_ := Aside0.mk (Kd.R_elder' (by (with_reducible repeat (first | apply Kd.R_alloc | apply Kd.R_drewN | apply Kd.R_drew)); exact HO_9.out) (Kd.R_base ho0) hb); have n2_ := Aside0.mk (Kd.R_lower (Kd.R_new' (Kd.R_new' ho0 (Kd.R_lt (by (with_reducible repeat (first | apply Kd.R_alloc | apply Kd.R_drewN | apply Kd.R_drew)); exact HO_7.out))) (Kd.R_lt (by (with_reducible repeat (first | apply Kd.R_alloc | apply Kd.R_drewN | apply Kd.R_drew)); exact HO_9.out))) (below_size (by repeat (first | (with_reducible first | exact HB.out | apply below_alloc | apply pw_below_drewN | apply below_drew1) | exact HB.out)))); have n3_ := Aside0.mk (below_step (by repeat (first | (with_reducible first | exact HB.out | apply below_alloc | apply pw_below_drewN | apply below_drew1) | exact HB.out)) hb); clear HO_7; clear HO_9; clear HB; have HO_7 := n0_; have HO_9 := n1_; have HO890 := n2_; have HB := n3_; clear n0_ n1_ n2_ n3_; (try clear hb); (try clear hb2); (try clear hk); (try clear hi); (try clear ho0)))
            (try simp only [Act.put, List.setIfInBounds_toArray, List.set_cons_zero, List.set_cons_succ])
            go_cut [64] (fun v64 wc => ∃ (kq : Nat) (x64_22 : Bool), v64 = .bool x64_22 ∧ Aside0 (laws_FnExactShortestFaro.j1 kq t885 t884 x64_22 = some r) ∧ Aside0 (kq ≤ kj5) ∧ Aside0 (Kd.R (Kd.int .i64) 3 wc w.heap.size (fun _ => True) (.slice Ao24 t879.length co24) t885) ∧ Aside0 (Below w.heap.size w wc))
            case first =>
              have H := HC23.out
              clear HC23
              replace H := Option.bind_eq_some_iff.mp H
              obtain ⟨t891, A270, H⟩ := H
              replace H : (if t891 = true then (laws_FnExactShortestFaro.j1 kj5 t885 t884 (t888 != t876)) else (laws_FnExactShortestFaro.j1 kj5 t885 t884 true)) = some r := H
              have A27 := Aside0.mk A270
              clear A270
              by_cases c28 : t891 = true
              · subst c28
                have H1 : (laws_FnExactShortestFaro.j1 kj5 t885 t884 (t888 != t876)) = some r := by rw [if_pos rfl] at H; exact H
                clear H
                have H := H1
                clear H1
                have H' := Aside0.mk H
                clear H
                obtain ⟨Ao29, co29, eo29⟩ := Kd.R_slice HO890.out
                subst eo29
                obtain ⟨Ao30, co30, eo30⟩ := Kd.R_slice HO_7.out
                subst eo30
                go_wp2_with (first | ((with_reducible refine gate_callee (f := 17) rfl ?_); refine goesL_ (some 58) rfl rfl Try.func17 (by kernel_rfl) rfl #[.slice Ao29 t887.length co29, .slice Ao30 t875.length co30] rfl (by (try simp only [List.map_toArray, List.map_cons, List.map_nil]); first | done | rfl | (simp only [List.length_drop, List.length_take]; rfl)) ?_; (with_reducible refine (laws_eqIntS.calls kj5 _ _ t887 _ _ t875 true _ ?side1 ?side2 ?side3 ?side4 A27.out).mono ?_); (case side1 => repeat (first | exact (Kd.R_reads' HO890.out).2.2 | (with_reducible refine Kd.C_alloc ?_ _) | (with_reducible refine Kd.C_drewN ?_ _) | (with_reducible refine Kd.C_drew ?_))); (case side2 => exact (Kd.R_reads' HO890.out).2.1); (case side3 => repeat (first | exact (Kd.R_reads' HO_7.out).2.2 | (with_reducible refine Kd.C_alloc ?_ _) | (with_reducible refine Kd.C_drewN ?_ _) | (with_reducible refine Kd.C_drew ?_))); (case side4 => exact (Kd.R_reads' HO_7.out).2.1); rintro e w' ⟨rfl, ⟨nd, rfl⟩⟩; refine ⟨_, rfl, ?_⟩))
                go_meet
                case rel => exact ⟨_, ((t888 != t876)), (by first | rfl | (simp; done) | (simp [*]; done)), H', ⟨by have := HJ5.out; first | omega | exact Nat.le_refl _⟩, ⟨by (with_reducible repeat (first | apply Kd.R_alloc | apply Kd.R_drewN | apply Kd.R_drew)); exact Kd.R_mono HO_9.out (fun _ hk => trivial)⟩, ⟨by repeat (first | (with_reducible first | exact HB.out | apply below_alloc | apply pw_below_drewN | apply below_drew1) | exact HB.out)⟩⟩
              · replace c28 := Bool.eq_false_iff.mpr c28
                subst c28
                have H1 : (laws_FnExactShortestFaro.j1 kj5 t885 t884 true) = some r := by rw [if_neg (show ¬ (false = true) by decide)] at H; exact H
                clear H
                have H := H1
                clear H1
                have H' := Aside0.mk H
                clear H
                obtain ⟨Ao31, co31, eo31⟩ := Kd.R_slice HO890.out
                subst eo31
                obtain ⟨Ao32, co32, eo32⟩ := Kd.R_slice HO_7.out
                subst eo32
                go_wp2_with (first | ((with_reducible refine gate_callee (f := 17) rfl ?_); refine goesL_ (some 58) rfl rfl Try.func17 (by kernel_rfl) rfl #[.slice Ao31 t887.length co31, .slice Ao32 t875.length co32] rfl (by (try simp only [List.map_toArray, List.map_cons, List.map_nil]); first | done | rfl | (simp only [List.length_drop, List.length_take]; rfl)) ?_; (with_reducible refine (laws_eqIntS.calls kj5 _ _ t887 _ _ t875 false _ ?side1 ?side2 ?side3 ?side4 A27.out).mono ?_); (case side1 => repeat (first | exact (Kd.R_reads' HO890.out).2.2 | (with_reducible refine Kd.C_alloc ?_ _) | (with_reducible refine Kd.C_drewN ?_ _) | (with_reducible refine Kd.C_drew ?_))); (case side2 => exact (Kd.R_reads' HO890.out).2.1); (case side3 => repeat (first | exact (Kd.R_reads' HO_7.out).2.2 | (with_reducible refine Kd.C_alloc ?_ _) | (with_reducible refine Kd.C_drewN ?_ _) | (with_reducible refine Kd.C_drew ?_))); (case side4 => exact (Kd.R_reads' HO_7.out).2.1); rintro e w' ⟨rfl, ⟨nd, rfl⟩⟩; refine ⟨_, rfl, ?_⟩))
                go_meet
                case rel => exact ⟨_, (true), (by first | rfl | (simp; done) | (simp [*]; done)), H', ⟨by have := HJ5.out; first | omega | exact Nat.le_refl _⟩, ⟨by (with_reducible repeat (first | apply Kd.R_alloc | apply Kd.R_drewN | apply Kd.R_drew)); exact Kd.R_mono HO_9.out (fun _ hk => trivial)⟩, ⟨by repeat (first | (with_reducible first | exact HB.out | apply below_alloc | apply pw_below_drewN | apply below_drew1) | exact HB.out)⟩⟩
            case rest =>
              clear HC23
              try clear c1
              try clear c2
              try clear p2
              try clear c3
              try clear c10
              try clear c15
              try clear c17
              try clear c18
              try clear c18b0
              try clear c19
              try clear c21
              try clear c21b0
              try clear c21b1
              try clear c28
              try clear p2
              obtain ⟨kq, x64_22, rfl, HA, HJ22, HO_9, HB⟩ := hcut
              have hl9_22 := (Kd.R_reads' HO_9.out).1
              rw [hl9_22] at HO_9
              (try simp only [hl9_22])
              cases kq with
              | zero => exact absurd HA.out (by simp [laws_FnExactShortestFaro.j1])
              | succ kj22 =>
                have H := HA.out
                clear HA
                simp only [laws_FnExactShortestFaro.j1] at H
                by_cases c33 : x64_22 = true
                · subst c33
                  have H1 : (some false) = some r := by rw [if_pos rfl] at H; exact H
                  clear H
                  have H := H1
                  clear H1
                  obtain rfl := Option.some.inj H
                  go_wp2
                  go_ret
                  exact ⟨by first | rfl | (simp [errW_none, errW_some] <;> rfl) | (simp [*, errW_none, errW_some] <;> rfl), by repeat (first | (with_reducible first | exact HB.out | apply below_alloc | apply pw_below_drewN | apply below_drew1) | exact HB.out)⟩
                · replace c33 := Bool.eq_false_iff.mpr c33
                  subst c33
                  have H1 : ((laws_heldIntS.f kj22 t885 1).bind fun t892 => (if t892 < 0 then (some false) else (if t892 = t884 then (some true) else (some false)))) = some r := by rw [if_neg (show ¬ (false = true) by decide)] at H; exact H
                  clear H
                  have H := H1
                  clear H1
                  replace H := Option.bind_eq_some_iff.mp H
                  obtain ⟨t892, A340, H⟩ := H
                  replace H : (if t892 < 0 then (some false) else (if t892 = t884 then (some true) else (some false))) = some r := H
                  have A34 := Aside0.mk A340
                  clear A340
                  by_cases c35 : t892 < 0
                  · rw [if_pos c35] at H
                    have c35b0 : decide (t892 < 0) = true := decide_eq_true c35
                    clear c35
                    obtain rfl := Option.some.inj H
                    go_wp2_with (first | ((with_reducible refine gate_callee (f := 19) rfl ?_); refine goesL_ (some 67) rfl rfl Try.func19 (by kernel_rfl) rfl #[.slice Ao24 t885.length co24, .int .i64 1] rfl (by (try simp only [List.map_toArray, List.map_cons, List.map_nil]); first | done | rfl | (simp only [List.length_drop, List.length_take]; rfl)) ?_; (with_reducible refine (laws_heldIntS.calls kj22 _ _ t885 1 t892 _ ?side1 ?side2 A34.out).mono ?_); (case side1 => repeat (first | exact (Kd.R_reads' HO_9.out).2.2 | (with_reducible refine Kd.C_alloc ?_ _) | (with_reducible refine Kd.C_drewN ?_ _) | (with_reducible refine Kd.C_drew ?_))); (case side2 => exact (Kd.R_reads' HO_9.out).2.1); rintro e w' ⟨rfl, ⟨nd, rfl⟩⟩; refine ⟨_, rfl, ?_⟩))
                    go_ret
                    exact ⟨by first | rfl | (simp [errW_none, errW_some] <;> rfl) | (simp [*, errW_none, errW_some] <;> rfl), by repeat (first | (with_reducible first | exact HB.out | apply below_alloc | apply pw_below_drewN | apply below_drew1) | exact HB.out)⟩
                  · rw [if_neg c35] at H
                    have c35b0 : decide (t892 < 0) = false := decide_eq_false c35
                    clear c35
                    by_cases c36 : t892 = t884
                    · rw [if_pos c36] at H
                      have c36b0 : (t892 == t884) = true := beq_iff_eq.mpr c36
                      have c36b1 : (t892 != t884) = false := bne_eq_false_iff_eq.mpr c36
                      clear c36
                      obtain rfl := Option.some.inj H
                      go_wp2_with (first | ((with_reducible refine gate_callee (f := 19) rfl ?_); refine goesL_ (some 67) rfl rfl Try.func19 (by kernel_rfl) rfl #[.slice Ao24 t885.length co24, .int .i64 1] rfl (by (try simp only [List.map_toArray, List.map_cons, List.map_nil]); first | done | rfl | (simp only [List.length_drop, List.length_take]; rfl)) ?_; (with_reducible refine (laws_heldIntS.calls kj22 _ _ t885 1 t892 _ ?side1 ?side2 A34.out).mono ?_); (case side1 => repeat (first | exact (Kd.R_reads' HO_9.out).2.2 | (with_reducible refine Kd.C_alloc ?_ _) | (with_reducible refine Kd.C_drewN ?_ _) | (with_reducible refine Kd.C_drew ?_))); (case side2 => exact (Kd.R_reads' HO_9.out).2.1); rintro e w' ⟨rfl, ⟨nd, rfl⟩⟩; refine ⟨_, rfl, ?_⟩))
                      go_ret
                      exact ⟨by first | rfl | (simp [errW_none, errW_some] <;> rfl) | (simp [*, errW_none, errW_some] <;> rfl), by repeat (first | (with_reducible first | exact HB.out | apply below_alloc | apply pw_below_drewN | apply below_drew1) | exact HB.out)⟩
                    · rw [if_neg c36] at H
                      have c36b0 : (t892 == t884) = false := beq_eq_false_iff_ne.mpr c36
                      have c36b1 : (t892 != t884) = true := bne_iff_ne.mpr c36
                      obtain rfl := Option.some.inj H
                      go_wp2_with (first | ((with_reducible refine gate_callee (f := 19) rfl ?_); refine goesL_ (some 67) rfl rfl Try.func19 (by kernel_rfl) rfl #[.slice Ao24 t885.length co24, .int .i64 1] rfl (by (try simp only [List.map_toArray, List.map_cons, List.map_nil]); first | done | rfl | (simp only [List.length_drop, List.length_take]; rfl)) ?_; (with_reducible refine (laws_heldIntS.calls kj22 _ _ t885 1 t892 _ ?side1 ?side2 A34.out).mono ?_); (case side1 => repeat (first | exact (Kd.R_reads' HO_9.out).2.2 | (with_reducible refine Kd.C_alloc ?_ _) | (with_reducible refine Kd.C_drewN ?_ _) | (with_reducible refine Kd.C_drew ?_))); (case side2 => exact (Kd.R_reads' HO_9.out).2.1); rintro e w' ⟨rfl, ⟨nd, rfl⟩⟩; refine ⟨_, rfl, ?_⟩))
                      go_ret
                      exact ⟨by first | rfl | (simp [errW_none, errW_some] <;> rfl) | (simp [*, errW_none, errW_some] <;> rfl), by repeat (first | (with_reducible first | exact HB.out | apply below_alloc | apply pw_below_drewN | apply below_drew1) | exact HB.out)⟩
          · rw [if_neg c21] at H
            have c21b0 : (t886 == t884) = false := beq_eq_false_iff_ne.mpr c21
            have c21b1 : (t886 != t884) = true := bne_iff_ne.mpr c21
            obtain rfl := Option.some.inj H
            obtain ⟨Ao37, co37, eo37⟩ := Kd.R_slice HO_9.out
            subst eo37
            go_wp2_with (first | ((with_reducible refine gate_callee (f := 18) rfl ?_); refine goesL_ (some 40) rfl rfl Try.func18 (by kernel_rfl) rfl #[.slice Ao37 t879.length co37, .int .i64 1] rfl (by (try simp only [List.map_toArray, List.map_cons, List.map_nil]); first | done | rfl | (simp only [List.length_drop, List.length_take]; rfl)) ?_; (with_reducible refine (laws_markIntS.calls kj5 (fun k_ => some k_ = (.slice Ao37 t879.length co37 : Value).ownBlock) (.slice Ao37 t879.length co37) t879 1 t884 t885 w _ ?side1 ?side2 A16.out).mono ?_); (case side1 => repeat (first | (with_reducible first | exact HB.out | apply below_alloc | apply pw_below_drewN | apply below_drew1) | exact HB.out)); (case side2 => exact Kd.R_tight rfl HO_9.out); rintro e w38 ⟨rfl, hy0, hb, hkp⟩; refine ⟨_, rfl, ?_⟩; have n0_ := Aside0.mk (Kd.R_mono (ok' := fun k_ => some k_ ≠ (.slice Ao37 t879.length co37 : Value).ownBlock) (Kd.R_keptB (HO_7.out) hkp (fun k_ hk_ hs_ => (hk_) hs_)) (fun k_ hk_ => hk_.1)); have n1_ := Aside0.mk (Kd.R_reok rfl hy0 (fun k_ e_ => HO_9.out.1 k_ e_)); have n2_ := Aside0.mk (hb); clear HO_7; clear HO_9; clear HB; have HO_7 := n0_; have HO_9 := n1_; have HB := n2_; clear n0_ n1_ n2_; (try clear hb); (try clear hkp); (try clear hy0)) | ((with_reducible refine gate_callee (f := 19) rfl ?_); refine goesL_ (some 43) rfl rfl Try.func19 (by kernel_rfl) rfl #[.slice Ao37 t885.length co37, .int .i64 1] rfl (by (try simp only [List.map_toArray, List.map_cons, List.map_nil]); first | done | (rw [show t885.length = t879.length from (Kd.R_reads' HO_9.out).1.symm] <;> rfl) | rfl | (simp only [List.length_drop, List.length_take]; rfl)) ?_; (with_reducible refine (laws_heldIntS.calls kj5 _ _ t885 1 t886 _ ?side1 ?side2 A17.out).mono ?_); (case side1 => repeat (first | exact (Kd.R_reads' HO_9.out).2.2 | (with_reducible refine Kd.C_alloc ?_ _) | (with_reducible refine Kd.C_drewN ?_ _) | (with_reducible refine Kd.C_drew ?_))); (case side2 => rw [show t885.length = t879.length from (Kd.R_reads' HO_9.out).1.symm]; exact (Kd.R_reads' HO_9.out).2.1); rintro e w' ⟨rfl, ⟨nd, rfl⟩⟩; refine ⟨_, rfl, ?_⟩))
            go_ret
            exact ⟨by first | rfl | (simp [errW_none, errW_some] <;> rfl) | (simp [*, errW_none, errW_some] <;> rfl), by repeat (first | (with_reducible first | exact HB.out | apply below_alloc | apply pw_below_drewN | apply below_drew1) | exact HB.out)⟩
/-- THE ONE PURE STATEMENT of laws_FnExactShortestFaro: yours. -/
def laws_FnExactShortestFaro.Pure : Prop := ∀ (a0 : Int) (a1 : Int) (a2 : Int), (Lit.int .i64 a0).wf = true → (Lit.int .i64 a1).wf = true → (Lit.int .i64 a2).wf = true → ∃ k, laws_FnExactShortestFaro.f k a0 a1 a2 = some true
theorem laws_FnExactShortestFaro.walk (P : laws_FnExactShortestFaro.Pure) (a0 : Int) (a1 : Int) (a2 : Int) (w : World) (w0 : (Lit.int .i64 a0).wf = true) (w1 : (Lit.int .i64 a1).wf = true) (w2 : (Lit.int .i64 a2).wf = true) :
    Calls Try.prog 10 #[.int .i64 a0, .int .i64 a1, .int .i64 a2] w fun e w' => e = .returned (.bool true) ∧ Below w.heap.size w w' := by
  obtain ⟨k, h⟩ := P a0 a1 a2 w0 w1 w2
  refine (laws_FnExactShortestFaro.calls k a0 a1 a2 true w h).mono ?_
  rintro e w' ⟨rfl, hd⟩
  exact ⟨rfl, hd⟩
end Go.Proofs.Ytbeehklibkeecaa.F
end
section
/- ShortestFaro: the reference's search. -/
namespace Go.Proofs.Ytbeehklibkeecaa.F
open Go.RowKit Go.Proofs.YtbeehklibkeecaaW.PrintWords Go.Proofs.YtbeehklibkeecaaW.PrintLast Go.Proofs.YtbeehklibkeecaaW.PrintMore
set_option linter.unusedVariables false
set_option linter.unusedSimpArgs false
section
variable (n go : Int) (st : Int → Int → Int)
theorem sf_l1 (c : Int) (hc : c = 2) (hc1 : c ≤ 1000) (x : Int) (wy : List Int) (pre : List (Int × List Int)) (hb : pre.length < 1000) (hs : ∀ ch, 0 ≤ ch → ch < c → Ev (fun k => spec_l08Next.f k n ch x) (st x ch)) (r : List Int × Bool) (d : Nat) : ∀ (a : Int) (tl v : List (Int × List Int)), 0 ≤ a → a + d = c → tl.length < 200 → addC st n x wy (seqFrom a d) (pre ++ (x, wy) :: tl) = some v →
    Ev (fun k => spec_ShortestFaro.l0 k n go (v.map Prod.snd) (v.map Prod.fst) (wrap64 ((pre.length : Int) + 1))) r → Ev (fun k => spec_ShortestFaro.l1 k n go ((pre ++ (x, wy) :: tl).map Prod.snd) ((pre ++ (x, wy) :: tl).map Prod.fst) (pre.length : Int) a) r := by
  induction d with
  | zero =>
    intro a tl v ha hd htl hv h
    obtain rfl := Option.some.inj hv
    refine Ev.step (fun k => ?_) h
    show spec_ShortestFaro.l1 (k + 1) n go _ _ _ _ = _
    rw [spec_ShortestFaro.l1, if_neg (by omega)]
  | succ d ih =>
    intro a tl v ha hd htl hv h
    have w : wrap64 (a + 1) = a + 1 := w64_id (by omega) (by omega)
    have e1 : (pre ++ (x, wy) :: tl).map Prod.fst = pre.map Prod.fst ++ x :: tl.map Prod.fst := by simp
    have e2 : (pre ++ (x, wy) :: tl).map Prod.snd = pre.map Prod.snd ++ wy :: tl.map Prod.snd := by simp
    have l1 : ((pre.length : Nat) : Int) = ((pre.map Prod.fst).length : Int) := by simp
    have l2 : ((pre.length : Nat) : Int) = ((pre.map Prod.snd).length : Int) := by simp
    have r1 : rd ((pre ++ (x, wy) :: tl).map Prod.fst) (pre.length : Int) = x := by rw [e1, l1, mid_rd]
    have r2 : rd_L1 ((pre ++ (x, wy) :: tl).map Prod.snd) (pre.length : Int) = wy := by rw [e2, l2, mid_rdLM]
    have q1 : (pre.length : Int) < (((pre ++ (x, wy) :: tl).map Prod.fst).length : Int) := by rw [e1, l1]; exact mid_lt _ _ _
    have q2 : (pre.length : Int) < (((pre ++ (x, wy) :: tl).map Prod.snd).length : Int) := by rw [e2, l2]; exact mid_lt _ _ _
    have b1 : ((pre ++ (x, wy) :: tl).map Prod.fst).length < 17592186044416 := by simp; omega
    have b2 : ((pre ++ (x, wy) :: tl).map Prod.snd).length < 5864062014805 := by simp; omega
    simp only [seqFrom, addC] at hv
    split at hv
    · rename_i hy
      refine Ev.stepb (hs a ha (by omega)) (fun k => by rw [spec_ShortestFaro.l1, if_pos (by omega), if_pos (nn _), if_pos q1, r1]) ?_
      refine Ev.bind (l02Has_ev ((pre ++ (x, wy) :: tl).map Prod.fst) (st x a) (by omega)) ?_
      rw [← any_has]
      split at hv
      · rename_i hm
        rw [hm]
        simp only [if_true]
        have h2 := ih (a + 1) tl v (by omega) (by omega) htl hv h
        rw [w]
        exact h2
      · rename_i hm
        rw [Bool.eq_false_iff.mpr hm]
        simp only [Bool.false_eq_true, if_false, if_pos b1, Option.bind_some, if_pos q2, r2, List.nil_append, List.length_nil, Nat.zero_add]
        split at hv
        · rename_i hl
          have hw : wy.length < 17592186044416 := by omega
          simp only [if_pos hw, if_pos b2]
          rw [List.append_assoc, List.cons_append] at hv
          have h2 := ih (a + 1) (tl ++ [(st x a, wy ++ [a])]) v (by omega) (by omega) (by simp at hl ⊢; omega) hv h
          rw [w]
          rw [show ((pre ++ (x, wy) :: tl).map Prod.snd) ++ [wy ++ [a]] = (pre ++ (x, wy) :: (tl ++ [(st x a, wy ++ [a])])).map Prod.snd by simp, show ((pre ++ (x, wy) :: tl).map Prod.fst) ++ [st x a] = (pre ++ (x, wy) :: (tl ++ [(st x a, wy ++ [a])])).map Prod.fst by simp]
          exact h2
        · cases hv
    · cases hv
theorem sf_l0 (c : Int) (hc : c = 2) (hc0 : 0 ≤ c) (hc1 : c ≤ 1000) (hs : ∀ x ch, 0 ≤ x → x < n → 0 ≤ ch → ch < c → Ev (fun k => spec_l08Next.f k n ch x) (st x ch)) (m : Nat) : ∀ (pre rest : List (Int × List Int)) (r : List Int × Bool), rest.length < 200 → bfs st n go (seqFrom 0 c.toNat) m (pre ++ rest) pre.length = some r → Ev (fun k => spec_ShortestFaro.l0 k n go ((pre ++ rest).map Prod.snd) ((pre ++ rest).map Prod.fst) (pre.length : Int)) r := by
  induction m with
  | zero => intro pre rest r _ h; simp [bfs] at h
  | succ m ih =>
    intro pre rest r hrl h
    unfold bfs at h
    rw [List.drop_left] at h
    cases rest with
    | nil =>
      obtain rfl := Option.some.inj h
      refine Ev.step (f := fun _ => some ([], false)) (fun k => ?_) (Ev.now _)
      show spec_ShortestFaro.l0 (k + 1) n go _ _ _ = _
      rw [spec_ShortestFaro.l0, if_neg (by simp)]
    | cons p tl =>
      obtain ⟨x, wy⟩ := p
      have e1 : (pre ++ (x, wy) :: tl).map Prod.fst = pre.map Prod.fst ++ x :: tl.map Prod.fst := by simp
      have e2 : (pre ++ (x, wy) :: tl).map Prod.snd = pre.map Prod.snd ++ wy :: tl.map Prod.snd := by simp
      have l1 : ((pre.length : Nat) : Int) = ((pre.map Prod.fst).length : Int) := by simp
      have l2 : ((pre.length : Nat) : Int) = ((pre.map Prod.snd).length : Int) := by simp
      have r1 : rd ((pre ++ (x, wy) :: tl).map Prod.fst) (pre.length : Int) = x := by rw [e1, l1, mid_rd]
      have r2 : rd_L1 ((pre ++ (x, wy) :: tl).map Prod.snd) (pre.length : Int) = wy := by rw [e2, l2, mid_rdLM]
      have q1 : (pre.length : Int) < (((pre ++ (x, wy) :: tl).map Prod.fst).length : Int) := by rw [e1, l1]; exact mid_lt _ _ _
      have q2 : (pre.length : Int) < (((pre ++ (x, wy) :: tl).map Prod.snd).length : Int) := by rw [e2, l2]; exact mid_lt _ _ _
      simp only at h
      split at h
      · rename_i hx
        split at h
        · rename_i hl
          obtain rfl := Option.some.inj h
          refine Ev.step (f := fun _ => some (wy, true)) (fun k => ?_) (Ev.now _)
          show spec_ShortestFaro.l0 (k + 1) n go _ _ _ = _
          rw [spec_ShortestFaro.l0, if_pos q1, if_pos (nn _), r1, if_pos hx, Option.bind_some, if_pos q2, r2, if_pos (by simp; omega)]
          rfl
        · cases h
      · rename_i hx
        split at h
        · rename_i hr
          obtain ⟨v, hv, h⟩ := Option.bind_eq_some_iff.mp h
          obtain ⟨rest', rfl⟩ := addC_drop (seqFrom 0 c.toNat) (pre ++ [(x, wy)]) tl v (by simpa using hv)
          have hlen : rest'.length < 200 := by
            have := addC_len (seqFrom 0 c.toNat) _ _ hv (by simp at hrl ⊢; omega)
            simp only [List.length_append, List.length_cons, List.length_nil] at this hrl
            omega
          have h3 := ih (pre ++ [(x, wy)]) rest' r hlen (by simpa using h)
          refine Ev.step (fun k => ?_) (sf_l1 n go st c hc hc1 x wy pre (by omega) (fun ch => hs x ch hr.1 hr.2.1) r c.toNat 0 tl _ (by omega) (by omega) (by simp at hrl; omega) hv (by rw [w64_nat pre.length (by omega)]; simpa using h3))
          show spec_ShortestFaro.l0 (k + 1) n go _ _ _ = _
          rw [spec_ShortestFaro.l0, if_pos q1, if_pos (nn _), r1, if_neg hx]
        · cases h
end
end Go.Proofs.Ytbeehklibkeecaa.F
end
section
/- Even numbers of cards. -/
namespace Go.Proofs.Ytbeehklibkeecaa.F
open Go.RowKit Go.Proofs.YtbeehklibkeecaaW.PrintWords Go.Proofs.YtbeehklibkeecaaW.PrintLast Go.Proofs.YtbeehklibkeecaaW.PrintMore
set_option linter.unusedVariables false
set_option linter.unusedSimpArgs false
/-- An even number of cards, from 2 to 12. -/
def pairedB (n : Int) : Bool := decide (2 ≤ n ∧ n ≤ 12 ∧ n % 2 = 0)
theorem paired_eq (n : Int) : impl_isPaired.f n = some (pairedB n) ∧ spec_l08Ok.f n = some (pairedB n) := by
  unfold spec_l08Ok.f impl_isPaired.f pairedB
  rw [l01In_eq]
  by_cases h1 : 2 ≤ n
  · by_cases h2 : n ≤ 12
    · have h4 : Int.tmod n 2 = n % 2 := Int.tmod_eq_emod_of_nonneg (by omega)
      by_cases h3 : n % 2 = 0
      · simp [h1, h2, h4, h3]
      · simp [h1, h2, h4, h3]
    · simp [h1, h2]
  · simp [h1]
end Go.Proofs.Ytbeehklibkeecaa.F
end
section
/- The perfect shuffle: the program's and the reference's functions make one list. -/
namespace Go.Proofs.Ytbeehklibkeecaa.F
open Go.RowKit Go.Proofs.YtbeehklibkeecaaW.PrintWords Go.Proofs.YtbeehklibkeecaaW.PrintLast Go.Proofs.YtbeehklibkeecaaW.PrintMore
set_option linter.unusedVariables false
set_option linter.unusedSimpArgs false
def weaveN : Nat → Bool → List Int → List Int → List Int
  | 0, _, _, _ => []
  | n + 1, true, x :: a, b => x :: weaveN n false a b
  | n + 1, true, [], y :: b => y :: weaveN n false [] b
  | n + 1, false, a, y :: b => y :: weaveN n true a b
  | n + 1, false, x :: a, [] => x :: weaveN n true a []
  | _ + 1, _, [], [] => []
def faroL (l : List Int) (k : Int) : List Int := weaveN l.length (k == 0) (l.take (l.length / 2)) (l.drop (l.length / 2))
theorem weave_length (n : Nat) : ∀ (f : Bool) (a b : List Int), a.length + b.length = n → (weaveN n f a b).length = n := by
  induction n with
  | zero => intro f a b h; cases f <;> rfl
  | succ n ih =>
    intro f a b h
    cases f with
    | true =>
      cases a with
      | cons x a => simp [weaveN, ih false a b (by simp at h; omega)]
      | nil =>
        cases b with
        | cons y b => simp [weaveN, ih false [] b (by simp at h ⊢; omega)]
        | nil => simp at h
    | false =>
      cases b with
      | cons y b => simp [weaveN, ih true a b (by simp at h; omega)]
      | nil =>
        cases a with
        | cons x a => simp [weaveN, ih true a [] (by simp at h ⊢; omega)]
        | nil => simp at h
theorem faro_length (l : List Int) (k : Int) : (faroL l k).length = l.length := weave_length _ _ _ _ (by rw [List.length_take, List.length_drop]; omega)
theorem rd_zero (x : Int) (a : List Int) : rd (x :: a) 0 = x := by simp [rd]
theorem len_pos (x : Int) (a : List Int) : ((x :: a).length : Int) > 0 := by rw [List.length_cons]; omega
theorem len_pos' (x : Int) (a : List Int) : 0 < ((x :: a).length : Int) := by rw [List.length_cons]; omega
theorem len_one (x : Int) (a : List Int) : 1 ≤ ((x :: a).length : Int) := by rw [List.length_cons]; omega
theorem len_nz (x : Int) (a : List Int) : ¬ ((x :: a).length : Int) = 0 := by rw [List.length_cons]; omega
theorem nil_npos : ¬ (([] : List Int).length : Int) > 0 := by simp
theorem nil_z : (([] : List Int).length : Int) = 0 := rfl
theorem impl_faro_at (n : Nat) : ∀ (f : Bool) (a b out : List Int), a.length + b.length = n → out.length + n ≤ 1048576 →
    Ev (fun k => impl_faro.l0 k a b out f) (out ++ weaveN n f a b) := by
  induction n with
  | zero =>
    intro f a b out h hb
    obtain rfl : a = [] := List.eq_nil_of_length_eq_zero (by omega)
    obtain rfl : b = [] := List.eq_nil_of_length_eq_zero (by omega)
    refine Ev.succ (Ev.succ ?_)
    refine Ev.congr (f := fun _ => some out) (fun k => ?_) (by simpa [weaveN] using Ev.now out)
    rw [impl_faro.l0, if_neg nil_npos, show decide ((([] : List Int).length : Int) > 0) = false from rfl, impl_faro.j1, if_neg (by decide)]
  | succ n ih =>
    intro f a b out h hb
    have ho : out.length < 17592186044416 := by omega
    have ha : ∀ x a', a = x :: a' → (f = true ∨ b = []) → Ev (fun k => impl_faro.l0 k a b out f) (out ++ x :: weaveN n (!f) a' b) := by
      intro x a' e c
      subst e
      have hi := ih (!f) a' b (out ++ [x]) (by simp at h; omega) (by simp; omega)
      rw [List.append_assoc] at hi
      refine Ev.succ (Ev.step (fun k => ?_) hi)
      rw [impl_faro.l0, if_pos (len_pos _ _), impl_faro.j1, if_pos rfl]
      cases f with
      | true => rw [if_pos rfl, if_pos (len_pos _ _), if_pos (len_pos' _ _), if_pos ho, if_pos (len_one _ _), rd_zero]; rfl
      | false =>
        rcases c with c | c
        · cases c
        · subst c
          rw [if_neg (by decide), if_pos nil_z, if_pos (len_pos' _ _), if_pos ho, if_pos (len_one _ _), rd_zero]; rfl
    have hbb : ∀ y b', b = y :: b' → (f = false ∨ a = []) → Ev (fun k => impl_faro.l0 k a b out f) (out ++ y :: weaveN n (!f) a b') := by
      intro y b' e c
      subst e
      have hi := ih (!f) a b' (out ++ [y]) (by simp at h; omega) (by simp; omega)
      rw [List.append_assoc] at hi
      refine Ev.succ (Ev.step (fun k => ?_) hi)
      have hj : impl_faro.l0 (k + 1 + 1) a (y :: b') out f = impl_faro.j1 (k + 1) a (y :: b') out f true := by
        rw [impl_faro.l0]
        by_cases c0 : (a.length : Int) > 0
        · rw [if_pos c0]
        · rw [if_neg c0, decide_eq_true (len_pos y b')]
      rw [hj, impl_faro.j1, if_pos rfl]
      cases f with
      | false => rw [if_neg (by decide), if_neg (len_nz _ _), if_pos (len_pos' _ _), if_pos ho, if_pos (len_one _ _), rd_zero]; rfl
      | true =>
        rcases c with c | c
        · cases c
        · subst c
          rw [if_pos rfl, if_neg nil_npos, if_neg (len_nz _ _), if_pos (len_pos' _ _), if_pos ho, if_pos (len_one _ _), rd_zero]; rfl
    cases f with
    | true =>
      cases a with
      | cons x a => simpa [weaveN] using ha x a rfl (.inl rfl)
      | nil =>
        cases b with
        | cons y b => simpa [weaveN] using hbb y b rfl (.inr rfl)
        | nil => simp at h
    | false =>
      cases b with
      | cons y b => simpa [weaveN] using hbb y b rfl (.inl rfl)
      | nil =>
        cases a with
        | cons x a => simpa [weaveN] using ha x a rfl (.inr rfl)
        | nil => simp at h
theorem half_id (l : List Int) (hb : l.length ≤ 1048576) : wrap64 ((l.length : Int) / 2) = ((l.length / 2 : Nat) : Int) := by
  rw [w64_id (by omega) (by omega)]
  omega
theorem impl_faro_ev (l : List Int) (k : Int) (hb : l.length ≤ 1048576) : Ev (fun n => impl_faro.f n l k) (faroL l k) := by
  unfold impl_faro.f
  have h1 : (0 : Int) ≤ ((l.length / 2 : Nat) : Int) := nn _
  have h2 : ((l.length / 2 : Nat) : Int) ≤ (l.length : Int) := by omega
  simp only [half_id l hb, if_pos h1, if_pos h2, Int.toNat_natCast]
  have h := impl_faro_at l.length (k == 0) (l.take (l.length / 2)) (l.drop (l.length / 2)) [] (by rw [List.length_take, List.length_drop]; omega) (by simpa using hb)
  simpa [faroL] using h
theorem spec_faro_at (k : Int) (hk : k = 0 ∨ k = 1) (n : Nat) : ∀ (f : Bool) (a b out : List Int), a.length + b.length = n → out.length + n ≤ 1048576 → f = decide ((out.length : Int) % 2 = k) →
    Ev (fun m => spec_l04Faro.l0 m k a b out) (out ++ weaveN n f a b) := by
  induction n with
  | zero =>
    intro f a b out h hb hf
    obtain rfl : a = [] := List.eq_nil_of_length_eq_zero (by omega)
    obtain rfl : b = [] := List.eq_nil_of_length_eq_zero (by omega)
    refine Ev.succ (Ev.succ ?_)
    refine Ev.congr (f := fun _ => some out) (fun m => ?_) (by simpa [weaveN] using Ev.now out)
    rw [spec_l04Faro.l0, if_neg nil_npos, show decide ((([] : List Int).length : Int) > 0) = false from rfl, spec_l04Faro.j1, if_neg (by decide)]
  | succ n ih =>
    intro f a b out h hb hf
    have ho : out.length < 17592186044416 := by omega
    have hnext : ∀ z : Int, (!f) = decide (((out ++ [z]).length : Int) % 2 = k) := by
      intro z
      rw [hf]
      rw [Bool.eq_iff_iff]
      simp
      omega
    have ha : ∀ x a', a = x :: a' → (f = true ∨ b = []) → Ev (fun m => spec_l04Faro.l0 m k a b out) (out ++ x :: weaveN n (!f) a' b) := by
      intro x a' e c
      subst e
      have hi := ih (!f) a' b (out ++ [x]) (by simp at h; omega) (by simp; omega) (hnext x)
      rw [List.append_assoc] at hi
      refine Ev.succ (Ev.step (fun m => ?_) hi)
      rw [spec_l04Faro.l0, if_pos (len_pos _ _), spec_l04Faro.j1, if_pos rfl]
      cases b with
      | nil => rw [if_pos nil_z, if_pos (len_pos' _ _), if_pos ho, if_pos (len_one _ _), rd_zero]; rfl
      | cons y b =>
        rcases c with c | c
        · have h2 : (out.length : Int) % 2 = k := of_decide_eq_true (hf.symm.trans c)
          rw [if_neg (len_nz _ _), if_pos (len_pos _ _), if_pos h2, if_pos (len_pos' _ _), if_pos ho, if_pos (len_one _ _), rd_zero]; rfl
        · cases c
    have hbb : ∀ y b', b = y :: b' → (f = false ∨ a = []) → Ev (fun m => spec_l04Faro.l0 m k a b out) (out ++ y :: weaveN n (!f) a b') := by
      intro y b' e c
      subst e
      have hi := ih (!f) a b' (out ++ [y]) (by simp at h; omega) (by simp; omega) (hnext y)
      rw [List.append_assoc] at hi
      refine Ev.succ (Ev.step (fun m => ?_) hi)
      have hj : spec_l04Faro.l0 (m + 1 + 1) k a (y :: b') out = spec_l04Faro.j1 (m + 1) k a (y :: b') out true := by
        rw [spec_l04Faro.l0]
        by_cases c0 : (a.length : Int) > 0
        · rw [if_pos c0]
        · rw [if_neg c0, decide_eq_true (len_pos y b')]
      rw [hj, spec_l04Faro.j1, if_pos rfl, if_neg (len_nz _ _)]
      cases a with
      | nil => rw [if_neg nil_npos, if_pos (len_pos' _ _), if_pos ho, if_pos (len_one _ _), rd_zero]; rfl
      | cons x a =>
        rcases c with c | c
        · have h2 : ¬ (out.length : Int) % 2 = k := of_decide_eq_false (hf.symm.trans c)
          rw [if_pos (len_pos _ _), if_neg h2, if_pos (len_pos' _ _), if_pos ho, if_pos (len_one _ _), rd_zero]; rfl
        · cases c
    cases f with
    | true =>
      cases a with
      | cons x a => simpa [weaveN] using ha x a rfl (.inl rfl)
      | nil =>
        cases b with
        | cons y b => simpa [weaveN] using hbb y b rfl (.inr rfl)
        | nil => simp at h
    | false =>
      cases b with
      | cons y b => simpa [weaveN] using hbb y b rfl (.inl rfl)
      | nil =>
        cases a with
        | cons x a => simpa [weaveN] using ha x a rfl (.inr rfl)
        | nil => simp at h
theorem spec_faro_ev (l : List Int) (k : Int) (hk : k = 0 ∨ k = 1) (hb : l.length ≤ 1048576) : Ev (fun n => spec_l04Faro.f n l k) (faroL l k) := by
  unfold spec_l04Faro.f
  have h1 : (0 : Int) ≤ ((l.length / 2 : Nat) : Int) := nn _
  have h2 : ((l.length / 2 : Nat) : Int) ≤ (l.length : Int) := by omega
  simp only [half_id l hb, if_pos h1, if_pos h2, Int.toNat_natCast]
  have h := spec_faro_at k hk l.length (k == 0) (l.take (l.length / 2)) (l.drop (l.length / 2)) [] (by rw [List.length_take, List.length_drop]; omega) (by simpa using hb) (by
    rcases hk with rfl | rfl <;> rfl)
  simpa [faroL] using h
end Go.Proofs.Ytbeehklibkeecaa.F
end
section
/- ShortestFaro: both functions answer the same, whatever the arguments are; and what the answer is good for. -/
namespace Go.Proofs.Ytbeehklibkeecaa.F
open Go.RowKit Go.Proofs.YtbeehklibkeecaaW.PrintWords Go.Proofs.YtbeehklibkeecaaW.PrintLast Go.Proofs.YtbeehklibkeecaaW.PrintMore
set_option linter.unusedVariables false
set_option linter.unusedSimpArgs false
/-- Where a card goes by a perfect shuffle. -/
def fnx (n : Nat) (x c : Int) : Int := idxFrom (fun y => y == x) (faroL (seqFrom 0 n) c) 0
def sfRes (n i t : Nat) : Option (List Int × Bool) := bfs (fnx n) (n : Int) (t : Int) (seqFrom 0 2) 20 [((i : Int), [])] 0
def sfOK (n i t : Nat) : Bool := match sfRes n i t with
  | some r => decide (r.1.length ≤ n) && (r.2 && ((r.1.foldl (fun x c => fnx n x c) (i : Int) == (t : Int)) && r.1.all (fun c => decide (c = 0 ∨ c = 1))))
  | none => false
def sfAll : Bool := (List.range 7).all fun h => (List.range (2 * h)).all fun i => (List.range (2 * h)).all fun t => sfOK (2 * h) i t
theorem sfAll_true : sfAll = true := by decide +kernel
def inAll : Bool := (List.range 7).all fun h => (List.range 2).all fun c => (faroL (seqFrom 0 (2 * h)) (c : Int)).all fun x => decide (0 ≤ x ∧ x < 12)
theorem inAll_true : inAll = true := by decide +kernel
theorem sfOK_true (h i t : Nat) (h1 : h ≤ 6) (h5 : i < 2 * h) (h6 : t < 2 * h) : sfOK (2 * h) i t = true := by
  have h0 := sfAll_true
  unfold sfAll at h0
  rw [List.all_eq_true] at h0
  have h7 := h0 h (List.mem_range.2 (by omega))
  rw [List.all_eq_true] at h7
  have h8 := h7 i (List.mem_range.2 h5)
  rw [List.all_eq_true] at h8
  exact h8 t (List.mem_range.2 h6)
theorem in_true (h : Nat) (h1 : h ≤ 6) (c : Nat) (hc : c < 2) (x : Int) (hx : x ∈ faroL (seqFrom 0 (2 * h)) (c : Int)) : 0 ≤ x ∧ x < 12 := by
  have h0 := inAll_true
  unfold inAll at h0
  rw [List.all_eq_true] at h0
  have h7 := h0 h (List.mem_range.2 (by omega))
  rw [List.all_eq_true] at h7
  have h8 := h7 c (List.mem_range.2 hc)
  rw [List.all_eq_true] at h8
  exact of_decide_eq_true (h8 x hx)
/-- Both functions' step. -/
theorem step_both (h : Nat) (h1 : h ≤ 6) (x ch : Int) (hx : 0 ≤ x) (hc0 : 0 ≤ ch) (hc1 : ch < 2) : Ev (fun k => impl_ShortestFaro.s k ((2 * h : Nat) : Int) x ch) (fnx (2 * h) x ch) ∧ Ev (fun k => spec_l08Next.f k ((2 * h : Nat) : Int) ch x) (fnx (2 * h) x ch) := by
  obtain ⟨u1, u2⟩ := upTo_ev ((2 * h : Nat) : Int) (by omega) (by omega)
  rw [Int.toNat_natCast] at u1 u2
  have hlen : (faroL (seqFrom 0 (2 * h)) ch).length = 2 * h := by rw [faro_length, seqFrom_length]
  have e1 := impl_faro_ev (seqFrom 0 (2 * h)) ch (by rw [seqFrom_length]; omega)
  have e2 := spec_faro_ev (seqFrom 0 (2 * h)) ch (by omega) (by rw [seqFrom_length]; omega)
  have hcn : ch = ((ch.toNat : Nat) : Int) := (Int.toNat_of_nonneg hc0).symm
  have hin : ∀ y ∈ faroL (seqFrom 0 (2 * h)) ch, 0 ≤ y ∧ y < 12 := fun y hy => by
    rw [hcn] at hy
    exact in_true h h1 ch.toNat (by omega) y hy
  constructor
  · unfold impl_ShortestFaro.s
    exact Ev.bind u1 (Ev.bind e1 (index_idx x (faroL (seqFrom 0 (2 * h)) ch) [] (by simp; omega)))
  · unfold spec_l08Next.f spec_l08Perm.f
    have hp := spec_posB (faroL (seqFrom 0 (2 * h)) ch) x (by omega)
    have hcg : posB (faroL (seqFrom 0 (2 * h)) ch) x = fnx (2 * h) x ch := by
      unfold posB fnx
      rw [if_neg (by omega)]
      exact idxFrom_congr _ _ _ _ (fun y hy => by rw [cardOf_self y (hin y hy).1 (hin y hy).2])
    rw [hcg] at hp
    exact Ev.bind (Ev.bind u2 (Ev.bind e2 (Ev.now _))) (Ev.bind hp (Ev.now _))
theorem short_in (h i t : Nat) (h0 : 1 ≤ h) (h1 : h ≤ 6) (h5 : i < 2 * h) (h6 : t < 2 * h) : ∃ r : List Int, Ev (fun k => spec_ShortestFaro.f k ((2 * h : Nat) : Int) (i : Int) (t : Int)) (r, true) ∧ Ev (fun k => impl_ShortestFaro.f k ((2 * h : Nat) : Int) (i : Int) (t : Int)) (r, true) ∧ r.length ≤ 2 * h ∧ sfRes (2 * h) i t = some (r, true) := by
  have hok := sfOK_true h i t h1 h5 h6
  unfold sfOK at hok
  cases hr : sfRes (2 * h) i t with
  | none => rw [hr] at hok; cases hok
  | some r =>
    rw [hr] at hok
    obtain ⟨r1, r2⟩ := r
    simp only [Bool.and_eq_true, decide_eq_true_eq] at hok
    obtain ⟨hl, hr2, _⟩ := hok
    subst hr2
    have hpb : pairedB ((2 * h : Nat) : Int) = true := by
      unfold pairedB
      exact decide_eq_true (by omega)
    have hb : bfs (fnx (2 * h)) ((2 * h : Nat) : Int) (t : Int) (seqFrom 0 ((2 : Int)).toNat) 20 [((i : Int), [])] 0 = some (r1, true) := hr
    refine ⟨r1, ?_, ?_, hl, rfl⟩
    · have e := sf_l0 ((2 * h : Nat) : Int) (t : Int) (fnx (2 * h)) 2 rfl (by omega) (by omega) (fun x ch a b c d => (step_both h h1 x ch a c d).2) 20 [] [((i : Int), [])] (r1, true) (by simp) hb
      unfold spec_ShortestFaro.f
      simp only [(paired_eq _).2, hpb, Option.bind_some, if_true, l01In_eq, w64_id (show -9223372036854775808 ≤ ((2 * h : Nat) : Int) - 1 by omega) (show ((2 * h : Nat) : Int) - 1 ≤ 9223372036854775807 by omega), decide_eq_true (show 0 ≤ (i : Int) ∧ (i : Int) ≤ ((2 * h : Nat) : Int) - 1 by omega), decide_eq_true (show 0 ≤ (t : Int) ∧ (t : Int) ≤ ((2 * h : Nat) : Int) - 1 by omega), Bool.not_true]
      refine Ev.step (fun k => ?_) e
      show spec_ShortestFaro.j0 (k + 1) _ _ _ _ = _
      rw [spec_ShortestFaro.j0, if_neg (by decide)]
      rfl
    · have e := sh_ev (fun k x y => impl_ShortestFaro.s k ((2 * h : Nat) : Int) x y) (fnx (2 * h)) ((2 * h : Nat) : Int) (t : Int) 2 (by omega) (by omega) (fun x ch a b c d => (step_both h h1 x ch a c d).1) (by omega) (i : Int) (by omega) 20 (r1, true) hb
      unfold impl_ShortestFaro.f
      simp only [(paired_eq _).1, hpb, Option.bind_some, if_true, if_neg (show ¬ ((i : Int) < 0) by omega), if_neg (show ¬ (((2 * h : Nat) : Int) ≤ (i : Int)) by omega), if_neg (show ¬ ((t : Int) < 0) by omega), if_neg (show ¬ (((2 * h : Nat) : Int) ≤ (t : Int)) by omega)]
      exact e
theorem short_both (n i t : Int) : ∃ r : List Int × Bool, Ev (fun k => spec_ShortestFaro.f k n i t) r ∧ Ev (fun k => impl_ShortestFaro.f k n i t) r ∧ r.1.length ≤ 1000 := by
  have sj : ∀ x, x = true → Ev (fun k => spec_ShortestFaro.j0 k n i t x) ([], false) := fun x hx => by
    subst hx
    exact Ev.step (f := fun _ => some ([], false)) (fun k => by rw [spec_ShortestFaro.j0, if_pos rfl]) (Ev.now _)
  by_cases c1 : pairedB n = true
  · have hn : 2 ≤ n ∧ n ≤ 12 ∧ n % 2 = 0 := by unfold pairedB at c1; exact of_decide_eq_true c1
    obtain ⟨h, rfl⟩ : ∃ h : Nat, n = ((2 * h : Nat) : Int) := ⟨(n / 2).toNat, by omega⟩
    have w := w64_id (show -9223372036854775808 ≤ ((2 * h : Nat) : Int) - 1 by omega) (show ((2 * h : Nat) : Int) - 1 ≤ 9223372036854775807 by omega)
    by_cases c2 : (0 ≤ i ∧ i < ((2 * h : Nat) : Int)) ∧ (0 ≤ t ∧ t < ((2 * h : Nat) : Int))
    · obtain ⟨i, rfl⟩ := Int.eq_ofNat_of_zero_le c2.1.1
      obtain ⟨t, rfl⟩ := Int.eq_ofNat_of_zero_le c2.2.1
      obtain ⟨r, e1, e2, e3, _⟩ := short_in h i t (by omega) (by omega) (by omega) (by omega)
      exact ⟨(r, true), e1, e2, by simp only; omega⟩
    · refine ⟨([], false), ?_, ?_, by simp⟩
      · unfold spec_ShortestFaro.f
        simp only [(paired_eq _).2, c1, Option.bind_some, if_true, l01In_eq, w]
        by_cases c3 : 0 ≤ i ∧ i ≤ ((2 * h : Nat) : Int) - 1
        · simp only [decide_eq_true c3, if_true]
          exact sj _ (by rw [decide_eq_false (by omega)]; rfl)
        · simp only [decide_eq_false c3, Bool.false_eq_true, if_false]
          exact sj _ rfl
      · unfold impl_ShortestFaro.f
        simp only [(paired_eq _).1, c1, Option.bind_some, if_true]
        by_cases d1 : i < 0
        · simp only [if_pos d1]; exact Ev.now _
        simp only [if_neg d1]
        by_cases d2 : ((2 * h : Nat) : Int) ≤ i
        · simp only [if_pos d2]; exact Ev.now _
        simp only [if_neg d2]
        by_cases d3 : t < 0
        · simp only [if_pos d3]; exact Ev.now _
        simp only [if_neg d3, if_pos (show ((2 * h : Nat) : Int) ≤ t by omega)]
        exact Ev.now _
  · refine ⟨([], false), ?_, ?_, by simp⟩
    · unfold spec_ShortestFaro.f
      simp only [(paired_eq _).2, Bool.eq_false_iff.mpr c1, Option.bind_some, Bool.false_eq_true, if_false]
      exact sj _ rfl
    · unfold impl_ShortestFaro.f
      simp only [(paired_eq _).1, Bool.eq_false_iff.mpr c1, Option.bind_some, Bool.false_eq_true, if_false]
      exact Ev.now _
end Go.Proofs.Ytbeehklibkeecaa.F
end
section
/- ShortestFaro: both functions make the same; marks that are laid are held. -/
namespace Go.Proofs.Ytbeehklibkeecaa.Pure
open Go.RowKit Go.Proofs.Ytbeehklibkeecaa.F Go.Proofs.YtbeehklibkeecaaW.PrintWords Go.Proofs.YtbeehklibkeecaaW.PrintLast Go.Proofs.YtbeehklibkeecaaW.PrintMore
set_option linter.unusedVariables false
set_option linter.unusedSimpArgs false
theorem FnExactShortestFaro : laws_FnExactShortestFaro.Pure := by
  intro n i t _ _ _
  obtain ⟨r, hs, hi, hr⟩ := short_both n i t
  refine Ev.rounds (g := fun k => laws_FnExactShortestFaro.f k n i t) ?_
  unfold laws_FnExactShortestFaro.f
  repeat' first
    | exact Ev.now _
    | with_reducible refine Ev.bind hs ?_
    | with_reducible refine Ev.bind hi ?_
    | with_reducible refine Ev.bind (eqIntS_same _ (by omega)) ?_
    | with_reducible refine Ev.bind (markIntS_ev _ _ (by omega) (by omega) (by omega)) ?_
    | with_reducible refine Ev.bind (heldIntS_ev _ _ (by omega) (by omega) (by omega)) ?_
    | simp only [if_true, if_false, Bool.not_true, bne_self_eq_false, Bool.false_eq_true, neg1, neg2, neg3]
    | (refine Ev.succ ?_; simp only [laws_FnExactShortestFaro.j0, laws_FnExactShortestFaro.j1])
end Go.Proofs.Ytbeehklibkeecaa.Pure
end
