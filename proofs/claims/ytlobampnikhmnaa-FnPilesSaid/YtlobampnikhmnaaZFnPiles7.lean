import Derived.Test.YtlobampnikhmnaaZFnPiles4
import Derived.Test.YtlobampnikhmnaaZFnPiles6
import Derived.Test.YtlobampnikhmnaaZFnPiles5
section
/- Laid by a program of this claim's own. What the Go function does, as a Lean function, and the proof that the Go code does just that; Lean checks it. -/
namespace Go.Proofs.Ytlobampnikhmnaa.F
open Go.RowKit Go.Proofs.YtlobampnikhmnaaW.PrintWords Go.Proofs.YtlobampnikhmnaaW.PrintLast Go.Proofs.YtlobampnikhmnaaW.PrintMore
attribute [local go_sem] max2_int min2_int max_two min_two max_three min_three max_four min_four   -- for this text's walks alone
set_option linter.unusedVariables false
set_option linter.unusedSimpArgs false
/-! ### spec_l02Shuffle: function 85 -/
def spec_l02Shuffle.l0 : Nat → Int → List Int → Int → List Int → Int → Int → Option (List Int × Int × Int)
  | 0, _, _, _, _, _, _ => none
  | k + 1, x1, x5, x6, x1000, x1001, x1002 => if x6 < x1 then ((spec_l01Below.f x1000 x1001 x1002 (wrap64 (x6 + 1))).bind fun bt327 => (if x5.length < 17592186044416 then ((some (x5 ++ [x6] : List Int)).bind fun y330 => (if 0 ≤ bt327.1 then (if bt327.1 < (y330.length : Int) then (if 0 ≤ x6 then (if x6 < (y330.length : Int) then (spec_l02Shuffle.l0 k x1 ((y330.set (x6 : Int).toNat (rd y330 bt327.1)).set (bt327.1 : Int).toNat x6) (wrap64 (x6 + 1)) x1000 bt327.2.1 bt327.2.2) else (none)) else (none)) else (none)) else (none))) else (none))) else (some (x5, x1001, x1002))
def spec_l02Shuffle.f (k : Nat) (s0_0 : List Int) (s0_1 : Int) (s0_2 : Int) (a1 : Int) : Option (List Int × Int × Int) := spec_l02Shuffle.l0 k a1 (([] : List Int)) 0 s0_0 s0_1 s0_2
set_option maxHeartbeats 8000000 in
set_option maxRecDepth 100000 in
theorem spec_l02Shuffle.calls (k : Nat) (g : Nat) (s0_0 : List Int) (s0_1 : Int) (s0_2 : Int) (a1 : Int) (r1 : List Int) (r2 : Int) (r3 : Int) (w0 w : World) (hI : IsS116 w0 w g s0_0 s0_1 s0_2) (hB : Below w0.heap.size w0 w) (h : spec_l02Shuffle.f k s0_0 s0_1 s0_2 a1 = some (r1, r2, r3)) :
    Calls Try.prog 85 #[.pointer (some ⟨g, 0, none⟩), .int .i64 a1] w fun e w' => ∃ v0_ : Value, e = .returned (v0_) ∧ Kd.R (Kd.int .i64) 3 w' w.heap.size (fun _ => True) v0_ r1 ∧ IsS116 w0 w' g s0_0 r2 r3 ∧ Below w0.heap.size w0 w' ∧ KeepBut w w' g none := by
  have HI0 := Aside0.mk hI
  have HK := Aside0.mk (KeepBut.refl w g none)
  have HL := Aside0.mk hB.size
  clear hI
  have HW0 := Aside0.mk hB.size
  have HB := Aside0.mk hB
  clear hB
  have H : (spec_l02Shuffle.l0 k a1 (([] : List Int)) 0 s0_0 s0_1 s0_2) = some (r1, r2, r3) := h
  clear h
  obtain ⟨y324, hy324⟩ : ∃ y_ : List Int, y_ = (([] : List Int)) := ⟨_, rfl⟩
  replace H : (spec_l02Shuffle.l0 k a1 y324 0 s0_0 s0_1 s0_2) = some (r1, r2, r3) := by first | (rw [hy324]; with_reducible exact H) | (have H2_ := (Option.bind_some _ _).symm.trans H; rw [hy324]; with_reducible exact H2_) | (have H2_ := (Option.bind_some _ _).symm.trans H; with_reducible exact H2_) | with_reducible exact H | (rw [hy324]; exact H) | exact H
  have Ny324 := Aside0.mk hy324
  clear hy324
  have H' := Aside0.mk H
  clear H
  go_enter Try.func85, Try.ntmps85
  go_wp2_with (first | ((with_reducible refine gate_dst (N := 8) rfl ?_); refine Kd.R_lit (Kd.int .i64) _ 3 ?hg (N := 8) ?hd (xs := ([] : List Int)) (inner := []) (ok := fun _ => True) (okp := fun _ => True) ?hr ?hp (fun _ hk => hk) trivial (Below.refl _ _) (Nat.le_refl _) (by simp) ?_; (case hd => rfl); (case hg => rfl); (case hr => first | (go_simp; done) | (go_simp; rfl)); (case hp => exact (Reps.none _ _)); intro v325 w3 ho4 hb hg_ hnew_; clear hg_ hnew_; (first | rw [← Ny324.out] at ho4 | (simp only [Int.reduceToNat] at ho4; rw [← Ny324.out] at ho4)); have n0_ := Aside0.mk (Kd.R_lower ho4 (keep_size (w := w) (g := g) (row := none) (by repeat (first | (with_reducible first | exact HK.out | apply KeepBut.set_ | apply keep_drewN | apply keep_drew | apply keep_alloc) | exact HK.out)))); have n1_ := Aside0.mk (IsS116.below (by repeat (first | (with_reducible first | exact HI0.out | apply IsS116.alloc | apply IsS116.drewN | apply IsS116.drew | apply IsS116.set_1 | apply IsS116.set_2) | exact HI0.out)) hb); have n2_ := Aside0.mk (KeepBut.trans (by repeat (first | (with_reducible first | exact HK.out | apply KeepBut.set_ | apply keep_drewN | apply keep_drew | apply keep_alloc) | exact HK.out)) (KeepBut.of_below hb g none) (.inl rfl)); have n3_ := Aside0.mk (below_step (by repeat (first | (with_reducible first | exact HB.out | apply below_alloc | apply pw_below_drewN | apply below_drew1 | refine below_set ?_ (IsS116.ge HI0.out)) | exact HB.out)) hb); clear HI0; clear HK; clear HB; have HO326 := n0_; have HI0 := n1_; have HK := n2_; have HB := n3_; clear n0_ n1_ n2_ n3_; clear hb ho4))
  go_loopg [5, 6] k (fun kq v5 v6 w' => ∃ (x5_1 : List Int) (x6_1 : Int) (x1001_1 : Int) (x1002_1 : Int), v6 = .int .i64 x6_1 ∧ Aside0 (spec_l02Shuffle.l0 kq a1 x5_1 x6_1 s0_0 x1001_1 x1002_1 = some (r1, r2, r3)) ∧ Aside0 (kq ≤ k) ∧ Aside0 (Kd.R (Kd.int .i64) 3 w' w.heap.size (fun _ => True) v5 x5_1) ∧ Aside0 (IsS116 w0 w' g s0_0 x1001_1 x1002_1) ∧ Aside0 (KeepBut w w' g none) ∧ Aside0 (Below w0.heap.size w0 w'))
  case atStart => exact ⟨(y324), (0), (s0_1), (s0_2), (by first | rfl | (simp; done) | (simp [*]; done)), H', ⟨Nat.le_refl _⟩, ⟨by (with_reducible repeat (first | apply Kd.R_alloc | apply Kd.R_drewN | apply Kd.R_drew)); exact HO326.out⟩, ⟨by repeat (first | (with_reducible first | exact HI0.out | apply IsS116.alloc | apply IsS116.drewN | apply IsS116.drew | apply IsS116.set_1 | apply IsS116.set_2) | exact HI0.out)⟩, ⟨by repeat (first | (with_reducible first | exact HK.out | apply KeepBut.set_ | apply keep_drewN | apply keep_drew | apply keep_alloc) | exact HK.out)⟩, ⟨by repeat (first | (with_reducible first | exact HB.out | apply below_alloc | apply pw_below_drewN | apply below_drew1 | refine below_set ?_ (IsS116.ge HI0.out)) | exact HB.out)⟩⟩
  case round =>
    clear H'
    try clear p2
    obtain ⟨x5_1, x6_1, x1001_1, x1002_1, rfl, HA, HK1, HO_5, HI0, HK, HB⟩ := hrel
    cases gk with
    | zero => exact absurd HA.out (by simp [spec_l02Shuffle.l0])
    | succ k1 =>
      have H := HA.out
      clear HA
      simp only [spec_l02Shuffle.l0] at H
      by_cases c5 : x6_1 < a1
      · rw [if_pos c5] at H
        have c5b0 : decide (x6_1 < a1) = true := decide_eq_true c5
        clear c5
        replace H := Option.bind_eq_some_iff.mp H
        obtain ⟨⟨t327, t328, t329⟩, A60, H⟩ := H
        replace H : (if x5_1.length < 17592186044416 then ((some (x5_1 ++ [x6_1] : List Int)).bind fun y330 => (if 0 ≤ t327 then (if t327 < (y330.length : Int) then (if 0 ≤ x6_1 then (if x6_1 < (y330.length : Int) then (spec_l02Shuffle.l0 k1 a1 ((y330.set (x6_1 : Int).toNat (rd y330 t327)).set (t327 : Int).toNat x6_1) (wrap64 (x6_1 + 1)) s0_0 t328 t329) else (none)) else (none)) else (none)) else (none))) else (none)) = some (r1, r2, r3) := H
        have A6 := Aside0.mk A60
        clear A60
        by_cases c7 : x5_1.length < 17592186044416
        · rw [if_pos c7] at H
          have LMc7 := Aside0.mk c7
          clear c7
          obtain ⟨y330, hy330⟩ : ∃ y_ : List Int, y_ = (x5_1 ++ [x6_1]) := ⟨_, rfl⟩
          replace H : (if 0 ≤ t327 then (if t327 < (y330.length : Int) then (if 0 ≤ x6_1 then (if x6_1 < (y330.length : Int) then (spec_l02Shuffle.l0 k1 a1 ((y330.set (x6_1 : Int).toNat (rd y330 t327)).set (t327 : Int).toNat x6_1) (wrap64 (x6_1 + 1)) s0_0 t328 t329) else (none)) else (none)) else (none)) else (none)) = some (r1, r2, r3) := by first | (rw [hy330]; with_reducible exact H) | (have H2_ := (Option.bind_some _ _).symm.trans H; rw [hy330]; with_reducible exact H2_) | (have H2_ := (Option.bind_some _ _).symm.trans H; with_reducible exact H2_) | with_reducible exact H | (rw [hy330]; exact H) | exact H
          have Ny330 := Aside0.mk hy330
          clear hy330
          by_cases c8 : 0 ≤ t327
          · rw [if_pos c8] at H
            have c8b0 : decide (0 ≤ t327) = true := decide_eq_true c8
            clear c8
            by_cases c9 : t327 < (y330.length : Int)
            · rw [if_pos c9] at H
              have c9b0 : decide (t327 < (y330.length : Int)) = true := decide_eq_true c9
              clear c9
              by_cases c10 : 0 ≤ x6_1
              · rw [if_pos c10] at H
                have c10b0 : decide (0 ≤ x6_1) = true := decide_eq_true c10
                clear c10
                by_cases c11 : x6_1 < (y330.length : Int)
                · rw [if_pos c11] at H
                  have c11b0 : decide (x6_1 < (y330.length : Int)) = true := decide_eq_true c11
                  clear c11
                  obtain ⟨y334, hy334⟩ : ∃ y_ : List Int, y_ = (y330.set (x6_1 : Int).toNat (rd y330 t327)) := ⟨_, rfl⟩
                  replace H : (spec_l02Shuffle.l0 k1 a1 (y334.set (t327 : Int).toNat x6_1) (wrap64 (x6_1 + 1)) s0_0 t328 t329) = some (r1, r2, r3) := by first | (rw [hy334]; with_reducible exact H) | (have H2_ := (Option.bind_some _ _).symm.trans H; rw [hy334]; with_reducible exact H2_) | (have H2_ := (Option.bind_some _ _).symm.trans H; with_reducible exact H2_) | with_reducible exact H | (rw [hy334]; exact H) | exact H
                  have Ny334 := Aside0.mk hy334
                  clear hy334
                  obtain ⟨y335, hy335⟩ : ∃ y_ : List Int, y_ = (y334.set (t327 : Int).toNat x6_1) := ⟨_, rfl⟩
                  replace H : (spec_l02Shuffle.l0 k1 a1 y335 (wrap64 (x6_1 + 1)) s0_0 t328 t329) = some (r1, r2, r3) := by first | (rw [hy335]; with_reducible exact H) | (have H2_ := (Option.bind_some _ _).symm.trans H; rw [hy335]; with_reducible exact H2_) | (have H2_ := (Option.bind_some _ _).symm.trans H; with_reducible exact H2_) | with_reducible exact H | (rw [hy335]; exact H) | exact H
                  have Ny335 := Aside0.mk hy335
                  clear hy335
                  have H' := Aside0.mk H
                  clear H
                  go_wp2_with (first | ((with_reducible refine gate_callee (f := 94) rfl ?_); refine goesL_ (some 17) rfl rfl Try.func94 (by kernel_rfl) rfl #[.pointer (some ⟨g, 0, none⟩), .int .i64 (wrap64 (x6_1 + 1))] rfl (by (try simp only [List.map_toArray, List.map_cons, List.map_nil]); first | done | rfl | (simp only [List.length_drop, List.length_take]; rfl)) ?_; (with_reducible refine (spec_l01Below.calls g s0_0 x1001_1 x1002_1 (wrap64 (x6_1 + 1)) t327 t328 t329 w0 _ ?side1 ?side2 A6.out).mono ?_); (case side1 => repeat (first | (with_reducible first | exact HI0.out | apply IsS116.alloc | apply IsS116.drewN | apply IsS116.drew | apply IsS116.set_1 | apply IsS116.set_2) | exact HI0.out)); (case side2 => repeat (first | (with_reducible first | exact HB.out | apply below_alloc | apply pw_below_drewN | apply below_drew1 | refine below_set ?_ (IsS116.ge HI0.out)) | exact HB.out)); rintro e w14 ⟨rfl, hi, hb, hk⟩; refine ⟨_, rfl, ?_⟩; have n0_ := Aside0.mk (Kd.R_mono (Kd.R_keep (IsS116.apart (show IsS116 w0 _ g s0_0 x1001_1 x1002_1 from by repeat (first | (with_reducible first | exact HI0.out | apply IsS116.alloc | apply IsS116.drewN | apply IsS116.drew | apply IsS116.set_1 | apply IsS116.set_2) | exact HI0.out)) (by (with_reducible repeat (first | apply Kd.R_alloc | apply Kd.R_drewN | apply Kd.R_drew)); exact HO_5.out) (by decide)) hk (fun _ h => h.2)) (fun _ h => h.1)); have n1_ := Aside0.mk (KeepBut.trans (by repeat (first | (with_reducible first | exact HK.out | apply KeepBut.set_ | apply keep_drewN | apply keep_drew | apply keep_alloc) | exact HK.out)) hk (.inl rfl)); have n2_ := Aside0.mk (hb); have n3_ := Aside0.mk (hi); clear HO_5; clear HK; clear HB; clear HI0; have HO_5 := n0_; have HK := n1_; have HB := n2_; have HI0 := n3_; clear n0_ n1_ n2_ n3_; (try clear hb); (try clear hb2); (try clear hk); (try clear hi)) | ((with_reducible refine gate_builtin (b := .append) (xs := #[.tmp 18, .tmp 20]) rfl ?_); at_builtin; refine Kd.R_append (Kd.int .i64) w.heap.size rfl (.tmp 18) (.tmp 20) 24 3 (.int .i64 0) 8 rfl Try.underlying24 info3 rfl (by decide) (by omega) u5 x5_1 x6_1 [.int .i64 x6_1] (fun _ => True) (fun _ => False) rfl rfl ?aP (fun _ hk => hk.elim) ?aF ?aO (Below.refl _ _) ?aS ?aL ?_; (case aP => exact rfl); (case aF => exact (fun _ _ => trivial)); (case aO => exact (by (with_reducible repeat (first | apply Kd.R_alloc | apply Kd.R_drewN | apply Kd.R_drew)); exact HO_5.out)); (case aS => exact (keep_size (w := w) (g := g) (row := none) (by repeat (first | (with_reducible first | exact HK.out | apply KeepBut.set_ | apply keep_drewN | apply keep_drew | apply keep_alloc) | exact HK.out)))); (case aL => have := LMc7.out; omega); intro v331 w15 ho hb hg hat; rw [← Ny330.out] at ho; have n0_ := Aside0.mk (IsS116.grown (by repeat (first | (with_reducible first | exact HI0.out | apply IsS116.alloc | apply IsS116.drewN | apply IsS116.drew | apply IsS116.set_1 | apply IsS116.set_2) | exact HI0.out)) hg (IsS116.own_ne HI0.out HO_5.out (by decide))); have n1_ := Aside0.mk (below_weaken (by repeat (first | (with_reducible first | exact HB.out | apply below_alloc | apply pw_below_drewN | apply below_drew1 | refine below_set ?_ (IsS116.ge HI0.out)) | exact HB.out)) HL.out hb); have n2_ := Aside0.mk (KeepBut.trans (by repeat (first | (with_reducible first | exact HK.out | apply KeepBut.set_ | apply keep_drewN | apply keep_drew | apply keep_alloc) | exact HK.out)) (KeepBut.of_grown hg g) (Kd.R_base2 HO_5.out)); have n3_ := Aside0.mk (ho); clear HI0; clear HB; clear HK; clear HO_5; have HI0 := n0_; have HB := n1_; have HK := n2_; have HO332 := n3_; clear n0_ n1_ n2_ n3_; clear ho hb hg hat; obtain ⟨Ao16, co16, eo16⟩ := Kd.R_slice HO332.out; subst eo16; have p333 : 0 ≤ (t327 : Int) := of_decide_eq_true (by first | (with_reducible assumption) | assumption); have q333 : t327 < (y330.length : Int) := of_decide_eq_true (by first | (with_reducible assumption) | assumption); obtain ⟨ad333, e333, hx333_0⟩ := Kd.at_int (Kd.R_reads' HO332.out).2.2 t327 p333 q333; cases e333; replace p333 := eq_true p333; replace q333 := eq_true q333; have p12 : 0 ≤ (x6_1 : Int) := of_decide_eq_true (by first | (with_reducible assumption) | assumption); have q12 : (x6_1 : Int) < ((y330.length : Int) : Int) := of_decide_eq_true (by first | (with_reducible assumption) | assumption); obtain ⟨go12, co12, eo12, gb12, gl12, cl12, HG12⟩ := Kd.R_form HO332.out (by omega); (first | cases eo12 | (injection eo12 with ea_ en_ ec_; (first | subst ea_ | (injection ea_ with ea_; subst ea_)); subst ec_; clear en_)); have GB12 := Aside0.mk gb12; have GG12 := Aside0.mk HG12; clear gb12 gl12 HG12; (first | simp only [add_plain] at hx333_0 | skip); obtain ⟨hx12_0, hf12_0⟩ := Kd.R_celln 0 HO332.out (x6_1 : Int) p12 q12; replace p12 := eq_true p12; replace q12 := eq_true q12; obtain ⟨hy17_, hz17_⟩ := Kd.R_celln 0 HO332.out (x6_1 : Int) (of_decide_eq_true (by first | (with_reducible assumption) | assumption)) (of_decide_eq_true (by first | (with_reducible assumption) | assumption)); have HP17 := Kd.R_putg HO332.out (x6_1 : Int) (rd y330 t327)) | ((with_reducible refine gate_store (t := 3) (p := 28) rfl ?_); refine store_event (t := 3) (p := 28) (v := ?vo_w18) (w1 := (w15.setCell ⟨go12, (x6_1 : Int).toNat, none⟩ (.int .i64 (rd y330 t327)))) ?hg ?ho ?hn ?hr ?_; (case ho => rfl); (case hg => rfl); (case hn => rfl); (case hr => first | (go_simp; done) | (go_simp; rfl)); intro w18 hw; have hg : w15.grownBy w18 (some go12) := (by rw [hw]; exact HP17.2); have hp_ : Kd.R (Kd.int .i64) 3 w18 w.heap.size (fun _ => True) (.slice (some ⟨go12, 0, none⟩) y330.length co16) y334 := (by rw [hw, Ny334.out]; exact HP17.1); clear HP17; have n0_ := Aside0.mk (IsS116.grown (by repeat (first | (with_reducible first | exact HI0.out | apply IsS116.alloc | apply IsS116.drewN | apply IsS116.drew | apply IsS116.set_1 | apply IsS116.set_2) | exact HI0.out)) hg (IsS116.own_ne HI0.out HO332.out (by decide))); have n1_ := Aside0.mk (hp_); have n2_ := Aside0.mk ((by rw [hw]; exact below_set (HB.out) (Nat.le_trans HL.out GB12.out) : Below w0.heap.size w0 w18)); have n3_ := Aside0.mk (KeepBut.trans (by repeat (first | (with_reducible first | exact HK.out | apply KeepBut.set_ | apply keep_drewN | apply keep_drew | apply keep_alloc) | exact HK.out)) (KeepBut.of_grown hg g) (Kd.R_base2 HO332.out)); clear HI0; clear HO332; clear HB; clear HK; have HI0 := n0_; have HO332 := n1_; have HB := n2_; have HK := n3_; clear n0_ n1_ n2_ n3_; clear hg hw hp_; have p13 : 0 ≤ (t327 : Int) := of_decide_eq_true (by first | (with_reducible assumption) | assumption); have q13 : (t327 : Int) < ((y330.length : Int) : Int) := of_decide_eq_true (by first | (with_reducible assumption) | assumption); obtain ⟨hx13_0, hf13_0⟩ := Kd.R_celln 0 HO332.out (t327 : Int) p13 q13; replace p13 := eq_true p13; replace q13 := eq_true q13; obtain ⟨hy19_, hz19_⟩ := Kd.R_celln 0 HO332.out (t327 : Int) (of_decide_eq_true (by first | (with_reducible assumption) | assumption)) (of_decide_eq_true (by first | (with_reducible assumption) | assumption)); have HP19 := Kd.R_putg HO332.out (t327 : Int) x6_1) | ((with_reducible refine gate_store (t := 3) (p := 32) rfl ?_); refine store_event (t := 3) (p := 32) (v := ?vo_w20) (w1 := (w18.setCell ⟨go12, (t327 : Int).toNat, none⟩ (.int .i64 x6_1))) ?hg ?ho ?hn ?hr ?_; (case ho => rfl); (case hg => rfl); (case hn => rfl); (case hr => first | (go_simp; done) | (go_simp; rfl)); intro w20 hw; have hg : w18.grownBy w20 (some go12) := (by rw [hw]; exact HP19.2); have hp_ : Kd.R (Kd.int .i64) 3 w20 w.heap.size (fun _ => True) (.slice (some ⟨go12, 0, none⟩) y330.length co16) y335 := (by rw [hw, Ny335.out]; exact HP19.1); clear HP19; have n0_ := Aside0.mk (IsS116.grown (by repeat (first | (with_reducible first | exact HI0.out | apply IsS116.alloc | apply IsS116.drewN | apply IsS116.drew | apply IsS116.set_1 | apply IsS116.set_2) | exact HI0.out)) hg (IsS116.own_ne HI0.out HO332.out (by decide))); have n1_ := Aside0.mk (hp_); have n2_ := Aside0.mk ((by rw [hw]; exact below_set (HB.out) (Nat.le_trans HL.out GB12.out) : Below w0.heap.size w0 w20)); have n3_ := Aside0.mk (KeepBut.trans (by repeat (first | (with_reducible first | exact HK.out | apply KeepBut.set_ | apply keep_drewN | apply keep_drew | apply keep_alloc) | exact HK.out)) (KeepBut.of_grown hg g) (Kd.R_base2 HO332.out)); clear HI0; clear HO332; clear HB; clear HK; have HI0 := n0_; have HO332 := n1_; have HB := n2_; have HK := n3_; clear n0_ n1_ n2_ n3_; clear hg hw hp_))
                  go_roundg k1
                  case measure => have := HK1.out; omega
                  case rel => exact ⟨(y335), (wrap64 (x6_1 + 1)), (t328), (t329), (by first | rfl | (simp; done) | (simp [*]; done)), H', ⟨by have := HK1.out; omega⟩, ⟨by (with_reducible repeat (first | apply Kd.R_alloc | apply Kd.R_drewN | apply Kd.R_drew)); exact HO332.out⟩, ⟨by repeat (first | (with_reducible first | exact HI0.out | apply IsS116.alloc | apply IsS116.drewN | apply IsS116.drew | apply IsS116.set_1 | apply IsS116.set_2) | exact HI0.out)⟩, ⟨by repeat (first | (with_reducible first | exact HK.out | apply KeepBut.set_ | apply keep_drewN | apply keep_drew | apply keep_alloc) | exact HK.out)⟩, ⟨by repeat (first | (with_reducible first | exact HB.out | apply below_alloc | apply pw_below_drewN | apply below_drew1 | refine below_set ?_ (IsS116.ge HI0.out)) | exact HB.out)⟩⟩
                · rw [if_neg c11] at H
                  exact absurd H (by simp)
              · rw [if_neg c10] at H
                exact absurd H (by simp)
            · rw [if_neg c9] at H
              exact absurd H (by simp)
          · rw [if_neg c8] at H
            exact absurd H (by simp)
        · rw [if_neg c7] at H
          exact absurd H (by simp)
      · rw [if_neg c5] at H
        have c5b0 : decide (x6_1 < a1) = false := decide_eq_false c5
        clear c5
        simp only [Option.some.injEq, Prod.mk.injEq] at H
        obtain ⟨rfl, rfl, rfl⟩ := H
        go_wp2
        go_ret
        exact ⟨_, by first | rfl | (simp [errW_none, errW_some] <;> rfl) | (simp [*, errW_none, errW_some] <;> rfl), by (with_reducible repeat (first | apply Kd.R_alloc | apply Kd.R_drewN | apply Kd.R_drew)); exact HO_5.out, by repeat (first | (with_reducible first | exact HI0.out | apply IsS116.alloc | apply IsS116.drewN | apply IsS116.drew | apply IsS116.set_1 | apply IsS116.set_2) | exact HI0.out), by repeat (first | (with_reducible first | exact HB.out | apply below_alloc | apply pw_below_drewN | apply below_drew1 | refine below_set ?_ (IsS116.ge HI0.out)) | exact HB.out), by repeat (first | (with_reducible first | exact HK.out | apply KeepBut.set_ | apply keep_drewN | apply keep_drew | apply keep_alloc) | exact HK.out)⟩
end Go.Proofs.Ytlobampnikhmnaa.F
end
section
/- Laid by a program of this claim's own. What the Go function does, as a Lean function, and the proof that the Go code does just that; Lean checks it. -/
namespace Go.Proofs.Ytlobampnikhmnaa.F
open Go.RowKit Go.Proofs.YtlobampnikhmnaaW.PrintWords Go.Proofs.YtlobampnikhmnaaW.PrintLast Go.Proofs.YtlobampnikhmnaaW.PrintMore
attribute [local go_sem] max2_int min2_int max_two min_two max_three min_three max_four min_four   -- for this text's walks alone
set_option linter.unusedVariables false
set_option linter.unusedSimpArgs false
/-! ### spec_MakePerm: function 25 -/
def spec_MakePerm.f (k : Nat) (l0 : List Int) (a1 a2 : Int) : Option (List Int) := (spec_l23New.f k l0 a1).bind fun s => (spec_l02Shuffle.f k s.1 s.2.1 s.2.2 (mx 1 (mn a2 12))).bind fun b => some b.1
theorem spec_MakePerm.args (p : Value) {x y : Int} (h : x = y) : (#[p, .int .i64 x] : Array Value) = #[p, .int .i64 y] := by rw [h]
set_option maxHeartbeats 8000000 in
set_option maxRecDepth 100000 in
theorem spec_MakePerm.calls (k : Nat) (A0 : Option Addr) (c0 : Nat) (l0 : List Int) (a1 a2 : Int) (r : List Int) (w : World) (hr0 : Kd.C (Kd.int .u8) w A0 l0.length l0) (hc0 : l0.length ≤ c0) (h : spec_MakePerm.f k l0 a1 a2 = some r) :
    Calls Try.prog 25 #[.slice A0 l0.length c0, .int .i64 a1, .int .i64 a2] w fun e w' => ∃ v0_ : Value, e = .returned (v0_) ∧ Kd.R (Kd.int .i64) 3 w' w.heap.size (fun _ => True) v0_ r ∧ Below w.heap.size w w' := by
  have HR0 := Aside0.mk hr0
  have HC0 := Aside0.mk hc0
  obtain ⟨⟨t1, t2, t3⟩, h1, h⟩ := Option.bind_eq_some_iff.mp h
  obtain ⟨⟨b1, b2, b3⟩, h2, h⟩ := Option.bind_eq_some_iff.mp h
  obtain rfl := Option.some.inj h
  have A1 := Aside0.mk h1
  have A2 := Aside0.mk h2
  clear hr0 hc0 h1 h2 h
  go_enter Try.func25, Try.ntmps25
  go_wp2_with (go_at_call 83; (with_reducible refine (spec_l23New.calls k A0 c0 l0 a1 t1 t2 t3 _ HR0.out HC0.out A1.out).mono ?_); rintro e w7 ⟨g, rfl, hi, hb⟩; have HI := Aside0.mk hi; have HB := Aside0.mk hb; clear hi hb)
  all_goals
    go_wp2_with (go_at_call 85; refine calls_of_args (args' := #[.pointer (some ⟨g, 0, none⟩), .int .i64 (mx 1 (mn a2 12))]) (spec_MakePerm.args _ (by unfold mx mn; repeat' split; all_goals omega)) ?_; (with_reducible refine (spec_l02Shuffle.calls k g t1 t2 t3 (mx 1 (mn a2 12)) b1 b2 b3 w _ HI.out HB.out A2.out).mono ?_); rintro e w8 ⟨v, rfl, ho, hi, hb, hk⟩; have HO := Aside0.mk (Kd.R_lower ho HB.out.size); clear HI HB; have HB := Aside0.mk hb; clear ho hi hb hk)
    go_ret
    exact ⟨_, rfl, HO.out, HB.out⟩
end Go.Proofs.Ytlobampnikhmnaa.F
end
section
/- Laid by a program of this claim's own. What the Go function does, as a Lean function, and the proof that the Go code does just that; Lean checks it. -/
namespace Go.Proofs.Ytlobampnikhmnaa.F
open Go.RowKit Go.Proofs.YtlobampnikhmnaaW.PrintWords Go.Proofs.YtlobampnikhmnaaW.PrintLast Go.Proofs.YtlobampnikhmnaaW.PrintMore
attribute [local go_sem] max2_int min2_int max_two min_two max_three min_three max_four min_four   -- for this text's walks alone
set_option linter.unusedVariables false
set_option linter.unusedSimpArgs false
/-! ### spec_MakePiles: function 32 -/
def spec_MakePiles.f (k : Nat) (l0 : List Int) : Option (Int × Int) := (spec_l01New.f k l0).bind fun c => (spec_l01Below.f c.1 c.2.1 c.2.2 3).bind fun b => (spec_l01Below.f c.1 b.2.1 b.2.2 (12 / (2 + b.1))).bind fun d => if 0 ≤ b.1 ∧ b.1 ≤ 2 ∧ 0 ≤ d.1 ∧ d.1 ≤ 6 then some ((2 + b.1) * (1 + d.1), 2 + b.1) else none
set_option maxHeartbeats 8000000 in
set_option maxRecDepth 100000 in
theorem spec_MakePiles.calls (k : Nat) (A0 : Option Addr) (c0 : Nat) (l0 : List Int) (r1 : Int) (r2 : Int) (w : World) (hr0 : Kd.C (Kd.int .u8) w A0 l0.length l0) (hc0 : l0.length ≤ c0) (h : spec_MakePiles.f k l0 = some (r1, r2)) :
    Calls Try.prog 32 #[.slice A0 l0.length c0] w fun e w' => e = .returned (.tuple #[.int .i64 r1, .int .i64 r2]) ∧ Below w.heap.size w w' := by
  obtain ⟨⟨t1, t2, t3⟩, h1, h⟩ := Option.bind_eq_some_iff.mp h
  obtain ⟨⟨b1, b2, b3⟩, h2, h⟩ := Option.bind_eq_some_iff.mp h
  obtain ⟨⟨d1, d2, d3⟩, h3, h⟩ := Option.bind_eq_some_iff.mp h
  simp only at h1 h2 h3 h
  split at h
  · rename_i hc
    obtain ⟨rfl, rfl⟩ : ((2 + b1) * (1 + d1), 2 + b1) = (r1, r2) := Option.some.inj h
    obtain ⟨q1, q2, q3, q4⟩ := hc
    have HR0 := Aside0.mk hr0
    have HC0 := Aside0.mk hc0
    have HB := Aside0.mk (Below.refl w.heap.size w)
    have A1 := Aside0.mk h1
    clear hr0 hc0 h h1
    rcases (show b1 = 0 ∨ b1 = 1 ∨ b1 = 2 by omega) with rfl | rfl | rfl
    · have A2 := Aside0.mk h2
      have A3 := Aside0.mk (show spec_l01Below.f t1 b2 b3 6 = some (d1, d2, d3) from h3)
      clear h2 h3
      go_enter Try.func32, Try.ntmps32
      go_wp2_with (go_at_call 93; (with_reducible refine (spec_l01New.calls k A0 c0 l0 t1 t2 t3 w _ HB.out HR0.out HC0.out A1.out).mono ?_); rintro e w7 ⟨g, rfl, hi, hb⟩; have HI := Aside0.mk hi; have HB2 := Aside0.mk hb.1; clear hi hb)
      go_wp2_with (go_at_call 94; (with_reducible refine (spec_l01Below.calls g t1 t2 t3 3 0 b2 b3 w _ HI.out HB2.out A2.out).mono ?_); rintro e w8 ⟨rfl, hi, hb, hk⟩; have HI2 := Aside0.mk hi; have HB3 := Aside0.mk hb; clear hi hb hk)
      go_wp2_with (go_at_call 94; (with_reducible refine (spec_l01Below.calls g t1 b2 b3 6 d1 d2 d3 w _ HI2.out HB3.out A3.out).mono ?_); rintro e w9 ⟨rfl, hi, hb, hk⟩; have HB4 := Aside0.mk hb; clear hi hb hk)
      go_ret2
      exact ⟨by first | rfl | (simp <;> omega), HB4.out⟩
    · have A2 := Aside0.mk h2
      have A3 := Aside0.mk (show spec_l01Below.f t1 b2 b3 4 = some (d1, d2, d3) from h3)
      clear h2 h3
      go_enter Try.func32, Try.ntmps32
      go_wp2_with (go_at_call 93; (with_reducible refine (spec_l01New.calls k A0 c0 l0 t1 t2 t3 w _ HB.out HR0.out HC0.out A1.out).mono ?_); rintro e w7 ⟨g, rfl, hi, hb⟩; have HI := Aside0.mk hi; have HB2 := Aside0.mk hb.1; clear hi hb)
      go_wp2_with (go_at_call 94; (with_reducible refine (spec_l01Below.calls g t1 t2 t3 3 1 b2 b3 w _ HI.out HB2.out A2.out).mono ?_); rintro e w8 ⟨rfl, hi, hb, hk⟩; have HI2 := Aside0.mk hi; have HB3 := Aside0.mk hb; clear hi hb hk)
      go_wp2_with (go_at_call 94; (with_reducible refine (spec_l01Below.calls g t1 b2 b3 4 d1 d2 d3 w _ HI2.out HB3.out A3.out).mono ?_); rintro e w9 ⟨rfl, hi, hb, hk⟩; have HB4 := Aside0.mk hb; clear hi hb hk)
      go_ret2
      exact ⟨by first | rfl | (simp <;> omega), HB4.out⟩
    · have A2 := Aside0.mk h2
      have A3 := Aside0.mk (show spec_l01Below.f t1 b2 b3 3 = some (d1, d2, d3) from h3)
      clear h2 h3
      go_enter Try.func32, Try.ntmps32
      go_wp2_with (go_at_call 93; (with_reducible refine (spec_l01New.calls k A0 c0 l0 t1 t2 t3 w _ HB.out HR0.out HC0.out A1.out).mono ?_); rintro e w7 ⟨g, rfl, hi, hb⟩; have HI := Aside0.mk hi; have HB2 := Aside0.mk hb.1; clear hi hb)
      go_wp2_with (go_at_call 94; (with_reducible refine (spec_l01Below.calls g t1 t2 t3 3 2 b2 b3 w _ HI.out HB2.out A2.out).mono ?_); rintro e w8 ⟨rfl, hi, hb, hk⟩; have HI2 := Aside0.mk hi; have HB3 := Aside0.mk hb; clear hi hb hk)
      go_wp2_with (go_at_call 94; (with_reducible refine (spec_l01Below.calls g t1 b2 b3 3 d1 d2 d3 w _ HI2.out HB3.out A3.out).mono ?_); rintro e w9 ⟨rfl, hi, hb, hk⟩; have HB4 := Aside0.mk hb; clear hi hb hk)
      go_ret2
      exact ⟨by first | rfl | (simp <;> omega), HB4.out⟩
  · cases h
end Go.Proofs.Ytlobampnikhmnaa.F
end
section
/- Laid by a program of this claim's own. What the Go function does, as a Lean function, and the proof that the Go code does just that; Lean checks it. -/
namespace Go.Proofs.Ytlobampnikhmnaa.F
open Go.RowKit Go.Proofs.YtlobampnikhmnaaW.PrintWords Go.Proofs.YtlobampnikhmnaaW.PrintLast Go.Proofs.YtlobampnikhmnaaW.PrintMore
attribute [local go_sem] max2_int min2_int max_two min_two max_three min_three max_four min_four   -- for this text's walks alone
set_option linter.unusedVariables false
set_option linter.unusedSimpArgs false
/-! ### slices_ContainsFunc_Lint_int: function 100 -/
theorem idxFrom_any (p : Int → Bool) : ∀ (l : List Int) (i : Int), 0 ≤ i → (decide (idxFrom p l i ≥ 0) = l.any p) ∧ (decide (0 ≤ idxFrom p l i) = l.any p)
  | [], i, h => by simp [idxFrom]
  | x :: xs, i, h => by
    unfold idxFrom
    by_cases c : p x = true
    · simp [c, h]
    · simp only [c, if_false, List.any_cons, Bool.false_or]
      have := idxFrom_any p xs (i + 1) (by omega)
      simpa [c] using this
set_option maxHeartbeats 8000000 in
set_option maxRecDepth 100000 in
/-- The same where the function may make memory. -/
theorem slices_ContainsFunc_Lint_int.predB (p : Int → Bool) (g : Nat) (lb : Array Value) (eg : ∀ args w, (callFunc g args).run Try.prog w = .ok (.enter g args) w) (A0 : Option Addr) (c0 : Nat) (l0 : List Int) (w : World) (hr0 : Kd.C (Kd.int .i64) w A0 l0.length l0) (hc0 : l0.length ≤ c0)
    (hp : ∀ (W : World) (x : Int), Below w.heap.size w W → Calls Try.prog g (#[.int .i64 x] ++ lb) W fun e w' => e = .returned (.bool (p x)) ∧ Below W.heap.size W w') :
    Calls Try.prog 100 #[.slice A0 l0.length c0, .func (.func g) #[] lb] w fun e w' => e = .returned (.bool (l0.any p)) ∧ Below w.heap.size w w' := by
  obtain ⟨h1, h2⟩ := idxFrom_any p l0 0 (by omega)
  have HR0 := Aside0.mk hr0
  have HC0 := Aside0.mk hc0
  have HP := Aside0.mk hp
  clear hr0 hc0 hp
  rw [← h2]
  clear h1 h2
  go_enter Try.func100, Try.ntmps100
  go_wp2_with (go_at_call 141; (with_reducible refine (slices_IndexFunc_Lint_int.predB p g lb eg _ _ l0 _ ?side1 ?side2 ?side3).mono ?_); (case side1 => exact HR0.out); (case side2 => exact HC0.out); (case side3 => exact HP.out); rintro e w1 ⟨rfl, hb⟩; have HB := Aside0.mk hb; clear hb)
  go_ret
  exact ⟨rfl, HB.out⟩
end Go.Proofs.Ytlobampnikhmnaa.F
end
section
/- Laid by a program of this claim's own. What the Go function does, as a Lean function, and the proof that the Go code does just that; Lean checks it. -/
namespace Go.Proofs.Ytlobampnikhmnaa.F
open Go.RowKit Go.Proofs.YtlobampnikhmnaaW.PrintWords Go.Proofs.YtlobampnikhmnaaW.PrintLast Go.Proofs.YtlobampnikhmnaaW.PrintMore
attribute [local go_sem] max2_int min2_int max_two min_two max_three min_three max_four min_four   -- for this text's walks alone
set_option linter.unusedVariables false
set_option linter.unusedSimpArgs false
/-! ### impl_IsArrangement: function 36 -/
theorem impl_PositionOf.some_ (l : List Int) (x : Int) : ∃ c, impl_PositionOf.f l x = some c := by
  unfold impl_PositionOf.f
  repeat' split
  all_goals exact ⟨_, rfl⟩
/-- Does no element of q stand for the card of x? -/
def lacks (q : List Int) (x : Int) : Bool := ((impl_CardOf.f x).bind fun c => (impl_PositionOf.f q c).bind fun i => some (decide (i < 0))) == some true
set_option maxHeartbeats 8000000 in
set_option maxRecDepth 100000 in
theorem impl_IsArrangement.at_ (x : Int) (B : Nat) (A1 : Option Addr) (c1 : Nat) (l1 : List Int) (w : World) (hr1 : Kd.C (Kd.int .i64) w A1 l1.length l1) (hc1 : l1.length ≤ c1) (hc : w.cell? ⟨B, 0, none⟩ = some (.slice A1 l1.length c1)) :
    Calls Try.prog 101 (#[.int .i64 x] ++ #[.pointer (some ⟨B, 0, none⟩)]) w fun e w' => e = .returned (.bool (lacks l1 x)) ∧ Below w.heap.size w w' := by
  obtain ⟨c, hcc⟩ := impl_CardOf.some_ x
  obtain ⟨i, hi⟩ := impl_PositionOf.some_ l1 c
  have H := Aside0.mk hcc
  have HI := Aside0.mk hi
  have HR1 := Aside0.mk hr1
  have HC1 := Aside0.mk hc1
  rw [show lacks l1 x = decide (i < 0) by unfold lacks; rw [hcc]; show ((impl_PositionOf.f l1 c).bind _ == some true) = _; rw [hi]; show (some (decide (i < 0)) == some true) = _; cases decide (i < 0) <;> rfl]
  clear hcc hi hr1 hc1
  have HB := Aside0.mk (Below.refl w.heap.size w)
  show Calls Try.prog 101 #[.int .i64 x, .pointer (some ⟨B, 0, none⟩)] w _
  go_enter Try.func101, Try.ntmps101
  go_wp2
  go_region_with (first | (go_at_call 92; (with_reducible refine (impl_CardOf.calls x c _ H.out).mono ?_); rintro e w' ⟨rfl, ⟨nd, rfl⟩⟩) | (go_at_call 97; (with_reducible refine (impl_PositionOf.calls A1 c1 l1 c i _ ?side1 ?side2 HI.out).mono ?_); (case side1 => repeat (first | exact HR1.out | (with_reducible refine Kd.C_drewN ?_ _) | (with_reducible refine Kd.C_drew ?_))); (case side2 => exact HC1.out); rintro e w2 ⟨rfl, hb⟩; have HB2 := Aside0.mk hb; clear hb))
  all_goals
    go_wp2
    go_ret
    exact ⟨rfl, by first | exact HB2.out | exact (pw_below_drewN (Below.refl _ _) _).trans HB2.out | exact pw_below_drewN HB2.out _ | exact pw_below_drewN ((pw_below_drewN (Below.refl _ _) _).trans HB2.out) _⟩
def impl_IsArrangement.f (k : Nat) (l0 : List Int) (l1 : List Int) : Option (Bool) := (impl_PacketOk.f k l0).bind fun a => (if a = true then ((impl_PacketOk.f k l1).bind fun b => (if b = true then (if (l0.length : Int) = (l1.length : Int) then (some (!(l0.any (lacks l1)))) else (some false)) else (some false))) else (some false))
set_option maxHeartbeats 8000000 in
set_option maxRecDepth 100000 in
theorem impl_IsArrangement.calls (k : Nat) (A0 : Option Addr) (c0 : Nat) (l0 : List Int) (A1 : Option Addr) (c1 : Nat) (l1 : List Int) (r : Bool) (w : World) (hr0 : Kd.C (Kd.int .i64) w A0 l0.length l0) (hc0 : l0.length ≤ c0) (hr1 : Kd.C (Kd.int .i64) w A1 l1.length l1) (hc1 : l1.length ≤ c1) (h : impl_IsArrangement.f k l0 l1 = some r) :
    Calls Try.prog 36 #[.slice A0 l0.length c0, .slice A1 l1.length c1] w fun e w' => e = .returned (.bool r) ∧ Below w.heap.size w w' := by
  have HR0 := Aside0.mk hr0
  have HC0 := Aside0.mk hc0
  have HR1 := Aside0.mk hr1
  have HC1 := Aside0.mk hc1
  obtain ⟨wa, hwa⟩ : ∃ wa : World, wa = w.alloc (.cells #[.slice A1 l1.length c1] 24) := ⟨_, rfl⟩
  have HWA := Aside0.mk hwa
  have HBA := Aside0.mk (show Below w.heap.size w wa by rw [hwa]; exact below_alloc (Below.refl _ _) _)
  have HCELL := Aside0.mk (show wa.cell? ⟨w.heap.size, 0, none⟩ = some (.slice A1 l1.length c1) by rw [hwa]; exact (Whole.new w 24 #[.slice A1 l1.length c1]).cell 0)
  have HLT := Aside0.mk (show w.heap.size < wa.heap.size by rw [hwa]; simp)
  have HRA0 := Aside0.mk (show Kd.C (Kd.int .i64) wa A0 l0.length l0 by rw [hwa]; exact Kd.C_alloc hr0 _)
  have HRA1 := Aside0.mk (show Kd.C (Kd.int .i64) wa A1 l1.length l1 by rw [hwa]; exact Kd.C_alloc hr1 _)
  clear hr0 hc0 hr1 hc1 hwa
  unfold impl_IsArrangement.f at h
  obtain ⟨a, ha, h⟩ := Option.bind_eq_some_iff.mp h
  have HA := Aside0.mk ha
  clear ha
  cases a with
  | false =>
    have h1 : some false = some r := by rw [if_neg (by decide)] at h; exact h
    obtain rfl := Option.some.inj h1
    clear h h1
    go_enter Try.func36, Try.ntmps36
    go_wp2_with (go_at_call 86; rw [← HWA.out]; (with_reducible refine (impl_PacketOk.calls k A0 c0 l0 false _ HRA0.out HC0.out HA.out).mono ?_); rintro e w1 ⟨rfl, hb⟩; have HB1 := Aside0.mk (HBA.out.trans (hb.mono HBA.out.size)); have hc1_ := (hb.cell (p := ⟨w.heap.size, 0, none⟩) HLT.out).trans HCELL.out; clear hb)
    go_ret
    exact ⟨rfl, HB1.out⟩
  | true =>
    replace h := by rw [if_pos rfl] at h; exact h
    obtain ⟨b, hb, h⟩ := Option.bind_eq_some_iff.mp h
    have HB_ := Aside0.mk hb
    clear hb
    cases b with
    | false =>
      have h1 : some false = some r := by rw [if_neg (by decide)] at h; exact h
      obtain rfl := Option.some.inj h1
      clear h h1
      go_enter Try.func36, Try.ntmps36
      go_wp2_with (go_at_call 86; rw [← HWA.out]; (with_reducible refine (impl_PacketOk.calls k A0 c0 l0 true _ HRA0.out HC0.out HA.out).mono ?_); rintro e w1 ⟨rfl, hb⟩; have HB1 := Aside0.mk (HBA.out.trans (hb.mono HBA.out.size)); have HR11 := Aside0.mk (Kd.C_below HRA1.out hb); have hc1_ := (hb.cell (p := ⟨w.heap.size, 0, none⟩) HLT.out).trans HCELL.out; have HL1 := Aside0.mk (Nat.lt_of_lt_of_le HLT.out hb.size); clear hb HA)
      go_wp2_with (go_at_call 86; (with_reducible refine (impl_PacketOk.calls k A1 c1 l1 false _ HR11.out HC1.out HB_.out).mono ?_); rintro e w2 ⟨rfl, hb⟩; have HB2 := Aside0.mk (HB1.out.trans (hb.mono HB1.out.size)); have hc2_ := (hb.cell (p := ⟨w.heap.size, 0, none⟩) HL1.out).trans hc1_; clear hb)
      go_ret
      exact ⟨rfl, HB2.out⟩
    | true =>
      replace h := by rw [if_pos rfl] at h; exact h
      by_cases hl : (l0.length : Int) = (l1.length : Int)
      · rw [if_pos hl] at h
        obtain rfl := Option.some.inj h
        have hl1 : ((l0.length : Int) != (l1.length : Int)) = false := bne_eq_false_iff_eq.mpr hl
        have hl2 : (l0.length == l1.length) = true := beq_iff_eq.mpr (by omega)
        have hl3 : (l0.length != l1.length) = false := bne_eq_false_iff_eq.mpr (by omega)
        clear h hl
        go_enter Try.func36, Try.ntmps36
        go_wp2_with (go_at_call 86; rw [← HWA.out]; (with_reducible refine (impl_PacketOk.calls k A0 c0 l0 true _ HRA0.out HC0.out HA.out).mono ?_); rintro e w1 ⟨rfl, hb⟩; have HB1 := Aside0.mk (HBA.out.trans (hb.mono HBA.out.size)); have HR10 := Aside0.mk (Kd.C_below HRA0.out hb); have HR11 := Aside0.mk (Kd.C_below HRA1.out hb); have hc1_ := (hb.cell (p := ⟨w.heap.size, 0, none⟩) HLT.out).trans HCELL.out; have HL1 := Aside0.mk (Nat.lt_of_lt_of_le HLT.out hb.size); clear hb HA)
        go_wp2_with (go_at_call 86; (with_reducible refine (impl_PacketOk.calls k A1 c1 l1 true _ HR11.out HC1.out HB_.out).mono ?_); rintro e w2 ⟨rfl, hb⟩; have HB2 := Aside0.mk (HB1.out.trans (hb.mono HB1.out.size)); have HR20 := Aside0.mk (Kd.C_below HR10.out hb); have HR21 := Aside0.mk (Kd.C_below HR11.out hb); have hc2_ := (hb.cell (p := ⟨w.heap.size, 0, none⟩) HL1.out).trans hc1_; have HL2 := Aside0.mk (Nat.lt_of_lt_of_le HL1.out hb.size); have HC2 := Aside0.mk hc2_; clear hb HB_)
        go_wp2_with (go_at_call 100; (refine (slices_ContainsFunc_Lint_int.predB (lacks l1) 101 #[.pointer (some ⟨w.heap.size, 0, none⟩)] (enters_of Try.func101 (by kernel_rfl) rfl) A0 c0 l0 _ HR20.out HC0.out ?side1).mono ?_); (case side1 => exact fun W x hb => impl_IsArrangement.at_ x w.heap.size A1 c1 l1 W (Kd.C_below HR21.out hb) HC1.out ((hb.cell (p := ⟨w.heap.size, 0, none⟩) HL2.out).trans HC2.out)); rintro e w3 ⟨rfl, hb⟩; have HB3 := Aside0.mk (HB2.out.trans (hb.mono HB2.out.size)); clear hb)
        go_ret
        exact ⟨rfl, HB3.out⟩
      · rw [if_neg hl] at h
        obtain rfl := Option.some.inj h
        have hl1 : ((l0.length : Int) != (l1.length : Int)) = true := bne_iff_ne.mpr hl
        have hl2 : (l0.length == l1.length) = false := beq_eq_false_iff_ne.mpr (by omega)
        have hl3 : (l0.length != l1.length) = true := bne_iff_ne.mpr (by omega)
        clear h hl
        go_enter Try.func36, Try.ntmps36
        go_wp2_with (go_at_call 86; rw [← HWA.out]; (with_reducible refine (impl_PacketOk.calls k A0 c0 l0 true _ HRA0.out HC0.out HA.out).mono ?_); rintro e w1 ⟨rfl, hb⟩; have HB1 := Aside0.mk (HBA.out.trans (hb.mono HBA.out.size)); have HR11 := Aside0.mk (Kd.C_below HRA1.out hb); have hc1_ := (hb.cell (p := ⟨w.heap.size, 0, none⟩) HLT.out).trans HCELL.out; have HL1 := Aside0.mk (Nat.lt_of_lt_of_le HLT.out hb.size); clear hb HA)
        go_wp2_with (go_at_call 86; (with_reducible refine (impl_PacketOk.calls k A1 c1 l1 true _ HR11.out HC1.out HB_.out).mono ?_); rintro e w2 ⟨rfl, hb⟩; have HB2 := Aside0.mk (HB1.out.trans (hb.mono HB1.out.size)); have hc2_ := (hb.cell (p := ⟨w.heap.size, 0, none⟩) HL1.out).trans hc1_; clear hb HB_)
        go_ret
        exact ⟨rfl, HB2.out⟩
end Go.Proofs.Ytlobampnikhmnaa.F
end
section
/- Laid by a program of this claim's own. What the Go function does, as a Lean function, and the proof that the Go code does just that; Lean checks it. -/
namespace Go.Proofs.Ytlobampnikhmnaa.F
open Go.RowKit Go.Proofs.YtlobampnikhmnaaW.PrintWords Go.Proofs.YtlobampnikhmnaaW.PrintLast Go.Proofs.YtlobampnikhmnaaW.PrintMore
attribute [local go_sem] max2_int min2_int max_two min_two max_three min_three max_four min_four   -- for this text's walks alone
set_option linter.unusedVariables false
set_option linter.unusedSimpArgs false
/-! ### laws_same: function 38 -/
def laws_same.l0 : Nat → List Int → List Int → Int → Int → Option (Bool)
  | 0, _, _, _, _ => none
  | k + 1, x1, x12, x13, x14 => if x14 < x13 then (if 0 ≤ x14 then (if x14 < (x12.length : Int) then (if x14 < (x1.length : Int) then (if (rd x12 x14) = (rd x1 x14) then (laws_same.l0 k x1 x12 x13 (wrap64 (x14 + 1))) else (some false)) else (none)) else (none)) else (none)) else (some true)
def laws_same.f (k : Nat) (l0 : List Int) (l1 : List Int) : Option (Bool) := if (l0.length : Int) = (l1.length : Int) then (laws_same.l0 k l1 l0 (l0.length : Int) 0) else (some false)
set_option maxHeartbeats 8000000 in
set_option maxRecDepth 100000 in
theorem laws_same.calls (k : Nat) (A0 : Option Addr) (c0 : Nat) (l0 : List Int) (A1 : Option Addr) (c1 : Nat) (l1 : List Int) (r : Bool) (w : World) (hr0 : Kd.C (Kd.int .i64) w A0 l0.length l0) (hc0 : l0.length ≤ c0) (hr1 : Kd.C (Kd.int .i64) w A1 l1.length l1) (hc1 : l1.length ≤ c1) (h : laws_same.f k l0 l1 = some r) :
    Calls Try.prog 38 #[.slice A0 l0.length c0, .slice A1 l1.length c1] w fun e w' => e = .returned (.bool r) ∧ Drawn0 w w' := by
  have HR0 := Aside0.mk hr0
  have HC0 := Aside0.mk hc0
  clear hr0 hc0
  have HR1 := Aside0.mk hr1
  have HC1 := Aside0.mk hc1
  clear hr1 hc1
  have H : (if (l0.length : Int) = (l1.length : Int) then (laws_same.l0 k l1 l0 (l0.length : Int) 0) else (some false)) = some r := h
  clear h
  by_cases c3 : (l0.length : Int) = (l1.length : Int)
  · rw [if_pos c3] at H
    have c3b0 : ((l0.length : Int) == (l1.length : Int)) = true := beq_iff_eq.mpr c3
    have c3b1 : ((l0.length : Int) != (l1.length : Int)) = false := bne_eq_false_iff_eq.mpr c3
    have c3b2 : (l0.length == l1.length) = true := by first | simpa using c3 | (simp at c3 ⊢; omega)
    clear c3
    have H' := Aside0.mk H
    clear H
    go_enter Try.func38, Try.ntmps38
    go_wp2
    go_loopg [14] k (fun kq v14 w' => ∃ (x14_1 : Int), v14 = .int .i64 x14_1 ∧ Aside0 (laws_same.l0 kq l1 l0 (l0.length : Int) x14_1 = some r) ∧ Aside0 (kq ≤ k) ∧ Drawn0 w w')
    case atStart => exact ⟨(0), (by first | rfl | (simp; done) | (simp [*]; done)), H', ⟨Nat.le_refl _⟩, by repeat (first | exact Drawn0.refl _ | apply Drawn0.step)⟩
    case round =>
      clear H'
      try clear c1
      try clear p2
      try clear c3
      try clear c3b0
      try clear c3b1
      try clear c3b2
      obtain ⟨x14_1, rfl, HA, HK1, ⟨m1, rfl⟩⟩ := hrel
      cases gk with
      | zero => exact absurd HA.out (by simp [laws_same.l0])
      | succ k1 =>
        have H := HA.out
        clear HA
        simp only [laws_same.l0] at H
        by_cases c4 : x14_1 < (l0.length : Int)
        · rw [if_pos c4] at H
          have c4b0 : decide (x14_1 < (l0.length : Int)) = true := decide_eq_true c4
          clear c4
          by_cases c5 : 0 ≤ x14_1
          · rw [if_pos c5] at H
            have c5b0 : decide (0 ≤ x14_1) = true := decide_eq_true c5
            clear c5
            by_cases c6 : x14_1 < (l0.length : Int)
            · rw [if_pos c6] at H
              have c6b0 : decide (x14_1 < (l0.length : Int)) = true := decide_eq_true c6
              clear c6
              by_cases c7 : x14_1 < (l1.length : Int)
              · rw [if_pos c7] at H
                have c7b0 : decide (x14_1 < (l1.length : Int)) = true := decide_eq_true c7
                clear c7
                by_cases c8 : (rd l0 x14_1) = (rd l1 x14_1)
                · rw [if_pos c8] at H
                  have c8b0 : ((rd l0 x14_1) == (rd l1 x14_1)) = true := beq_iff_eq.mpr c8
                  have c8b1 : ((rd l0 x14_1) != (rd l1 x14_1)) = false := bne_eq_false_iff_eq.mpr c8
                  clear c8
                  have H' := Aside0.mk H
                  clear H
                  have p626 : 0 ≤ (x14_1 : Int) := of_decide_eq_true (by first | (with_reducible assumption) | assumption)
                  have q626 : x14_1 < (l0.length : Int) := of_decide_eq_true (by first | (with_reducible assumption) | assumption)
                  obtain ⟨ad626, e626, hx626_0⟩ := Kd.at_int HR0.out x14_1 p626 q626
                  cases e626
                  replace p626 := eq_true p626
                  replace q626 := eq_true q626
                  have p627 : 0 ≤ (x14_1 : Int) := of_decide_eq_true (by first | (with_reducible assumption) | assumption)
                  have q627 : x14_1 < (l1.length : Int) := of_decide_eq_true (by first | (with_reducible assumption) | assumption)
                  obtain ⟨ad627, e627, hx627_0⟩ := Kd.at_int HR1.out x14_1 p627 q627
                  cases e627
                  replace p627 := eq_true p627
                  replace q627 := eq_true q627
                  go_wp2
                  go_roundg k1
                  case measure => have := HK1.out; omega
                  case rel => exact ⟨(wrap64 (x14_1 + 1)), (by first | rfl | (simp; done) | (simp [*]; done)), H', ⟨by have := HK1.out; omega⟩, by repeat (first | exact Drawn0.refl _ | apply Drawn0.step)⟩
                · rw [if_neg c8] at H
                  have c8b0 : ((rd l0 x14_1) == (rd l1 x14_1)) = false := beq_eq_false_iff_ne.mpr c8
                  have c8b1 : ((rd l0 x14_1) != (rd l1 x14_1)) = true := bne_iff_ne.mpr c8
                  obtain rfl := Option.some.inj H
                  have p626 : 0 ≤ (x14_1 : Int) := of_decide_eq_true (by first | (with_reducible assumption) | assumption)
                  have q626 : x14_1 < (l0.length : Int) := of_decide_eq_true (by first | (with_reducible assumption) | assumption)
                  obtain ⟨ad626, e626, hx626_0⟩ := Kd.at_int HR0.out x14_1 p626 q626
                  cases e626
                  replace p626 := eq_true p626
                  replace q626 := eq_true q626
                  have p627 : 0 ≤ (x14_1 : Int) := of_decide_eq_true (by first | (with_reducible assumption) | assumption)
                  have q627 : x14_1 < (l1.length : Int) := of_decide_eq_true (by first | (with_reducible assumption) | assumption)
                  obtain ⟨ad627, e627, hx627_0⟩ := Kd.at_int HR1.out x14_1 p627 q627
                  cases e627
                  replace p627 := eq_true p627
                  replace q627 := eq_true q627
                  go_wp2
                  go_ret
                  exact ⟨by first | rfl | (simp; done) | (simp [*]; done), by repeat (first | exact Drawn0.refl _ | apply Drawn0.step)⟩
              · rw [if_neg c7] at H
                exact absurd H (by simp)
            · rw [if_neg c6] at H
              exact absurd H (by simp)
          · rw [if_neg c5] at H
            exact absurd H (by simp)
        · rw [if_neg c4] at H
          have c4b0 : decide (x14_1 < (l0.length : Int)) = false := decide_eq_false c4
          clear c4
          obtain rfl := Option.some.inj H
          go_wp2
          go_ret
          exact ⟨by first | rfl | (simp; done) | (simp [*]; done), by repeat (first | exact Drawn0.refl _ | apply Drawn0.step)⟩
  · rw [if_neg c3] at H
    have c3b0 : ((l0.length : Int) == (l1.length : Int)) = false := beq_eq_false_iff_ne.mpr c3
    have c3b1 : ((l0.length : Int) != (l1.length : Int)) = true := bne_iff_ne.mpr c3
    have c3b2 : (l0.length == l1.length) = false := by first | simpa using c3 | (simp at c3 ⊢; omega)
    obtain rfl := Option.some.inj H
    go_enter Try.func38, Try.ntmps38
    go_wp2
    go_ret
    exact ⟨by first | rfl | (simp; done) | (simp [*]; done), by repeat (first | exact Drawn0.refl _ | apply Drawn0.step)⟩
end Go.Proofs.Ytlobampnikhmnaa.F
end
