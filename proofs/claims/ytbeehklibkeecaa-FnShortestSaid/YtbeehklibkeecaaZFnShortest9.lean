import Derived.Test.YtbeehklibkeecaaZFnShortest4
import Derived.Test.YtbeehklibkeecaaZFnShortest8
import Derived.Test.YtbeehklibkeecaaZFnShortest5
section
/- Laid by a program of this claim's own. What the Go function does, as a Lean function, and the proof that the Go code does just that; Lean checks it. -/
namespace Go.Proofs.Ytbeehklibkeecaa.F
open Go.RowKit Go.Proofs.YtbeehklibkeecaaW.PrintWords Go.Proofs.YtbeehklibkeecaaW.PrintLast Go.Proofs.YtbeehklibkeecaaW.PrintMore
attribute [local go_sem] max2_int min2_int max_two min_two max_three min_three max_four min_four   -- for this text's walks alone
set_option linter.unusedVariables false
set_option linter.unusedSimpArgs false
/-! ### slices_Compare_Lint_int: function 72 -/
def slices_Compare_Lint_int.l0 : Nat → List Int → List Int → List Int → Int → Int → Option (Int)
  | 0, _, _, _, _, _ => none
  | k + 1, x0, x1, x9, x10, x11 => if x11 < x10 then (if 0 ≤ x11 then (if x11 < (x9.length : Int) then (if x11 ≥ (x1.length : Int) then (some 1) else (if x11 < (x1.length : Int) then ((cmp_Compare_int.f (rd x9 x11) (rd x1 x11)).bind fun t763 => (if t763 = 0 then (slices_Compare_Lint_int.l0 k x0 x1 x9 x10 (wrap64 (x11 + 1))) else (some t763))) else (none))) else (none)) else (none)) else (if (x0.length : Int) < (x1.length : Int) then (some (-1)) else (some 0))
def slices_Compare_Lint_int.f (k : Nat) (l0 : List Int) (l1 : List Int) : Option (Int) := slices_Compare_Lint_int.l0 k l0 l1 l0 (l0.length : Int) 0
theorem slices_Compare_Lint_int.mono_l : ∀ k, (∀ y0 y1 y2 y3 y4, LeO (slices_Compare_Lint_int.l0 k y0 y1 y2 y3 y4) (slices_Compare_Lint_int.l0 (k + 1) y0 y1 y2 y3 y4))
  | 0 => fun _ _ _ _ _ r h => by simp [slices_Compare_Lint_int.l0] at h
  | k + 1 => by
    have ih0 := slices_Compare_Lint_int.mono_l k
    · intro y0 y1 y2 y3 y4
      unfold slices_Compare_Lint_int.l0
      repeat' first
      | (with_reducible exact ih0 _ _ _ _ _)
      | (with_reducible exact LeO.refl _)
      | (with_reducible exact LeO.none _)
      | (with_reducible refine LeO.ite ?_ ?_)
      | (with_reducible refine LeO.bind ?_ (fun _ => ?_))
      | exact ih0 _ _ _ _ _
      | exact LeO.none _
      | refine LeO.ite ?_ ?_
      | refine LeO.bind ?_ (fun _ => ?_)
theorem slices_Compare_Lint_int.mono : ∀ a0 a1 k, LeO (slices_Compare_Lint_int.f k a0 a1) (slices_Compare_Lint_int.f (k + 1) a0 a1) := by
  intro a0 a1 k
  have ih0 := slices_Compare_Lint_int.mono_l k
  unfold slices_Compare_Lint_int.f
  repeat' first
      | (with_reducible exact ih0 _ _ _ _ _)
      | (with_reducible exact LeO.refl _)
      | (with_reducible exact LeO.none _)
      | (with_reducible refine LeO.ite ?_ ?_)
      | (with_reducible refine LeO.bind ?_ (fun _ => ?_))
      | exact ih0 _ _ _ _ _
      | exact LeO.none _
      | refine LeO.ite ?_ ?_
      | refine LeO.bind ?_ (fun _ => ?_)
set_option maxHeartbeats 8000000 in
set_option maxRecDepth 100000 in
theorem slices_Compare_Lint_int.calls (k : Nat) (A0 : Option Addr) (c0 : Nat) (l0 : List Int) (A1 : Option Addr) (c1 : Nat) (l1 : List Int) (r : Int) (w : World) (hr0 : Kd.C (Kd.int .i64) w A0 l0.length l0) (hc0 : l0.length ≤ c0) (hr1 : Kd.C (Kd.int .i64) w A1 l1.length l1) (hc1 : l1.length ≤ c1) (h : slices_Compare_Lint_int.f k l0 l1 = some r) :
    Calls Try.prog 72 #[.slice A0 l0.length c0, .slice A1 l1.length c1] w fun e w' => e = .returned (.int .i64 r) ∧ Drawn0 w w' := by
  have HR0 := Aside0.mk hr0
  have HC0 := Aside0.mk hc0
  clear hr0 hc0
  have HR1 := Aside0.mk hr1
  have HC1 := Aside0.mk hc1
  clear hr1 hc1
  have H : (slices_Compare_Lint_int.l0 k l0 l1 l0 (l0.length : Int) 0) = some r := h
  clear h
  have H' := Aside0.mk H
  clear H
  go_enter Try.func72, Try.ntmps72
  go_wp2
  go_loopg [11] k (fun kq v11 w' => ∃ (x11_1 : Int), v11 = .int .i64 x11_1 ∧ Aside0 (slices_Compare_Lint_int.l0 kq l0 l1 l0 (l0.length : Int) x11_1 = some r) ∧ Aside0 (kq ≤ k) ∧ Drawn0 w w')
  case atStart => exact ⟨(0), (by first | rfl | (simp; done) | (simp [*]; done)), H', ⟨Nat.le_refl _⟩, by repeat (first | exact Drawn0.refl _ | apply Drawn0.step)⟩
  case round =>
    clear H'
    try clear c1
    try clear p2
    obtain ⟨x11_1, rfl, HA, HK1, ⟨m1, rfl⟩⟩ := hrel
    cases gk with
    | zero => exact absurd HA.out (by simp [slices_Compare_Lint_int.l0])
    | succ k1 =>
      have H := HA.out
      clear HA
      simp only [slices_Compare_Lint_int.l0] at H
      by_cases c3 : x11_1 < (l0.length : Int)
      · rw [if_pos c3] at H
        have c3b0 : decide (x11_1 < (l0.length : Int)) = true := decide_eq_true c3
        clear c3
        by_cases c4 : 0 ≤ x11_1
        · rw [if_pos c4] at H
          have c4b0 : decide (0 ≤ x11_1) = true := decide_eq_true c4
          clear c4
          by_cases c5 : x11_1 < (l0.length : Int)
          · rw [if_pos c5] at H
            have c5b0 : decide (x11_1 < (l0.length : Int)) = true := decide_eq_true c5
            clear c5
            by_cases c6 : x11_1 ≥ (l1.length : Int)
            · rw [if_pos c6] at H
              have c6b0 : decide ((l1.length : Int) ≤ x11_1) = true := decide_eq_true c6
              clear c6
              obtain rfl := Option.some.inj H
              have p761 : 0 ≤ (x11_1 : Int) := of_decide_eq_true (by first | (with_reducible assumption) | assumption)
              have q761 : x11_1 < (l0.length : Int) := of_decide_eq_true (by first | (with_reducible assumption) | assumption)
              obtain ⟨ad761, e761, hx761_0⟩ := Kd.at_int HR0.out x11_1 p761 q761
              cases e761
              replace p761 := eq_true p761
              replace q761 := eq_true q761
              go_wp2
              go_ret
              exact ⟨by first | rfl | (simp; done) | (simp [*]; done), by repeat (first | exact Drawn0.refl _ | apply Drawn0.step)⟩
            · rw [if_neg c6] at H
              have c6b0 : decide ((l1.length : Int) ≤ x11_1) = false := decide_eq_false c6
              clear c6
              by_cases c7 : x11_1 < (l1.length : Int)
              · rw [if_pos c7] at H
                have c7b0 : decide (x11_1 < (l1.length : Int)) = true := decide_eq_true c7
                clear c7
                replace H := Option.bind_eq_some_iff.mp H
                obtain ⟨t763, A80, H⟩ := H
                replace H : (if t763 = 0 then (slices_Compare_Lint_int.l0 k1 l0 l1 l0 (l0.length : Int) (wrap64 (x11_1 + 1))) else (some t763)) = some r := H
                have A8 := Aside0.mk A80
                clear A80
                by_cases c9 : t763 = 0
                · rw [if_pos c9] at H
                  have c9b0 : (t763 == 0) = true := beq_iff_eq.mpr c9
                  have c9b1 : (t763 != 0) = false := bne_eq_false_iff_eq.mpr c9
                  clear c9
                  have H' := Aside0.mk H
                  clear H
                  have p761 : 0 ≤ (x11_1 : Int) := of_decide_eq_true (by first | (with_reducible assumption) | assumption)
                  have q761 : x11_1 < (l0.length : Int) := of_decide_eq_true (by first | (with_reducible assumption) | assumption)
                  obtain ⟨ad761, e761, hx761_0⟩ := Kd.at_int HR0.out x11_1 p761 q761
                  cases e761
                  replace p761 := eq_true p761
                  replace q761 := eq_true q761
                  have p762 : 0 ≤ (x11_1 : Int) := of_decide_eq_true (by first | (with_reducible assumption) | assumption)
                  have q762 : x11_1 < (l1.length : Int) := of_decide_eq_true (by first | (with_reducible assumption) | assumption)
                  obtain ⟨ad762, e762, hx762_0⟩ := Kd.at_int HR1.out x11_1 p762 q762
                  cases e762
                  replace p762 := eq_true p762
                  replace q762 := eq_true q762
                  go_wp2_with (first | ((with_reducible refine gate_callee (f := 101) rfl ?_); refine goesL_ (some 26) rfl rfl Try.func101 (by kernel_rfl) rfl #[.int .i64 (rd l0 x11_1), .int .i64 (rd l1 x11_1)] rfl (by (try simp only [List.map_toArray, List.map_cons, List.map_nil]); first | done | rfl | (simp only [List.length_drop, List.length_take]; rfl)) ?_; (with_reducible refine (cmp_Compare_int.calls (rd l0 x11_1) (rd l1 x11_1) t763 _ A8.out).mono ?_); rintro e w' ⟨rfl, ⟨nd, rfl⟩⟩; refine ⟨_, rfl, ?_⟩))
                  go_roundg k1
                  case measure => have := HK1.out; omega
                  case rel => exact ⟨(wrap64 (x11_1 + 1)), (by first | rfl | (simp; done) | (simp [*]; done)), H', ⟨by have := HK1.out; omega⟩, by repeat (first | exact Drawn0.refl _ | apply Drawn0.step)⟩
                · rw [if_neg c9] at H
                  have c9b0 : (t763 == 0) = false := beq_eq_false_iff_ne.mpr c9
                  have c9b1 : (t763 != 0) = true := bne_iff_ne.mpr c9
                  obtain rfl := Option.some.inj H
                  have p761 : 0 ≤ (x11_1 : Int) := of_decide_eq_true (by first | (with_reducible assumption) | assumption)
                  have q761 : x11_1 < (l0.length : Int) := of_decide_eq_true (by first | (with_reducible assumption) | assumption)
                  obtain ⟨ad761, e761, hx761_0⟩ := Kd.at_int HR0.out x11_1 p761 q761
                  cases e761
                  replace p761 := eq_true p761
                  replace q761 := eq_true q761
                  have p762 : 0 ≤ (x11_1 : Int) := of_decide_eq_true (by first | (with_reducible assumption) | assumption)
                  have q762 : x11_1 < (l1.length : Int) := of_decide_eq_true (by first | (with_reducible assumption) | assumption)
                  obtain ⟨ad762, e762, hx762_0⟩ := Kd.at_int HR1.out x11_1 p762 q762
                  cases e762
                  replace p762 := eq_true p762
                  replace q762 := eq_true q762
                  go_wp2_with (first | ((with_reducible refine gate_callee (f := 101) rfl ?_); refine goesL_ (some 26) rfl rfl Try.func101 (by kernel_rfl) rfl #[.int .i64 (rd l0 x11_1), .int .i64 (rd l1 x11_1)] rfl (by (try simp only [List.map_toArray, List.map_cons, List.map_nil]); first | done | rfl | (simp only [List.length_drop, List.length_take]; rfl)) ?_; (with_reducible refine (cmp_Compare_int.calls (rd l0 x11_1) (rd l1 x11_1) t763 _ A8.out).mono ?_); rintro e w' ⟨rfl, ⟨nd, rfl⟩⟩; refine ⟨_, rfl, ?_⟩))
                  go_ret
                  exact ⟨by first | rfl | (simp; done) | (simp [*]; done), by repeat (first | exact Drawn0.refl _ | apply Drawn0.step)⟩
              · rw [if_neg c7] at H
                exact absurd H (by simp)
          · rw [if_neg c5] at H
            exact absurd H (by simp)
        · rw [if_neg c4] at H
          exact absurd H (by simp)
      · rw [if_neg c3] at H
        have c3b0 : decide (x11_1 < (l0.length : Int)) = false := decide_eq_false c3
        clear c3
        by_cases c10 : (l0.length : Int) < (l1.length : Int)
        · rw [if_pos c10] at H
          have c10b0 : decide ((l0.length : Int) < (l1.length : Int)) = true := decide_eq_true c10
          have c10b1 : decide (l0.length < l1.length) = true := decide_eq_true (Int.ofNat_lt.mp c10)
          clear c10
          obtain rfl := Option.some.inj H
          go_wp2
          go_ret
          exact ⟨by first | rfl | (simp; done) | (simp [*]; done), by repeat (first | exact Drawn0.refl _ | apply Drawn0.step)⟩
        · rw [if_neg c10] at H
          have c10b0 : decide ((l0.length : Int) < (l1.length : Int)) = false := decide_eq_false c10
          have c10b1 : decide (l0.length < l1.length) = false := decide_eq_false (fun h => c10 (Int.ofNat_lt.mpr h))
          clear c10
          obtain rfl := Option.some.inj H
          go_wp2
          go_ret
          exact ⟨by first | rfl | (simp; done) | (simp [*]; done), by repeat (first | exact Drawn0.refl _ | apply Drawn0.step)⟩
end Go.Proofs.Ytbeehklibkeecaa.F
end
section
/- Laid by a program of this claim's own. What the Go function does, as a Lean function, and the proof that the Go code does just that; Lean checks it. -/
namespace Go.Proofs.Ytbeehklibkeecaa.F
open Go.RowKit Go.Proofs.YtbeehklibkeecaaW.PrintWords Go.Proofs.YtbeehklibkeecaaW.PrintLast Go.Proofs.YtbeehklibkeecaaW.PrintMore
attribute [local go_sem] max2_int min2_int max_two min_two max_three min_three max_four min_four   -- for this text's walks alone
set_option linter.unusedVariables false
set_option linter.unusedSimpArgs false
/-! ### impl_FaroGroup: function 33 -/
-- HOME impl_GatherPiles
-- HOME impl_shortest
/-- Where a list is to be put into an ascending row of lists: the program's search, step by step. -/
def bsL (k : Nat) (xs : List (List Int)) (a : List Int) : Nat → Nat → Nat → Option Nat
  | 0, _, _ => none
  | m + 1, i, j => if i < j then ((slices_Compare_Lint_int.f k (xs.getD ((i + j) / 2) []) a).bind fun c => if c < 0 then bsL k xs a m ((i + j) / 2 + 1) j else bsL k xs a m i ((i + j) / 2)) else some i
def bsF (k : Nat) (xs : List (List Int)) (a : List Int) : Option (Nat × Bool) := (bsL k xs a k 0 xs.length).bind fun i => if i < xs.length then ((slices_Compare_Lint_int.f k (xs.getD i []) a).bind fun c => some (i, c == 0)) else some (i, false)
set_option maxHeartbeats 16000000 in
set_option maxRecDepth 100000 in
theorem bs_calls (k : Nat) (ad : Option Addr) (n c : Nat) (xs : List (List Int)) (a : List Int) (A : Option Addr) (ca : Nat) (w : World) (hn : xs.length = n) (hn2 : n ≤ 4096) (hc : n ≤ c)
    (hcell : ∀ h, h < n → ∃ ad0 Ah ch, ad = some ad0 ∧ w.cell? (ad0.add h) = some (.slice Ah (xs.getD h []).length ch) ∧ (xs.getD h []).length ≤ ch ∧ Kd.C (Kd.int .i64) w Ah (xs.getD h []).length (xs.getD h []))
    (hA : Kd.C (Kd.int .i64) w A a.length a) (hca : a.length ≤ ca) (i0 : Nat) (b : Bool) (h : bsF k xs a = some (i0, b)) :
    Calls Try.prog 71 #[.slice ad n c, .slice A a.length ca, .func (.func 72) #[] #[]] w fun e w' => e = .returned (.tuple #[.int .i64 i0, .bool b]) ∧ Below w.heap.size w w' := by
  have eg : ∀ args w, (callFunc 72 args).run Try.prog w = .ok (.enter 72 args) w := enters_of (P := Try.prog) Try.func72 (by kernel_rfl) rfl
  obtain ⟨i1, h1, h2⟩ := Option.bind_eq_some_iff.mp h
  have HN := Aside0.mk hn
  have HN2 := Aside0.mk hn2
  have HCELL := Aside0.mk hcell
  have HA := Aside0.mk hA
  have HCA := Aside0.mk hca
  rw [hn] at h1 h2
  have H1 := Aside0.mk h1
  have H2 := Aside0.mk h2
  clear h h1 h2 hn hn2 hcell hA hca
  go_enter Try.func71, Try.ntmps71
  go_wp2
  go_loopg [9, 10] k (fun kq v9 v10 w' => ∃ i j : Nat, v9 = .int .i64 i ∧ v10 = .int .i64 j ∧ Aside0 (bsL k xs a kq i j = some i1) ∧ Aside0 (kq ≤ k) ∧ Aside0 (j ≤ n) ∧ Aside0 (Below w.heap.size w w'))
  case atStart => exact ⟨0, n, rfl, rfl, H1, ⟨Nat.le_refl _⟩, ⟨Nat.le_refl _⟩, ⟨Below.refl _ _⟩⟩
  case round =>
    clear H1
    obtain ⟨i, j, rfl, rfl, HL, HK, HJ, HB⟩ := hrel
    cases gk with
    | zero => exact absurd HL.out (by simp [bsL])
    | succ k2 =>
      have H := HL.out
      clear HL
      simp only [bsL] at H
      by_cases c1 : i < j
      · rw [if_pos c1] at H
        obtain ⟨q, hq, H⟩ := Option.bind_eq_some_iff.mp H
        obtain ⟨m, hm⟩ : ∃ m, m = (i + j) / 2 := ⟨_, rfl⟩
        rw [← hm] at hq H
        have hmn : m < n := by have := HJ.out; omega
        obtain ⟨ad0, Ah, ch, rfl, hx, hle, hC⟩ := HCELL.out m hmn
        have c1b : decide ((i : Int) < (j : Int)) = true := decide_eq_true (by omega)
        have c1c : decide (i < j) = true := decide_eq_true c1
        have hb63 : i + j ≤ 100000 := by have := HJ.out; have := HN2.out; omega
        have e1 : IntKind.i64.wrap ((i : Int) + (j : Int)) = (i : Int) + (j : Int) := by rw [IntKind.wrap_i64]; omega
        have e3 : ((i : Int) + (j : Int)) / 2 = (m : Int) := by omega
        have HQ := Aside0.mk hq
        have HCH := Aside0.mk hC
        have HLE := Aside0.mk hle
        have HX := Aside0.mk hx
        have hx2 : wr.cell? (ad0.add m) = some (.slice Ah (xs.getD m []).length ch) := pw_cell_below HB.out hx
        have hml : decide ((m : Int) < (n : Int)) = true := decide_eq_true (by omega)
        have C1 := Aside0.mk c1
        have HMN := Aside0.mk hmn
        have HM := Aside0.mk hm
        have H' := Aside0.mk H
        generalize xs.getD m [] = y at hx2 HQ HCH HLE HX
        clear hq hm hx hle hC c1 H
        replace hmn := eq_true hmn
        by_cases c2 : q < 0
        · have H3 := Aside0.mk (by have h9 := H'.out; rw [if_pos c2] at h9; exact h9)
          have c2b : decide (q < 0) = true := decide_eq_true c2
          clear c2
          go_wp2_with (go_at_fn 72; refine (slices_Compare_Lint_int.calls k Ah ch y A ca a q _ (Kd.C_below HCH.out HB.out) HLE.out (Kd.C_below HA.out HB.out) HCA.out HQ.out).mono ?_; rintro e w2 ⟨rfl, hd⟩; have HB2 := Aside0.mk (below_step HB.out hd.below); clear hd hx2)
          go_roundg k2
          case measure => have := HK.out; omega
          case rel => exact ⟨m + 1, j, by go_num, rfl, H3, ⟨by have := HK.out; omega⟩, HJ, HB2⟩
        · have H3 := Aside0.mk (by have h9 := H'.out; rw [if_neg c2] at h9; exact h9)
          have c2b : decide (q < 0) = false := decide_eq_false c2
          clear c2
          go_wp2_with (go_at_fn 72; refine (slices_Compare_Lint_int.calls k Ah ch y A ca a q _ (Kd.C_below HCH.out HB.out) HLE.out (Kd.C_below HA.out HB.out) HCA.out HQ.out).mono ?_; rintro e w2 ⟨rfl, hd⟩; have HB2 := Aside0.mk (below_step HB.out hd.below); clear hd hx2)
          go_roundg k2
          case measure => have := HK.out; omega
          case rel => exact ⟨i, m, rfl, by go_num, H3, ⟨by have := HK.out; omega⟩, ⟨by have := HMN.out; omega⟩, HB2⟩
      · rw [if_neg c1] at H
        obtain rfl := Option.some.inj H
        have c1b : decide ((i : Int) < (j : Int)) = false := decide_eq_false (by omega)
        have c1c : decide (i < j) = false := decide_eq_false c1
        clear c1 H
        by_cases c3 : i < n
        · have h9 := H2.out
          rw [if_pos c3] at h9
          obtain ⟨q, hq, h9⟩ := Option.bind_eq_some_iff.mp h9
          simp only [Option.some.injEq, Prod.mk.injEq] at h9
          obtain ⟨rfl, rfl⟩ := h9
          obtain ⟨ad0, Ah, ch, rfl, hx, hle, hC⟩ := HCELL.out i c3
          have HQ := Aside0.mk hq
          have HCH := Aside0.mk hC
          have HLE := Aside0.mk hle
          have hx2 : wr.cell? (ad0.add i) = some (.slice Ah (xs.getD i []).length ch) := pw_cell_below HB.out hx
          have c3b : decide ((i : Int) < (n : Int)) = true := decide_eq_true (by omega)
          have c3c : decide (i < n) = true := decide_eq_true c3
          generalize xs.getD i [] = y at hx2 HQ HCH HLE
          clear hq hx hle hC
          replace c3 := eq_true c3
          go_wp2_with (go_at_fn 72; refine (slices_Compare_Lint_int.calls k Ah ch y A ca a q _ (Kd.C_below HCH.out HB.out) HLE.out (Kd.C_below HA.out HB.out) HCA.out HQ.out).mono ?_; rintro e w2 ⟨rfl, hd⟩; have HB2 := Aside0.mk (below_step HB.out hd.below); clear hd hx2)
          go_ret2
          exact ⟨rfl, HB2.out⟩
        · have h9 := H2.out
          rw [if_neg c3] at h9
          simp only [Option.some.injEq, Prod.mk.injEq] at h9
          obtain ⟨rfl, rfl⟩ := h9
          have c3b : decide ((i : Int) < (n : Int)) = false := decide_eq_false (by omega)
          have c3c : decide (i < n) = false := decide_eq_false c3
          clear c3
          go_wp2
          go_ret2
          exact ⟨rfl, HB.out⟩
/-- append(v, make([]T, m)...) where there is no room: one-cell elements. -/
theorem run_zeros_grow {P : Program} (w : World) (t ti ty e : TypeId) (i : TypeInfo) (z : Value) (ht : P.underlying t = some (.slice e)) {k : IntKind} (hti : P.underlying ti = some (.int k)) (hi : P.info? e = some i) (hz : i.zero = some z) (hs : i.size = 1) (hby : i.bytes = 24) (hzs : z.cells.size = 1)
    (A : Addr) (n cap : Nat) (xs : List Value) (hl : xs.length = n) (hc : ∀ j u, xs[j]? = some u → w.cell? (A.add j) = some u) (kx : IntKind) (m : Nat) (hm : 0 < m) (hg : cap < n + m) (hb : n + m ≤ 100000) :
    (Builtin.append_ #[t, ti] ty #[.slice (some A) n cap, .int kx m]).run P w = .ok (.slice (some ⟨w.heap.size, 0, none⟩) (n + m) (grownCap w (n + m) cap e))
      (w.drew.alloc (.cells (xs.toArray ++ Builtin.zeroCells z.cells m ++ Builtin.zeroCells z.cells (grownCap w (n + m) cap e - (n + m))) e)) := by
  have hw : IntKind.i64.wrap (m : Int) = m := by rw [IntKind.wrap_i64]; omega
  have hneg : ¬ ((m : Int) < 0) := by omega
  have hbig : ¬ (281474976710656 < (m : Int) * (24 : Int)) := by omega
  have hn : ¬ (n + m ≤ cap) := by omega
  have h63 : ¬ (9223372036854775807 < ((n : Int) + (m : Int))) := by omega
  have hfit := growslice_fits (bytes := 24) hg (by omega)
  have h48 : ¬ (281474976710656 < Builtin.nextslicecap (n + m) cap * 24) := by omega
  have hm0 : ¬ (m = 0) := by omega
  have hfo := run_firstCells_some (P := P) w.drew i.size n A n cap xs (by rw [hs, hl, Nat.mul_one]) (by simpa using hc)
  rw [hs] at hfo
  simp [Builtin.append_, run_underlying ht, run_underlying hti, sizeOf, typeInfo, zeroValue, hi, hz, hs, hby, asInt, asIntOf, hw, hneg, hbig, hn, h63, h48, Question.forced, hfo, newRow, grownCap, hm0]
theorem zeros_size (z : Array Value) (n : Nat) : (Builtin.zeroCells z n).size = n * z.size := by simp [Builtin.zeroCells]
set_option maxHeartbeats 8000000 in
set_option maxRecDepth 100000 in
/-- slices.Insert within a full row: a new row. -/
theorem insert_grow_heads (b n i vb : Nat) (cs : List Value) (x : Value) (w : World) (hi : i < n) (hn : n ≤ 4096) (hvb : vb ≠ b) (hbw : b < w.heap.size) (hvw : vb < w.heap.size)
    (hcl : cs.length = n) (hcs : ∀ j v, cs[j]? = some v → w.cell? ⟨b, j, none⟩ = some v)
    (hvs : w.cell? ⟨vb, 0, none⟩ = some x) (h1c : ∀ v ∈ cs, v.oneCell' = true) (h1v : x.oneCell' = true) :
    Calls Try.prog 73 #[.slice (some ⟨b, 0, none⟩) n n, .int .i64 i, .slice (some ⟨vb, 0, none⟩) 1 1] w fun e w' =>
      ∃ G cur, e = .returned (.slice (some ⟨w.heap.size, 0, none⟩) (n + 1) G) ∧ w'.heap[w.heap.size]? = some (.cells cur 24 (0, 0)) ∧ n + 1 ≤ G ∧ G ≤ maxLen ∧ cur.size = G ∧ cur.toList.take (n + 1) = cs.take i ++ [x] ++ cs.drop i ∧ w.grownBy w' none := by
  have hinfo : (Try.prog.info? 24).map (fun i => (i.zero, i.size, i.bytes)) = some (some (Value.slice none 0 0), 1, 24) := by kernel_rfl
  have hsz : (Try.prog.info? 24).map (·.size) = some 1 := by kernel_rfl
  obtain ⟨i0, hi0, hz0, hs0, hb0⟩ := info_parts hinfo
  have hnn : (n : Int) ≠ 0 := by omega
  have hne2 : ¬ ((i : Int) = (n : Int)) := by omega
  have hw2 : IntKind.i64.wrap ((n : Int) + 1) = (n : Int) + 1 := by rw [IntKind.wrap_i64]; omega
  have hw3 : IntKind.i64.wrap ((n : Int) + 1 - (i : Int)) = ((n + 1 - i : Nat) : Int) := by rw [IntKind.wrap_i64]; omega
  have hw4 : IntKind.i64.wrap ((i : Int) + 1) = (i : Int) + 1 := by rw [IntKind.wrap_i64]; omega
  have hgt : ((n : Int) + 1 > (n : Int)) := by omega
  have hil : i ≤ n := by omega
  obtain ⟨G, hG⟩ : ∃ G, G = grownCap w (i + (n + 1 - i)) n 24 := ⟨_, rfl⟩
  have hGn : n + 1 ≤ G := by have := grownCap_ge w (i + (n + 1 - i)) n 24; omega
  have hGm : G ≤ maxLen := by rw [hG]; exact grownCap_le_maxLen _ _ _ _ (by unfold maxLen; omega)
  have hrun0 : ∀ ty, (Builtin.append_ #[44, 3] ty #[.slice (some ⟨b, 0, none⟩) i n, .int .i64 ((n + 1 - i : Nat) : Int)]).run Try.prog w = _ := fun ty => run_zeros_grow (P := Try.prog) w 44 3 ty 24 i0 (Value.slice none 0 0) Try.underlying44 Try.underlying3 hi0 hz0 hs0 hb0 rfl ⟨b, 0, none⟩ i n (cs.take i) (by rw [List.length_take]; omega)
    (fun j u hj => by rw [Addr.add_lit, Nat.zero_add]; rw [List.getElem?_take] at hj; split at hj; exact hcs j u hj; cases hj) .i64 (n + 1 - i) (by omega) (by omega) (by omega)
  rw [← hG] at hrun0
  obtain ⟨C0, hC0⟩ : ∃ C0 : Array Value, C0 = (cs.take i).toArray ++ Builtin.zeroCells (Value.slice none 0 0).cells (n + 1 - i) ++ Builtin.zeroCells (Value.slice none 0 0).cells (G - (i + (n + 1 - i))) := ⟨_, rfl⟩
  rw [← hC0, show i + (n + 1 - i) = n + 1 by omega] at hrun0
  have hCs : C0.size = G := by
    rw [hC0]
    simp only [Array.size_append, List.size_toArray, zeros_size, List.length_take, hcl]
    rw [show (Value.slice none 0 0).cells.size = 1 from rfl]
    omega
  have hCt : C0.toList.take i = cs.take i := by
    rw [hC0]
    simp only [Array.toList_append, List.append_assoc]
    exact List.take_left' (by rw [List.length_take]; omega)
  obtain ⟨W1, hW1⟩ : ∃ W1, W1 = w.drew.alloc (.cells C0 24) := ⟨_, rfl⟩
  rw [← hW1] at hrun0
  have hg1 : w.grownBy W1 none := by rw [hW1]; exact ⟨rfl, rfl, rfl, by simp, fun k hk _ => by first | exact heap_alloc_old w.drew _ k hk | exact heap_alloc_old w.drew _ hk⟩
  have hh1 : W1.heap[w.heap.size]? = some (.cells C0 24 (0, 0)) := by rw [hW1]; exact heap_alloc_new w.drew _
  have hc1 : ∀ j, W1.cell? ⟨w.heap.size, j, none⟩ = C0[j]? := fun j => cell_of_row W1 _ j C0 24 (0, 0) hh1
  have hsp : ∀ j, j < n + 1 → (W1.cell? ⟨w.heap.size, j, none⟩).isSome = true := fun j hj => by rw [hc1, Array.getElem?_eq_getElem (by omega)]; rfl
  have hfz : ∀ j, W1.frozen? ⟨w.heap.size, j, none⟩ = false := frozen_of hh1
  have hcp1 : ∀ ty dc, (Builtin.copy_ #[44, 44] ty #[.slice (some ⟨w.heap.size, i, none⟩) (n + 1 - i) dc, .slice (some ⟨vb, 0, none⟩) 1 1]).run Try.prog W1 = .ok (goInt [x].length) (W1.setCells w.heap.size i [x]) := fun ty dc =>
    run_copy_cells W1 _ _ ty 24 w.heap.size i (n + 1 - i) dc ⟨vb, 0, none⟩ 1 1 [x] Try.underlying44 hsz (by simp only [List.length_singleton, Nat.min_def]; split <;> omega)
      (fun j v hj => by
        rw [Addr.add_lit]
        cases j with
        | zero => injection hj with hj; subst hj; exact (World.cell?_of_block (a := ⟨vb, 0, none⟩) (hg1.block vb hvw (by simp))).trans hvs
        | succ j => simp at hj)
      (fun j hj => by refine hsp _ ?_; have h0 : j < 1 := hj; omega) (fun j hj => hfz _) (fun v hv => by rw [List.mem_singleton.1 hv]; exact h1v)
  obtain ⟨W2, hW2⟩ : ∃ W2, W2 = W1.setCells w.heap.size i [x] := ⟨_, rfl⟩
  rw [← hW2] at hcp1
  obtain ⟨cur1, a1, a2, a3⟩ := setCells_row (g := w.heap.size) (e := 24) [x] i W1 C0 hh1 (by simp; omega)
  rw [← hW2] at a1
  have hg2 : w.grownBy W2 none := by
    obtain ⟨d1, d2, d3, d4⟩ := setCells_same w.heap.size [x] i W1
    rw [hW2]
    exact ⟨d1.trans hg1.os, d2.trans hg1.tape, d3.trans hg1.output, by rw [d4]; exact hg1.size, fun k hk _ => (setCells_far _ _ k (by omega)).trans (hg1.block k hk (by simp))⟩
  have hdl : (cs.drop i).length = n - i := by rw [List.length_drop, hcl]
  have hc2 : ∀ j, W2.cell? ⟨w.heap.size, j, none⟩ = cur1[j]? := fun j => cell_of_row W2 _ j cur1 24 (0, 0) a1
  have hcp2 : ∀ ty dc sc, (Builtin.copy_ #[44, 44] ty #[.slice (some ⟨w.heap.size, i + 1, none⟩) (n - i) dc, .slice (some ⟨b, i, none⟩) (n - i) sc]).run Try.prog W2.drew = .ok (goInt (cs.drop i).length) (W2.drew.setCells w.heap.size (i + 1) (cs.drop i)) := fun ty dc sc =>
    run_copy_cells W2.drew _ _ ty 24 w.heap.size (i + 1) (n - i) dc ⟨b, i, none⟩ (n - i) sc (cs.drop i) Try.underlying44 hsz (by rw [hdl]; simp only [Nat.min_def]; split <;> omega)
      (fun j v hj => by rw [Addr.add_lit]; exact (World.cell?_of_block (w := w) (w' := W2.drew) (a := ⟨b, i + j, none⟩) (hg2.block b hbw (by simp))).trans (hcs (i + j) v (by rwa [List.getElem?_drop] at hj)))
      (fun j hj => by show (W2.cell? _).isSome = true; rw [hc2, Array.getElem?_eq_getElem (by rw [hdl] at hj; omega)]; rfl) (fun j hj => frozen_of a1 _) (fun v hv => h1c v (List.mem_of_mem_drop hv))
  obtain ⟨cur2, b1, b2, b3⟩ := setCells_row (g := w.heap.size) (e := 24) (cs.drop i) (i + 1) W2.drew cur1 a1 (by rw [hdl]; omega)
  obtain ⟨W3, hW3⟩ : ∃ W3, W3 = W2.drew.setCells w.heap.size (i + 1) (cs.drop i) := ⟨_, rfl⟩
  rw [← hW3] at hcp2 b1
  have hg3 : w.grownBy W3 none := by
    obtain ⟨d1, d2, d3, d4⟩ := setCells_same w.heap.size (cs.drop i) (i + 1) W2.drew
    rw [hW3]
    exact ⟨d1.trans hg2.os, d2.trans hg2.tape, d3.trans hg2.output, by rw [d4]; exact hg2.size, fun k hk _ => (setCells_far _ _ k (by omega)).trans (hg2.block k hk (by simp))⟩
  have hfin : cur2.toList.take (n + 1) = cs.take i ++ [x] ++ cs.drop i := by
    have hC0l : C0.toList.length = G := by rw [Array.length_toList]; exact hCs
    have e1 : cur1.toList.take (i + 1) = cs.take i ++ [x] := by
      rw [a3, hCt]
      exact List.take_left' (by simp [hcl]; omega)
    rw [b3, e1]
    exact List.take_left' (by simp [hcl]; omega)
  have HFIN := Aside0.mk hfin
  have HG3 := Aside0.mk hg3
  have HB1 := Aside0.mk b1
  have HCS := Aside0.mk (b2.trans (a2.trans hCs))
  have HRUN := Aside0.mk hrun0
  have HCP1 := Aside0.mk hcp1
  have HCP2 := Aside0.mk hcp2
  obtain ⟨nb, hnb⟩ : ∃ nb, nb = w.heap.size := ⟨_, rfl⟩
  have q1 : ¬ (n = 0) := by omega
  have q2 : ¬ (n = i) := by omega
  have q3 : ¬ (G = i) := by omega
  have q4 : ¬ (G = i + 1) := by omega
  have q5 : ((i : Int) + 1).toNat = i + 1 := by omega
  have q6 : (0 : Int) ≤ (i : Int) + 1 := by omega
  have q7 : (i : Int) + 1 ≤ (n : Int) + 1 := by omega
  have q8 : (i : Int) ≤ (n : Int) + 1 := by omega
  have q9 : n + 1 - (i + 1) = n - i := by omega
  have HGN := Aside0.mk hGn
  have HGM := Aside0.mk hGm
  clear hfin hg3 b1 b2 b3 a1 a2 a3 hrun0 hcp1 hcp2 hW1 hW2 hW3 hC0 hCs hCt hg1 hg2 hh1 hc1 hc2 hsp hfz hG hGn hGm hdl hcs hvs h1c h1v hi0 hz0 hs0 hb0 hinfo hsz hnb
  go_enter Try.func73, Try.ntmps73
  go_upto_region 10 with (at_builtin; refine Lib.wpList_append_run _ rfl (.tmp 34) (.tmp 39) 44 3 rfl _ _ rfl rfl _ _ (HRUN.out _) ?_)
  go_wp2_with (refine wpList_copy_runJ _ rfl (.tmp 43) (.tmp 44) 44 44 rfl _ _ rfl rfl (HCP1.out _ _) ?_)
  have hcp2' := HCP2.out
  go_region
  go_wp2
  go_ret
  exact ⟨G, cur2, rfl, HB1.out, HGN.out, HGM.out, HCS.out, HFIN.out, HG3.out⟩
set_option maxHeartbeats 8000000 in
set_option maxRecDepth 100000 in
/-- slices.Insert at the end. -/
theorem insert_end_own (A : Option Addr) (n cap vb : Nat) (hs : List Value) (x : Value) (w : World) (base : Nat) (hA : A = none → n = 0 ∧ cap = 0) (hown : w.ownsRow base 24 1 (.slice A n cap) n hs) (hle : n ≤ cap) (hl : n < 4000) (hx : x.oneCell' = true) (ho : HOne w vb x) (hbase : base ≤ w.heap.size) :
    Calls Try.prog 73 #[.slice A n cap, .int .i64 n, .slice (some ⟨vb, 0, none⟩) 1 1] w fun e w' => ∃ v', e = .returned v' ∧ w'.ownsRow base 24 1 v' (n + 1) (hs ++ [x]) ∧ w.grownBy w' (Value.slice A n cap).ownBlock ∧ (v'.ownBlock = (Value.slice A n cap).ownBlock ∨ ∃ g, v'.ownBlock = some g ∧ w.heap.size ≤ g) := by
  have hinfo : (Try.prog.info? 24).map (fun i => (i.zero, i.size, i.bytes)) = some (some (Value.slice none 0 0), 1, 24) := by kernel_rfl
  obtain ⟨i0, hi0, hz0, hs0, hb0⟩ := info_parts hinfo
  have HI := Aside0.mk hi0
  have HZ := Aside0.mk hz0
  have HS := Aside0.mk hs0
  have HBY := Aside0.mk hb0
  have HO := Aside0.mk hown
  have HL := Aside0.mk hl
  have HX := Aside0.mk hx
  have HBA := Aside0.mk hbase
  have HNEW := Aside0.mk (show ∀ j u, ([x] : List Value)[j]? = some u → w.cell? ((⟨vb, 0, none⟩ : Addr).add j) = some u from fun j u hj => by
    rw [Addr.add_lit, cell_of_row w vb _ _ 24 (0, 0) ho]
    cases j with
    | zero => simpa using hj
    | succ j => simp at hj)
  by_cases hc : cap = n
  · subst hc
    clear hinfo hi0 hz0 hs0 hb0 hown hl hx ho hbase hle
    cases A with
    | none =>
      obtain ⟨rfl, _⟩ := hA rfl
      clear hA
      go_enter Try.func73, Try.ntmps73
      go_wp2_with (at_builtin; refine wpList_append_own_at _ rfl (.tmp 23) (.tmp 24) 44 rfl base 24 i0 (.slice none 0 0) 1 24 Try.underlying44 HI.out HZ.out HS.out HBY.out rfl (by decide) _ 0 hs rfl HO.out ⟨vb, 0, none⟩ 1 1 [x] rfl rfl HNEW.out (fun u hu => by rw [List.mem_singleton.1 hu]; exact HX.out) (by unfold maxLen; omega) (by omega) HBA.out ?_; intro v' w' ho2 hg2 hn2 hat2; have HO2 := Aside0.mk ho2; have HG2 := Aside0.mk hg2; have HAT2 := Aside0.mk hat2; clear ho2 hg2 hn2 hat2)
      go_ret
      exact ⟨_, rfl, HO2.out, HG2.out, HAT2.out.imp id (fun h => ⟨_, h, Nat.le_refl _⟩)⟩
    | some ad =>
      clear hA
      go_enter Try.func73, Try.ntmps73
      go_wp2_with (at_builtin; refine wpList_append_own_at _ rfl (.tmp 23) (.tmp 24) 44 rfl base 24 i0 (.slice none 0 0) 1 24 Try.underlying44 HI.out HZ.out HS.out HBY.out rfl (by decide) _ cap hs rfl HO.out ⟨vb, 0, none⟩ 1 1 [x] rfl rfl HNEW.out (fun u hu => by rw [List.mem_singleton.1 hu]; exact HX.out) (by have h9 := HL.out; unfold maxLen; omega) (by have h9 := HL.out; omega) HBA.out ?_; intro v' w' ho2 hg2 hn2 hat2; have HO2 := Aside0.mk ho2; have HG2 := Aside0.mk hg2; have HAT2 := Aside0.mk hat2; clear ho2 hg2 hn2 hat2)
      go_ret
      exact ⟨_, rfl, HO2.out, HG2.out, HAT2.out.imp id (fun h => ⟨_, h, Nat.le_refl _⟩)⟩
  · cases A with
    | none => exact absurd (hA rfl) (by omega)
    | some ad =>
      clear hinfo hi0 hz0 hs0 hb0 hown hl hx ho hbase hA
      go_enter Try.func73, Try.ntmps73
      go_wp2_with (at_builtin; refine wpList_append_own_at _ rfl (.tmp 23) (.tmp 24) 44 rfl base 24 i0 (.slice none 0 0) 1 24 Try.underlying44 HI.out HZ.out HS.out HBY.out rfl (by decide) _ n hs rfl HO.out ⟨vb, 0, none⟩ 1 1 [x] rfl rfl HNEW.out (fun u hu => by rw [List.mem_singleton.1 hu]; exact HX.out) (by have h9 := HL.out; unfold maxLen; omega) (by have h9 := HL.out; omega) HBA.out ?_; intro v' w' ho2 hg2 hn2 hat2; have HO2 := Aside0.mk ho2; have HG2 := Aside0.mk hg2; have HAT2 := Aside0.mk hat2; clear ho2 hg2 hn2 hat2)
      go_ret
      exact ⟨_, rfl, HO2.out, HG2.out, HAT2.out.imp id (fun h => ⟨_, h, Nat.le_refl _⟩)⟩
/-- slices.Insert of one element, wherever there is room or not. -/
theorem insert_any (hs : List Value) (i vb : Nat) (x : Value) (w : World) (base : Nat) (v : Value) (hv : w.ownsRow base 24 1 v hs.length hs) (hi : i ≤ hs.length) (hl : hs.length < 4000) (h1 : ∀ u ∈ hs, u.oneCell' = true) (hx : x.oneCell' = true) (ho : HOne w vb x) (hvb : v.ownBlock ≠ some vb) (hbase : base ≤ w.heap.size) :
    Calls Try.prog 73 #[v, .int .i64 i, .slice (some ⟨vb, 0, none⟩) 1 1] w fun e w' => ∃ v', e = .returned v' ∧ w'.ownsRow base 24 1 v' (hs.length + 1) (hs.take i ++ [x] ++ hs.drop i) ∧ w.grownBy w' v.ownBlock ∧ (v'.ownBlock = v.ownBlock ∨ ∃ g, v'.ownBlock = some g ∧ w.heap.size ≤ g) := by
  have hv0 := hv
  rcases hv.2 with ⟨rfl, h0⟩ | ⟨g, cap, cur, rfl, hbg, hh, hnc, hcm, hsz, ht⟩
  · obtain rfl : hs = [] := List.eq_nil_of_length_eq_zero h0
    obtain rfl : i = 0 := by simpa using hi
    have h := insert_end_own none 0 0 vb [] x w base (fun _ => ⟨rfl, rfl⟩) hv0 (Nat.le_refl _) (by omega) hx ho hbase
    simpa using h
  · rw [Nat.mul_one] at hsz ht
    by_cases hin : i = hs.length
    · subst hin
      have h := insert_end_own (some ⟨g, 0, none⟩) hs.length cap vb hs x w base (fun e => by cases e) hv0 hnc hl hx ho hbase
      simpa using h
    · have hne : vb ≠ g := fun e => hvb (by rw [e]; rfl)
      have hlt : i < hs.length := by omega
      have hc : ∀ j, w.cell? ⟨g, j, none⟩ = cur[j]? := fun j => cell_of_row w g j cur 24 (0, 0) hh
      have hbx : w.cell? ⟨vb, 0, none⟩ = some x := by rw [cell_of_row w vb 0 _ 24 (0, 0) ho]; rfl
      have hcs : ∀ j u, hs[j]? = some u → w.cell? ⟨g, j, none⟩ = some u := fun j u hj => by
        have hjl : j < hs.length := (List.getElem?_eq_some_iff.1 hj).1
        rw [hc, ← hj, ← Array.getElem?_toList]
        conv => rhs; rw [← ht]
        rw [List.getElem?_take, if_pos hjl]
      by_cases hroom : hs.length + 1 ≤ cap
      · have h2 := insert_shift_heads g hs.length cap i vb hs x w hlt hroom hcm hne rfl hcs (fun j hj => by rw [hc, Array.getElem?_eq_getElem (by omega)]; rfl) (frozen_of hh) hbx h1 hx 24 24 1 cur.size (shape_of ho) (shape_of hh) (by omega) (frozen_of ho 0) (frozen_of ho 1)
        refine Calls.mono (P := Try.prog) h2 ?_
        rintro e W' ⟨rfl, rfl⟩
        obtain ⟨cur1, a1, a2, a3⟩ := setCells_row (g := g) (e := 24) (hs.drop i) (i + 1) w.drew cur hh (by rw [List.length_drop]; omega)
        obtain ⟨cur2, b1, b2, b3⟩ := setCells_row (g := g) (e := 24) [x] i _ cur1 a1 (by simp; omega)
        refine ⟨_, rfl, ⟨by simp; omega, .inr ⟨g, cap, cur2, rfl, hbg, b1, hroom, hcm, by omega, ?_⟩⟩, ?_, .inl rfl⟩
        · rw [Nat.mul_one, b3, a3]
          exact ins_list cur.toList hs (hs.length + 1) i x (by have h9 : cur.toList.length = cur.size := Array.length_toList; omega) (by simpa using ht) (by omega) _ rfl
        · obtain ⟨c1, c2, c3, c4⟩ := setCells_same g [x] i (w.drew.setCells g (i + 1) (hs.drop i))
          obtain ⟨d1, d2, d3, d4⟩ := setCells_same g (hs.drop i) (i + 1) w.drew
          exact ⟨c1.trans d1, c2.trans d2, c3.trans d3, by rw [c4, d4]; exact Nat.le_refl _, fun k hk hne2 => (setCells_far _ _ k (fun e => hne2 (by rw [e]; rfl))).trans (setCells_far _ _ k (fun e => hne2 (by rw [e]; rfl)))⟩
      · obtain rfl : cap = hs.length := by omega
        have h2 := insert_grow_heads g hs.length i vb hs x w hlt (by omega) hne (Array.getElem?_eq_some_iff.1 hh).1 (Array.getElem?_eq_some_iff.1 ho).1 rfl hcs hbx h1 hx
        refine Calls.mono (P := Try.prog) h2 ?_
        rintro e W' ⟨G, cur2, rfl, b1, q1, q2, q3, q4, q5⟩
        exact ⟨_, rfl, ⟨by simp; omega, .inr ⟨w.heap.size, G, cur2, rfl, hbase, b1, q1, q2, by rw [Nat.mul_one]; exact q3, by rw [Nat.mul_one]; exact q4⟩⟩, ⟨q5.os, q5.tape, q5.output, q5.size, fun k hk _ => q5.block k hk (by simp)⟩, .inr ⟨_, rfl, Nat.le_refl _⟩⟩
/-- Headers and the lists that they lead to. -/
def HdV (w : World) (base : Nat) : List Value → List (List Int) → Prop
  | [], [] => True
  | h :: hs, x :: xs => Kd.R (Kd.int .i64) 3 w base (fun _ => True) h x ∧ HdV w base hs xs
  | _, _ => False
/-- A row of numbers stays as it is while a row of headers is written. -/
theorem R_apart {w w' : World} {base : Nat} {ok : Nat → Prop} {v : Value} {xs : List Int} {row : Option Nat} (h : Kd.R (Kd.int .i64) 3 w base ok v xs) (hg : w.grownBy w' row) (hrow : ∀ g, row = some g → ∃ cur, w.heap[g]? = some (.cells cur 24 (0, 0))) : Kd.R (Kd.int .i64) 3 w' base ok v xs := by
  refine Kd.R_mono (Kd.R_step (Kd.R_bound h) (fun k ho hlt => hg.block k hlt (fun e => ?_))) (fun _ hk => hk.1)
  obtain ⟨cur, hc⟩ := hrow k e.symm
  obtain ⟨_, _, _, q, hq, cells, h2⟩ := ho
  rw [hc] at h2
  injection h2 with h2
  injection h2 with _ h3
  subst h3
  revert hq
  decide
theorem HdV.len {w : World} {base : Nat} : ∀ {hs : List Value} {xs : List (List Int)}, HdV w base hs xs → hs.length = xs.length
  | [], [], _ => rfl
  | _ :: hs, _ :: xs, h => by rw [List.length_cons, List.length_cons, HdV.len h.2]
  | [], _ :: _, h => h.elim
  | _ :: _, [], h => h.elim
theorem HdV.one {w : World} {base : Nat} : ∀ {hs : List Value} {xs : List (List Int)}, HdV w base hs xs → ∀ u ∈ hs, u.oneCell' = true
  | [], [], _, u, hu => absurd hu (by simp)
  | h0 :: hs, _ :: xs, h, u, hu => by
    rcases List.mem_cons.1 hu with rfl | hu
    · obtain ⟨A, c, rfl⟩ := Kd.R_slice h.1
      rfl
    · exact HdV.one h.2 u hu
  | [], _ :: _, h, _, _ => h.elim
  | _ :: _, [], h, _, _ => h.elim
theorem HdV.apart {w w' : World} {base : Nat} {row : Option Nat} (hg : w.grownBy w' row) (hrow : ∀ g, row = some g → ∃ cur, w.heap[g]? = some (.cells cur 24 (0, 0))) : ∀ {hs : List Value} {xs : List (List Int)}, HdV w base hs xs → HdV w' base hs xs
  | [], [], _ => trivial
  | _ :: hs, _ :: xs, h => ⟨R_apart h.1 hg hrow, HdV.apart hg hrow h.2⟩
  | [], _ :: _, h => h.elim
  | _ :: _, [], h => h.elim
theorem HdV.below {w w' : World} {base : Nat} (hb : Below w.heap.size w w') {hs : List Value} {xs : List (List Int)} (h : HdV w base hs xs) : HdV w' base hs xs := HdV.apart (grown_of_below hb none) (by simp) h
theorem HdV.get {w : World} {base : Nat} : ∀ {hs : List Value} {xs : List (List Int)}, HdV w base hs xs → ∀ j, j < xs.length → ∃ A c, hs[j]? = some (.slice A (xs.getD j []).length c) ∧ Kd.R (Kd.int .i64) 3 w base (fun _ => True) (.slice A (xs.getD j []).length c) (xs.getD j [])
  | [], [], _, j, hj => absurd hj (by simp)
  | h0 :: hs, x :: xs, h, j, hj => by
    cases j with
    | zero =>
      obtain ⟨A, c, rfl⟩ := Kd.R_slice h.1
      exact ⟨A, c, rfl, h.1⟩
    | succ j =>
      obtain ⟨A, c, h1, h2⟩ := HdV.get h.2 j (by simp at hj; omega)
      exact ⟨A, c, h1, h2⟩
  | [], _ :: _, h, _, _ => h.elim
  | _ :: _, [], h, _, _ => h.elim
theorem HdV.app {w : World} {base : Nat} : ∀ {hs : List Value} {xs : List (List Int)} {hs2 : List Value} {xs2 : List (List Int)}, HdV w base hs xs → HdV w base hs2 xs2 → HdV w base (hs ++ hs2) (xs ++ xs2)
  | [], [], _, _, _, h2 => h2
  | _ :: hs, _ :: xs, _, _, h, h2 => ⟨h.1, HdV.app h.2 h2⟩
  | [], _ :: _, _, _, h, _ => h.elim
  | _ :: _, [], _, _, h, _ => h.elim
theorem HdV.take {w : World} {base : Nat} : ∀ {hs : List Value} {xs : List (List Int)} (i : Nat), HdV w base hs xs → HdV w base (hs.take i) (xs.take i) ∧ HdV w base (hs.drop i) (xs.drop i)
  | hs, xs, 0, h => ⟨by simp [HdV], h⟩
  | [], [], i + 1, _ => ⟨trivial, trivial⟩
  | _ :: hs, _ :: xs, i + 1, h => ⟨⟨h.1, (HdV.take i h.2).1⟩, (HdV.take i h.2).2⟩
  | [], _ :: _, _ + 1, h => h.elim
  | _ :: _, [], _ + 1, h => h.elim
theorem QRow.appendN {P : Program} {w : World} {base e T ty : Nat} {i : TypeInfo} {z v : Value} {xs news : List Value} (hT : P.underlying T = some (.slice e)) (hi : P.info? e = some i) (hz : i.zero = some z) (hs : i.size = 1) (hby : i.bytes = 24) (hzs : z.cells.size = 1)
    (h : QRow w base e v xs) (hbase : base ≤ w.heap.size) (ad : Addr) (c : Nat) (hnews : ∀ j u, news[j]? = some u → w.cell? (ad.add j) = some u) (h1c : ∀ u ∈ news, u.oneCell' = true) (hn0 : 0 < news.length) (hlen : xs.length + news.length < 8192) :
    ∃ v' w', (Builtin.append_ #[T, T] ty #[v, .slice (some ad) news.length c]).run P w = .ok v' w' ∧ QRow w' base e v' (xs ++ news) ∧ w.grownBy w' v.ownBlock ∧ (v'.ownBlock = v.ownBlock ∨ ∃ g, v'.ownBlock = some g ∧ w.heap.size ≤ g) := by
  have hq := h
  obtain ⟨ad0, c0, ev, hcell⟩ := QRow.cell hq
  obtain ⟨g, off, cap, cur, rfl, h0, hh, h1, h2, h3, h4⟩ := h
  simp only [Value.slice.injEq, Option.some.injEq] at ev
  obtain ⟨rfl, _, rfl⟩ := ev
  by_cases hr : xs.length + news.length ≤ cap
  · have hrun := run_append_room_cells (P := P) w T ty e i hT hi g off xs.length cap ad news.length c news (by rw [hs, Nat.mul_one]) hnews h1c hr
      (fun j hj => by
        rw [cell_of_row w g _ cur e (0, 0) hh, hs, Array.getElem?_eq_getElem (by omega)]
        rfl)
      (fun j hj => by simp [World.frozen?, hh])
    obtain ⟨cur', a1, a2, a3⟩ := setCells_row (g := g) (e := e) news (off + xs.length * i.size) w cur hh (by rw [hs]; omega)
    obtain ⟨d1, d2, d3, d4⟩ := setCells_same g news (off + xs.length * i.size) w
    refine ⟨_, _, hrun, ⟨g, off, cap, cur', by simp, h0, a1, by simpa using hr, by omega, h3, ?_⟩, ⟨d1, d2, d3, by rw [d4]; exact Nat.le_refl _, fun k hk hne => setCells_far _ _ k (fun e_ => hne (by rw [e_]; rfl))⟩, .inl rfl⟩
    rw [a3, hs, Nat.mul_one]
    have hcl : cur.toList.length = cur.size := Array.length_toList
    have e1 : (cur.toList.take (off + xs.length)).drop off = xs := by
      rw [List.drop_take, show off + xs.length - off = xs.length by omega]; exact h4
    have hcl2 : off ≤ (cur.toList.take (off + xs.length)).length := by rw [List.length_take]; omega
    rw [List.append_assoc, List.drop_append_of_le_length hcl2, e1, List.length_append, ← List.append_assoc]
    exact List.take_left' (by simp)
  · obtain ⟨v', w', hrun, r1, r2⟩ := run_append_arg_grows (P := P) w T ty e i z 1 24 hT hi hz hs hby hzs (by omega) ⟨g, off, none⟩ xs.length cap xs (by omega) hcell ad news.length c news (by omega) hnews (by omega) (by unfold maxLen; omega) (by omega)
    refine ⟨v', w', hrun, ?_, ⟨r2.os, r2.tape, r2.output, r2.size, fun k hk _ => r2.block k hk (by simp)⟩, ?_⟩
    · rcases r1.2 with ⟨_, hx⟩ | ⟨g', cap', cur', rfl, hg', hh', hn', hc', hsz', ht'⟩
      · omega
      · exact ⟨g', 0, cap', cur', by simp, Nat.le_trans hbase hg', hh', by simpa using hn', by omega, hc', by simpa using ht'⟩
    · rcases r1.2 with ⟨_, hx⟩ | ⟨g', cap', cur', rfl, hg', _⟩
      · omega
      · exact .inr ⟨g', rfl, hg'⟩
/-- Two headers more at a queue's end, at the operation. -/
theorem wpList_append_q2 {P : Program} (w : World) {ops : Array Oper} {rest : List Oper} {o : Oper} {a : Act} {Q : Exit → Act → World → Prop} (hgd : o.guard = none) (s x : Operand) (T : TypeId)
    (ho : o.op = .call { callee := .builtin .append, args := #[s, x], argTypes := #[T, T] })
    {base e : Nat} {z : Value} (hT : P.underlying T = some (.slice e)) (hinfo : (P.info? e).map (fun i => (i.zero, i.size, i.bytes)) = some (some z, 1, 24)) (hzs : z.cells.size = 1)
    {v u1 u2 : Value} {xs : List Value} (hs : a.eval s = v) (h : QRow w base e v xs) (hbase : base ≤ w.heap.size) (hx : a.eval x = .slice (some ⟨w.heap.size, 0, none⟩) 2 2) (h1 : u1.oneCell' = true) (h2 : u2.oneCell' = true) (hlen : xs.length < 4096)
    (hK : ∀ v' w', QRow w' base e v' (xs ++ [u1, u2]) → w.grownBy w' v.ownBlock → (v'.ownBlock = v.ownBlock ∨ ∃ g, v'.ownBlock = some g ∧ w.heap.size ≤ g) → wpList P ops Q rest (a.put o.dst v') w') :
    wpList P ops Q (o :: rest) a (w.alloc (.cells #[u1, u2] e)) := by
  refine wpList_plain hgd fun K' hK' => ?_
  cases hi : P.info? e with
  | none => rw [hi] at hinfo; cases hinfo
  | some i =>
    rw [hi] at hinfo
    simp only [Option.map_some, Option.some.injEq, Prod.mk.injEq] at hinfo
    obtain ⟨hz, hsz, hby⟩ := hinfo
    have hg0 := World.grownBy_alloc w (.cells #[u1, u2] e) none
    have h' : QRow (w.alloc (.cells #[u1, u2] e)) base e v xs := QRow.kept h hg0 (by obtain ⟨g, hg, _⟩ := QRow.lt h; rw [hg]; simp)
    have hu : ∀ j u, ([u1, u2] : List Value)[j]? = some u → (w.alloc (.cells #[u1, u2] e)).cell? ((⟨w.heap.size, 0, none⟩ : Addr).add j) = some u := fun j u hj => by
      rw [Addr.add_lit, cell_of_row _ _ _ #[u1, u2] e (0, 0) (heap_alloc_new w _), Nat.zero_add, ← hj]
      simp
    obtain ⟨v', w', hrun, r1, r2, r3⟩ := QRow.appendN (P := P) (ty := o.type) (news := [u1, u2]) hT hi hz hsz hby hzs h' (Nat.le_trans hbase hg0.size) _ 2 hu (fun u hu => by rcases List.mem_cons.1 hu with rfl | hu; exact h1; rw [List.mem_singleton.1 hu]; exact h2) (by simp) (by simp; omega)
    have hrun' : (Builtin.append_ #[T, T] o.type #[v, .slice (some ⟨w.heap.size, 0, none⟩) 2 2]).run P (w.alloc (.cells #[u1, u2] e)) = .ok v' w' := hrun
    unfold Oper.wp
    simp [execOp, ho, resolve, invoke, builtin, hs, hx, hrun', Result.andThen]
    refine hK' _ _ (hK v' w' r1 ⟨r2.os.trans hg0.os, r2.tape.trans hg0.tape, r2.output.trans hg0.output, Nat.le_trans hg0.size r2.size, fun k hk hne => (r2.block k (Nat.lt_of_lt_of_le hk hg0.size) hne).trans (hg0.block k hk (by simp))⟩ ?_)
    rcases r3 with r3 | ⟨g, r3, r4⟩
    · exact .inl r3
    · exact .inr ⟨g, r3, Nat.le_trans hg0.size r4⟩
/-- All that is told of the rows met and of the queue. -/
structure FRel (base : Nat) (w : World) (mv qv : Value) (mh : List Value) (met : List (List Int)) (qh : List Value) (queue : List (List Int)) : Prop where
  own : w.ownsRow base 24 1 mv mh.length mh
  hm : HdV w base mh met
  hq : HdV w base qh queue
  q : QRow w base 24 qv qh
  ne : mv.ownBlock ≠ qv.ownBlock
  len : met.length ≤ 1001
theorem FRel.below {base : Nat} {w w' : World} {mv qv : Value} {mh qh : List Value} {met queue : List (List Int)} (h : FRel base w mv qv mh met qh queue) (hb : Below w.heap.size w w') : FRel base w' mv qv mh met qh queue :=
  ⟨h.own.kept (grown_of_below hb none) (by cases mv.ownBlock <;> simp), HdV.below hb h.hm, HdV.below hb h.hq, QRow.below h.q hb, h.ne, h.len⟩
theorem FRel.cells {base : Nat} {w : World} {A : Option Addr} {n c : Nat} {qv : Value} {mh qh : List Value} {met queue : List (List Int)} (h : FRel base w (.slice A n c) qv mh met qh queue) (hn : n = mh.length) : ∀ j, j < n → ∃ ad0 Ah ch, A = some ad0 ∧ w.cell? (ad0.add j) = some (.slice Ah (met.getD j []).length ch) ∧ (met.getD j []).length ≤ ch ∧ Kd.C (Kd.int .i64) w Ah (met.getD j []).length (met.getD j []) := by
  intro j hj
  obtain ⟨Ah, ch, h1, h2⟩ := HdV.get h.hm j (by rw [← HdV.len h.hm]; omega)
  rcases h.own.2 with ⟨e, h0⟩ | ⟨g, cap, cur, e, _⟩
  · omega
  · injection e with e1 e2 e3
    subst e1
    exact ⟨_, Ah, ch, rfl, h.own.cells (g := g) rfl j _ h1, (Kd.R_reads' h2).2.1, (Kd.R_reads' h2).2.2⟩
mutual
def impl_FaroGroup.l0 : Nat → List (List Int) → List (List Int) → Option Int
  | 0, _, _ => none
  | k + 1, met, queue => match queue with
    | [] => some (met.length : Int)
    | a :: q => (bsF k met a).bind fun r => if r.2 = true then impl_FaroGroup.l0 k met q else if met.length < 1000 ∧ q.length < 4000 ∧ r.1 ≤ met.length then ((impl_faro.f k a 0).bind fun x => (impl_faro.f k a 1).bind fun y => impl_FaroGroup.l0 k (met.take r.1 ++ [a] ++ met.drop r.1) (q ++ [x, y])) else none
end
def impl_FaroGroup.f (k : Nat) (a0 : Int) : Option Int := (impl_isPaired.f a0).bind fun b => if b = true then (if a0 > 8 then some (-1) else (impl_upTo.f k a0).bind fun a => impl_FaroGroup.l0 k [] [a]) else some (-1)
theorem bsL_mono (xs : List (List Int)) (a : List Int) (k : Nat) : ∀ m i j, LeO (bsL k xs a m i j) (bsL (k + 1) xs a (m + 1) i j)
  | 0, i, j => fun r h => by simp [bsL] at h
  | m + 1, i, j => by
    have ih := bsL_mono xs a k m
    conv => lhs; unfold bsL
    conv => rhs; unfold bsL
    exact LeO.ite (LeO.bind (slices_Compare_Lint_int.mono _ _ _) (fun _ => LeO.ite (ih _ _) (ih _ _))) (LeO.refl _)
theorem bsF_mono (xs : List (List Int)) (a : List Int) (k : Nat) : LeO (bsF k xs a) (bsF (k + 1) xs a) := by
  unfold bsF
  exact LeO.bind (bsL_mono xs a k k 0 _) (fun _ => LeO.ite (LeO.bind (slices_Compare_Lint_int.mono _ _ _) (fun _ => LeO.refl _)) (LeO.refl _))
theorem impl_FaroGroup.mono_l : ∀ k met q, LeO (impl_FaroGroup.l0 k met q) (impl_FaroGroup.l0 (k + 1) met q)
  | 0, met, q => fun r h => by simp [impl_FaroGroup.l0] at h
  | k + 1, met, q => by
    have ih := impl_FaroGroup.mono_l k
    unfold impl_FaroGroup.l0
    cases q with
    | nil => exact LeO.refl _
    | cons a q => exact LeO.bind (bsF_mono _ _ _) (fun _ => LeO.ite (ih _ _) (LeO.ite (LeO.bind (impl_faro.mono _ _ _) (fun _ => LeO.bind (impl_faro.mono _ _ _) (fun _ => ih _ _))) (LeO.refl _)))
theorem impl_FaroGroup.mono : ∀ a0 k, LeO (impl_FaroGroup.f k a0) (impl_FaroGroup.f (k + 1) a0) := fun a0 k => by
  unfold impl_FaroGroup.f
  exact LeO.bind (LeO.refl _) (fun _ => LeO.ite (LeO.ite (LeO.refl _) (LeO.bind (impl_upTo.mono _ _) (fun _ => impl_FaroGroup.mono_l _ _ _))) (LeO.refl _))
theorem own_hdr {w : World} {base n : Nat} {v : Value} {hs : List Value} (h : w.ownsRow base 24 1 v n hs) : ∀ g, v.ownBlock = some g → ∃ cur, w.heap[g]? = some (.cells cur 24 (0, 0)) := by
  intro g hg
  rcases h.2 with ⟨rfl, _⟩ | ⟨g', cap, cur, rfl, _, hh, _⟩
  · cases hg
  · cases hg
    exact ⟨cur, hh⟩
theorem q_hdr {w : World} {base : Nat} {v : Value} {hs : List Value} (h : QRow w base 24 v hs) : ∀ g, v.ownBlock = some g → ∃ cur, w.heap[g]? = some (.cells cur 24 (0, 0)) := by
  intro g hg
  obtain ⟨g', off, cap, cur, rfl, _, hh, _⟩ := h
  cases hg
  exact ⟨cur, hh⟩
theorem own_slice {w : World} {base n : Nat} {v : Value} {hs : List Value} (h : w.ownsRow base 24 1 v n hs) : ∃ A c, v = .slice A n c ∧ n ≤ c := by
  rcases h.2 with ⟨rfl, rfl⟩ | ⟨g', cap, cur, rfl, _, hh, hle, _⟩
  · exact ⟨none, 0, rfl, Nat.le_refl _⟩
  · exact ⟨_, _, rfl, hle⟩
set_option maxHeartbeats 32000000 in
set_option maxRecDepth 100000 in
theorem impl_FaroGroup.calls_in (k : Nat) (a0 r : Int) (x0 : List Int) (w : World) (hp : impl_isPaired.f a0 = some true) (h8 : ¬ a0 > 8) (h1 : impl_upTo.f k a0 = some x0) (h : impl_FaroGroup.l0 k [] [x0] = some r) :
    Calls Try.prog 33 #[.int .i64 a0] w fun e w' => e = .returned (.int .i64 r) ∧ Below w.heap.size w w' := by
  have HP := Aside0.mk hp
  have A1 := Aside0.mk h1
  have H0 := Aside0.mk h
  have g1 : decide (8 < a0) = false := decide_eq_false (by omega)
  have g2 : decide (a0 > 8) = false := decide_eq_false h8
  obtain ⟨iI, hiI, hzI, hsI, hbI⟩ := info_parts (show (Try.prog.info? 24).map (fun i => (i.zero, i.size, i.bytes)) = some (some (Value.slice none 0 0), 1, 24) by kernel_rfl)
  have II := Aside0.mk hiI
  have SI := Aside0.mk hsI
  clear hp h1 h h8 hiI hzI hsI hbI
  go_enter Try.func33, Try.ntmps33
  go_wp2_with (first
    | (go_at_call 70; (with_reducible refine (impl_isPaired.calls a0 true _ HP.out).mono ?_); rintro e w0 ⟨rfl, hd⟩; have B0 := Aside0.mk hd.below; clear hd)
    | (go_at_call 52; (with_reducible refine (impl_upTo.calls k a0 x0 _ A1.out).mono ?_); rintro e w1 ⟨v1, rfl, ho, hb⟩; obtain ⟨Ax, cx, rfl⟩ := Kd.R_slice ho; have HO1 := Aside0.mk (Kd.R_lower ho B0.out.size); have B1 := Aside0.mk (below_step B0.out hb); clear ho hb B0))
  go_loopg [3, 4] k (fun kq v3 v4 w' => ∃ (met queue : List (List Int)) (mh qh : List Value), Aside0 (impl_FaroGroup.l0 kq met queue = some r) ∧ Aside0 (kq ≤ k) ∧ Aside0 (FRel w.heap.size w' v3 v4 mh met qh queue) ∧ Aside0 (Below w.heap.size w w'))
  case atStart =>
    refine ⟨[], [x0], [], [.slice Ax x0.length cx], H0, ⟨Nat.le_refl _⟩, ⟨World.ownsRow_nil _ _ _ _, trivial, ⟨Kd.R_alloc HO1.out _, trivial⟩, ⟨w1.heap.size, 0, 1, #[.slice Ax x0.length cx], rfl, B1.out.size, heap_alloc_new w1 _, Nat.le_refl _, Nat.le_refl _, by unfold maxLen; omega, rfl⟩, by simp [Value.ownBlock], by simp⟩, ⟨below_alloc B1.out _⟩⟩
  case round =>
    clear H0 HO1 B1
    obtain ⟨met, queue, mh, qh, HA, HK, HF, HB⟩ := hrel
    cases gk with
    | zero => exact absurd HA.out (by simp [impl_FaroGroup.l0])
    | succ k2 =>
      have H := HA.out
      clear HA
      obtain ⟨Am, cm, em, hmc⟩ := own_slice HF.out.own
      have hml := HdV.len HF.out.hm
      obtain ⟨m, hm⟩ : ∃ m, m = mh.length := ⟨_, rfl⟩
      rw [← hm] at em hml hmc
      subst em
      cases queue with
      | nil =>
        simp only [impl_FaroGroup.l0, Option.some.injEq] at H
        have hql := HdV.len HF.out.hq
        obtain rfl : qh = [] := List.eq_nil_of_length_eq_zero (by simpa using hql)
        obtain ⟨ad, cap, ev, _⟩ := QRow.cell HF.out.q
        simp only [List.length_nil] at ev
        subst ev
        rw [← hml] at H
        subst H
        clear hm hml hql hmc
        go_wp2
        go_ret
        exact ⟨rfl, HB.out⟩
      | cons a q =>
        simp only [impl_FaroGroup.l0] at H
        obtain ⟨⟨i, fb⟩, hbs, H⟩ := Option.bind_eq_some_iff.mp H
        cases qh with
        | nil => exact HF.out.hq.elim
        | cons hd qh =>
          obtain ⟨A, c, rfl⟩ := Kd.R_slice HF.out.hq.1
          obtain ⟨ad, cap, ev, hcell⟩ := QRow.cell HF.out.q
          have hc0 : wr.cell? ad = some (.slice A a.length c) := by have h9 := hcell 0 (.slice A a.length c) rfl; rw [Addr.add_zero'] at h9; exact h9
          obtain ⟨n, hn⟩ : ∃ n, n = ((.slice A a.length c : Value) :: qh).length := ⟨_, rfl⟩
          rw [← hn] at ev
          have hn0 : 0 < n := by rw [hn]; simp
          have n1 : decide (0 < (n : Int)) = true := decide_eq_true (by omega)
          have n2 : decide (0 < n) = true := decide_eq_true hn0
          subst ev
          have HM := Aside0.mk hm
          have HML := Aside0.mk hml
          have HMC := Aside0.mk hmc
          have HBS := Aside0.mk hbs
          replace hn0 := eq_true hn0
          clear hcell hn hm hml hmc hbs
          cases fb with
          | true =>
            have H' := Aside0.mk (by rw [if_pos rfl] at H; exact H)
            clear H
            go_wp2_with (go_at_call 71; (refine (bs_calls k2 Am m cm met a A c wr HML.out.symm (by have e1 := HF.out.len; have e2 := HML.out; omega) HMC.out (FRel.cells HF.out HM.out) (Kd.R_reads' HF.out.hq.1).2.2 (Kd.R_reads' HF.out.hq.1).2.1 i true HBS.out).mono ?_); rintro e w2 ⟨rfl, hb⟩; have F2 := Aside0.mk (FRel.below HF.out hb); have B2 := Aside0.mk (below_step HB.out hb); clear hb hc0; obtain ⟨qv', hrun, hq', hv'⟩ := QRow.tail (P := Try.prog) Try.underlying44 II.out SI.out F2.out.q; have Q2 := Aside0.mk hq'; have V2 := Aside0.mk hv'; clear hq' hv')
            go_roundg k2
            case measure => have := HK.out; omega
            case rel => exact ⟨met, q, mh, qh, H', ⟨by have := HK.out; omega⟩, ⟨F2.out.own, F2.out.hm, F2.out.hq.2, Q2.out, by rw [V2.out]; exact F2.out.ne, F2.out.len⟩, B2⟩
          | false =>
            simp only [Bool.false_eq_true, if_false] at H
            by_cases c1 : met.length < 1000 ∧ q.length < 4000 ∧ i ≤ met.length
            rotate_left
            · rw [if_neg c1] at H
              cases H
            rw [if_pos c1] at H
            obtain ⟨x, hx, H⟩ := Option.bind_eq_some_iff.mp H
            obtain ⟨y, hy, H⟩ := Option.bind_eq_some_iff.mp H
            have HX := Aside0.mk hx
            have HY := Aside0.mk hy
            have C1 := Aside0.mk c1
            have H' := Aside0.mk H
            clear hx hy c1 H
            go_wp2_with (first
              | (go_at_call 71; (refine (bs_calls k2 Am m cm met a A c wr HML.out.symm (by have e1 := HF.out.len; have e2 := HML.out; omega) HMC.out (FRel.cells HF.out HM.out) (Kd.R_reads' HF.out.hq.1).2.2 (Kd.R_reads' HF.out.hq.1).2.1 i false HBS.out).mono ?_); rintro e w2 ⟨rfl, hb⟩; have F2 := Aside0.mk (FRel.below HF.out hb); have B2 := Aside0.mk (below_step HB.out hb); clear hb hc0)
              | (go_at_call 73; (refine (insert_any mh i w2.heap.size (.slice A a.length c) (w2.alloc (.cells #[.slice A a.length c] 24)) w.heap.size (.slice Am m cm) (F2.out.own.alloc _) (by have e1 := C1.out.2.2; have e2 := HML.out; have e3 := HM.out; omega) (by have e1 := C1.out.1; have e2 := HML.out; have e3 := HM.out; omega) (HdV.one F2.out.hm) rfl (HOne.new w2 _) (fun e_ => by have e9 := (F2.out.own.lt _ e_).2; omega) (below_alloc B2.out _).size).mono ?_); rintro e w3 ⟨mv', rfl, ho, hg, hat⟩; have HO3 := Aside0.mk ho; have G0 := Aside0.mk (World.grownBy_alloc w2 (.cells #[.slice A a.length c] 24) none); have HG3 := Aside0.mk hg; have HAT3 := Aside0.mk hat; have ROW := Aside0.mk (own_hdr (F2.out.own.alloc (.cells #[.slice A a.length c] 24))); have Q3 := Aside0.mk (QRow.kept (QRow.kept F2.out.q G0.out (by obtain ⟨g_, e_, _⟩ := QRow.lt F2.out.q; rw [e_]; simp)) hg (fun e_ => F2.out.ne e_.symm)); have M3 := Aside0.mk (HdV.apart hg ROW.out (HdV.apart G0.out (by simp) F2.out.hm)); have P3 := Aside0.mk (HdV.apart hg ROW.out (HdV.apart G0.out (by simp) F2.out.hq)); have B3 := Aside0.mk (pw_below_grown (below_alloc B2.out _) _ (below_alloc B2.out _).size hg (fun i_ hi_ => (F2.out.own.lt i_ hi_).1)); clear ho hg hat)
              | (go_at_call 74; (with_reducible refine (impl_faro.calls k2 (fun k_ => some k_ = (.slice A a.length c : Value).ownBlock) A c a 0 x _ ?sd HX.out).mono ?_); (case sd => exact Kd.R_V (Kd.R_tight rfl P3.out.1)); rintro e w4 ⟨v4, rfl, ho, hb⟩; obtain ⟨A4, c4, rfl⟩ := Kd.R_slice ho; have HO4 := Aside0.mk (Kd.R_mono (Kd.R_lower ho (below_size B3.out)) (ok' := fun _ => True) (fun _ _ => trivial)); have B4 := Aside0.mk (below_step B3.out hb); have B34 := Aside0.mk hb; have P4 := Aside0.mk (HdV.below hb P3.out); clear ho hb)
              | (go_at_call 74; (with_reducible refine (impl_faro.calls k2 (fun k_ => some k_ = (.slice A a.length c : Value).ownBlock) A c a 1 y _ ?sd HY.out).mono ?_); (case sd => exact Kd.R_V (Kd.R_tight rfl P4.out.1)); rintro e w5 ⟨v5, rfl, ho, hb⟩; obtain ⟨A5, c5, rfl⟩ := Kd.R_slice ho; have HO5 := Aside0.mk (Kd.R_mono (Kd.R_lower ho (below_size B4.out)) (ok' := fun _ => True) (fun _ _ => trivial)); have HO45 := Aside0.mk (Kd.R_below HO4.out hb); have B5 := Aside0.mk (below_step B4.out hb); have B35 := Aside0.mk (below_step B34.out hb); clear ho hb)
              | (at_builtin; refine wpList_append_q2 _ rfl (.tmp 38) (.tmp 43) 44 rfl Try.underlying44 (show (Try.prog.info? 24).map (fun i => (i.zero, i.size, i.bytes)) = some (some (Value.slice none 0 0), 1, 24) by kernel_rfl) rfl (v := .slice (some ad) n cap) (u1 := .slice A4 x.length c4) (u2 := .slice A5 y.length c5) rfl (QRow.below Q3.out B35.out) (below_size B5.out) rfl rfl rfl (by have e1 := C1.out.2.1; have e2 := HdV.len F2.out.hq; simp at e2 ⊢; omega) ?_; intro v6 w6 hq6 hg6 hat6; have ROW6 := Aside0.mk (q_hdr (QRow.below Q3.out B35.out)); have HG6 := Aside0.mk hg6; have HAT6 := Aside0.mk hat6; have B6 := Aside0.mk (pw_below_grown B5.out _ (below_size B5.out) hg6 (fun i_ hi_ => by obtain ⟨g_, e_, h_, _⟩ := QRow.lt Q3.out; rw [e_] at hi_; injection hi_ with hi_; omega)); obtain ⟨qv', hrun, hq', hv'⟩ := QRow.tail (P := Try.prog) Try.underlying44 II.out SI.out (show QRow w6 w.heap.size 24 v6 ((.slice A a.length c : Value) :: (qh ++ [.slice A4 x.length c4, .slice A5 y.length c5])) from hq6); have Q6 := Aside0.mk hq'; have V6 := Aside0.mk hv'; clear hq6 hg6 hat6 hq' hv'))
            go_roundg k2
            case measure => have := HK.out; omega
            case rel =>
              have t3 := HdV.take i (HdV.apart HG6.out ROW6.out (HdV.below B35.out M3.out))
              have hne : (Value.slice Am m cm).ownBlock ≠ (Value.slice (some ad) n cap).ownBlock := F2.out.ne
              have hb35 := B35.out.size
              refine ⟨met.take i ++ [a] ++ met.drop i, q ++ [x, y], mh.take i ++ [.slice A a.length c] ++ mh.drop i, qh ++ [.slice A4 x.length c4, .slice A5 y.length c5], H', ⟨by have := HK.out; omega⟩, ⟨?_, ?_, ?_, Q6.out, ?_, ?_⟩, B6⟩
              · have h9 := HO3.out
                have hlen : (mh.take i ++ [(.slice A a.length c : Value)] ++ mh.drop i).length = mh.length + 1 := by simp; have e1 := C1.out.2.2; have e2 := HML.out; have e3 := HM.out; omega
                rw [hlen]
                refine (h9.kept (grown_of_below B35.out none) (by cases mv'.ownBlock <;> simp)).kept HG6.out (Or.inr (fun e_ => ?_))
                rcases HAT3.out with e1 | ⟨g_, e1, e2⟩
                · exact hne (e1 ▸ e_)
                · obtain ⟨g2, e3, _, e4⟩ := QRow.lt F2.out.q
                  rw [e1, e3] at e_
                  injection e_ with e_
                  have e5 := G0.out.size
                  omega
              · exact HdV.app (HdV.app t3.1 ⟨R_apart (R_apart P3.out.1 (grown_of_below B35.out none) (by simp)) HG6.out ROW6.out, trivial⟩) t3.2
              · exact HdV.app (HdV.apart HG6.out ROW6.out (HdV.below B35.out P3.out.2)) ⟨R_apart HO45.out HG6.out ROW6.out, R_apart HO5.out HG6.out ROW6.out, trivial⟩
              · rw [V6.out]
                obtain ⟨g2, e3, _, e4⟩ := QRow.lt F2.out.q
                have e5 := G0.out.size
                intro e_
                rcases HAT3.out with e1 | ⟨g_, e1, e2⟩ <;> rcases HAT6.out with f1 | ⟨g6, f1, f2⟩
                · exact hne (by rw [← e1, ← f1]; exact e_)
                · rw [f1] at e_
                  have e7 := (HO3.out.lt _ e_).2
                  omega
                · rw [e1, f1, e3] at e_
                  injection e_ with e_
                  omega
                · rw [f1] at e_
                  have e7 := (HO3.out.lt _ e_).2
                  omega
              · simp
                have e1 := C1.out
                omega
theorem impl_FaroGroup.calls (k : Nat) (a0 : Int) (r : Int) (w : World) (h : impl_FaroGroup.f k a0 = some r) :
    Calls Try.prog 33 #[.int .i64 a0] w fun e w' => e = .returned (.int .i64 r) ∧ Below w.heap.size w w' := by
  unfold impl_FaroGroup.f at h
  obtain ⟨b, hb, h⟩ := Option.bind_eq_some_iff.mp h
  cases b with
  | false =>
    rw [if_neg (by decide)] at h
    obtain rfl := Option.some.inj h
    have HP := Aside0.mk hb
    clear hb h
    go_enter Try.func33, Try.ntmps33
    go_wp2_with (go_at_call 70; (with_reducible refine (impl_isPaired.calls a0 false _ HP.out).mono ?_); rintro e w0 ⟨rfl, hd⟩; have B0 := Aside0.mk hd.below; clear hd)
    go_ret
    exact ⟨rfl, B0.out⟩
  | true =>
    rw [if_pos rfl] at h
    by_cases h8 : a0 > 8
    · rw [if_pos h8] at h
      obtain rfl := Option.some.inj h
      have HP := Aside0.mk hb
      have g1 : decide (8 < a0) = true := decide_eq_true (by omega)
      have g2 : decide (a0 > 8) = true := decide_eq_true h8
      clear hb h h8
      go_enter Try.func33, Try.ntmps33
      go_wp2_with (go_at_call 70; (with_reducible refine (impl_isPaired.calls a0 true _ HP.out).mono ?_); rintro e w0 ⟨rfl, hd⟩; have B0 := Aside0.mk hd.below; clear hd)
      go_ret
      exact ⟨rfl, B0.out⟩
    · rw [if_neg h8] at h
      obtain ⟨x0, h1, h⟩ := Option.bind_eq_some_iff.mp h
      exact impl_FaroGroup.calls_in k a0 r x0 w hb h8 h1 h
end Go.Proofs.Ytbeehklibkeecaa.F
end
section
/- Laid by a program of this claim's own. What the Go function does, as a Lean function, and the proof that the Go code does just that; Lean checks it. -/
namespace Go.Proofs.Ytbeehklibkeecaa.F
open Go.RowKit Go.Proofs.YtbeehklibkeecaaW.PrintWords Go.Proofs.YtbeehklibkeecaaW.PrintLast Go.Proofs.YtbeehklibkeecaaW.PrintMore
attribute [local go_sem] max2_int min2_int max_two min_two max_three min_three max_four min_four   -- for this text's walks alone
set_option linter.unusedVariables false
set_option linter.unusedSimpArgs false
/-! ### slices_Index_Lint_int: function 53 -/
def slices_Index_Lint_int.l0 : Nat → List Int → Int → Int → Int → Option (Int)
  | 0, _, _, _, _ => none
  | k + 1, x0, x1, x7, x8 => if x8 < x7 then (if 0 ≤ x8 then (if x8 < (x0.length : Int) then (if x1 = (rd x0 x8) then (some x8) else (slices_Index_Lint_int.l0 k x0 x1 x7 (wrap64 (x8 + 1)))) else (none)) else (none)) else (some (-1))
def slices_Index_Lint_int.f (k : Nat) (l0 : List Int) (a1 : Int) : Option (Int) := slices_Index_Lint_int.l0 k l0 a1 (l0.length : Int) 0
set_option maxHeartbeats 8000000 in
set_option maxRecDepth 100000 in
theorem slices_Index_Lint_int.calls (k : Nat) (A0 : Option Addr) (c0 : Nat) (l0 : List Int) (a1 : Int) (r : Int) (w : World) (hr0 : Kd.C (Kd.int .i64) w A0 l0.length l0) (hc0 : l0.length ≤ c0) (h : slices_Index_Lint_int.f k l0 a1 = some r) :
    Calls Try.prog 53 #[.slice A0 l0.length c0, .int .i64 a1] w fun e w' => e = .returned (.int .i64 r) ∧ Drawn0 w w' := by
  have HR0 := Aside0.mk hr0
  have HC0 := Aside0.mk hc0
  clear hr0 hc0
  have H : (slices_Index_Lint_int.l0 k l0 a1 (l0.length : Int) 0) = some r := h
  clear h
  have H' := Aside0.mk H
  clear H
  go_enter Try.func53, Try.ntmps53
  go_wp2
  go_loopg [8] k (fun kq v8 w' => ∃ (x8_1 : Int), v8 = .int .i64 x8_1 ∧ Aside0 (slices_Index_Lint_int.l0 kq l0 a1 (l0.length : Int) x8_1 = some r) ∧ Aside0 (kq ≤ k) ∧ Drawn0 w w')
  case atStart => exact ⟨(0), (by first | rfl | (simp; done) | (simp [*]; done)), H', ⟨Nat.le_refl _⟩, by repeat (first | exact Drawn0.refl _ | apply Drawn0.step)⟩
  case round =>
    clear H'
    try clear p2
    obtain ⟨x8_1, rfl, HA, HK1, ⟨m1, rfl⟩⟩ := hrel
    cases gk with
    | zero => exact absurd HA.out (by simp [slices_Index_Lint_int.l0])
    | succ k1 =>
      have H := HA.out
      clear HA
      simp only [slices_Index_Lint_int.l0] at H
      by_cases c3 : x8_1 < (l0.length : Int)
      · rw [if_pos c3] at H
        have c3b0 : decide (x8_1 < (l0.length : Int)) = true := decide_eq_true c3
        clear c3
        by_cases c4 : 0 ≤ x8_1
        · rw [if_pos c4] at H
          have c4b0 : decide (0 ≤ x8_1) = true := decide_eq_true c4
          clear c4
          by_cases c5 : x8_1 < (l0.length : Int)
          · rw [if_pos c5] at H
            have c5b0 : decide (x8_1 < (l0.length : Int)) = true := decide_eq_true c5
            clear c5
            by_cases c6 : a1 = (rd l0 x8_1)
            · rw [if_pos c6] at H
              have c6b0 : (a1 == (rd l0 x8_1)) = true := beq_iff_eq.mpr c6
              have c6b1 : (a1 != (rd l0 x8_1)) = false := bne_eq_false_iff_eq.mpr c6
              clear c6
              obtain rfl := Option.some.inj H
              have p228 : 0 ≤ (x8_1 : Int) := of_decide_eq_true (by first | (with_reducible assumption) | assumption)
              have q228 : x8_1 < (l0.length : Int) := of_decide_eq_true (by first | (with_reducible assumption) | assumption)
              obtain ⟨ad228, e228, hx228_0⟩ := Kd.at_int HR0.out x8_1 p228 q228
              cases e228
              replace p228 := eq_true p228
              replace q228 := eq_true q228
              go_wp2
              go_ret
              exact ⟨by first | rfl | (simp; done) | (simp [*]; done), by repeat (first | exact Drawn0.refl _ | apply Drawn0.step)⟩
            · rw [if_neg c6] at H
              have c6b0 : (a1 == (rd l0 x8_1)) = false := beq_eq_false_iff_ne.mpr c6
              have c6b1 : (a1 != (rd l0 x8_1)) = true := bne_iff_ne.mpr c6
              have H' := Aside0.mk H
              clear H
              have p228 : 0 ≤ (x8_1 : Int) := of_decide_eq_true (by first | (with_reducible assumption) | assumption)
              have q228 : x8_1 < (l0.length : Int) := of_decide_eq_true (by first | (with_reducible assumption) | assumption)
              obtain ⟨ad228, e228, hx228_0⟩ := Kd.at_int HR0.out x8_1 p228 q228
              cases e228
              replace p228 := eq_true p228
              replace q228 := eq_true q228
              go_wp2
              go_roundg k1
              case measure => have := HK1.out; omega
              case rel => exact ⟨(wrap64 (x8_1 + 1)), (by first | rfl | (simp; done) | (simp [*]; done)), H', ⟨by have := HK1.out; omega⟩, by repeat (first | exact Drawn0.refl _ | apply Drawn0.step)⟩
          · rw [if_neg c5] at H
            exact absurd H (by simp)
        · rw [if_neg c4] at H
          exact absurd H (by simp)
      · rw [if_neg c3] at H
        have c3b0 : decide (x8_1 < (l0.length : Int)) = false := decide_eq_false c3
        clear c3
        obtain rfl := Option.some.inj H
        go_wp2
        go_ret
        exact ⟨by first | rfl | (simp; done) | (simp [*]; done), by repeat (first | exact Drawn0.refl _ | apply Drawn0.step)⟩
end Go.Proofs.Ytbeehklibkeecaa.F
end
section
/- Laid by a program of this claim's own. What the Go function does, as a Lean function, and the proof that the Go code does just that; Lean checks it. -/
namespace Go.Proofs.Ytbeehklibkeecaa.F
open Go.RowKit Go.Proofs.YtbeehklibkeecaaW.PrintWords Go.Proofs.YtbeehklibkeecaaW.PrintLast Go.Proofs.YtbeehklibkeecaaW.PrintMore
attribute [local go_sem] max2_int min2_int max_two min_two max_three min_three max_four min_four   -- for this text's walks alone
set_option linter.unusedVariables false
set_option linter.unusedSimpArgs false
/-! ### impl_ShortestFaro: function 34 -/
/-- Where a card goes by a perfect shuffle. -/
def impl_ShortestFaro.s (k : Nat) (n x y : Int) : Option Int := (impl_upTo.f k n).bind fun l => (impl_faro.f k l y).bind fun p => slices_Index_Lint_int.f k p x
set_option maxHeartbeats 8000000 in
set_option maxRecDepth 100000 in
theorem impl_ShortestFaro.at_ (k : Nat) (a0 x y z : Int) (g0 : Nat) (W : World) (h0 : W.cell? ⟨g0, 0, none⟩ = some (.int .i64 a0)) (h : impl_ShortestFaro.s k a0 x y = some z) :
    Calls Try.prog 75 (#[.int .i64 x, .int .i64 y] ++ #[.pointer (some ⟨g0, 0, none⟩)]) W fun e w' => e = .returned (.int .i64 z) ∧ Below W.heap.size W w' := by
  unfold impl_ShortestFaro.s at h
  obtain ⟨l, h1, h⟩ := Option.bind_eq_some_iff.mp h
  obtain ⟨p, h2, h3⟩ := Option.bind_eq_some_iff.mp h
  have A1 := Aside0.mk h1
  have A2 := Aside0.mk h2
  have A3 := Aside0.mk h3
  clear h h1 h2 h3
  show Calls Try.prog 75 #[.int .i64 x, .int .i64 y, .pointer (some ⟨g0, 0, none⟩)] W _
  go_enter Try.func75, Try.ntmps75
  go_wp2_with (first
    | (go_at_call 52; (with_reducible refine (impl_upTo.calls k a0 l _ A1.out).mono ?_); rintro e w1 ⟨v1, rfl, ho, hb⟩; obtain ⟨A, c, rfl⟩ := Kd.R_slice ho; have HO := Aside0.mk ho; have HB := Aside0.mk hb; clear ho hb)
    | (go_at_call 74; (with_reducible refine (impl_faro.calls k (fun k_ => some k_ = (.slice A l.length c : Value).ownBlock) A c l y p _ ?sd A2.out).mono ?_); (case sd => exact Kd.R_V (Kd.R_tight rfl HO.out)); rintro e w2 ⟨v2, rfl, ho, hb⟩; obtain ⟨A4, c4, rfl⟩ := Kd.R_slice ho; have HO2 := Aside0.mk ho; have HB2 := Aside0.mk (below_step HB.out hb); clear ho hb)
    | (go_at_call 53; (with_reducible refine (slices_Index_Lint_int.calls k A4 c4 p x z _ (Kd.R_reads' HO2.out).2.2 (Kd.R_reads' HO2.out).2.1 A3.out).mono ?_); rintro e w3 ⟨rfl, hd⟩; have HB3 := Aside0.mk (below_step HB2.out hd.below); clear hd))
  go_ret
  exact ⟨rfl, HB3.out⟩
def impl_ShortestFaro.f (k : Nat) (a0 a1 a2 : Int) : Option (List Int × Bool) := (impl_isPaired.f a0).bind fun b => if b = true then (if a1 < 0 then some ([], false) else if a0 ≤ a1 then some ([], false) else if a2 < 0 then some ([], false) else if a0 ≤ a2 then some ([], false) else impl_shortest.f (fun x y => impl_ShortestFaro.s k a0 x y) k a1 a2 2) else some ([], false)
set_option maxHeartbeats 16000000 in
set_option maxRecDepth 100000 in
theorem impl_ShortestFaro.calls_0 (a0 a1 a2 : Int) (w : World) (hok : impl_isPaired.f a0 = some false) :
    Calls Try.prog 34 #[.int .i64 a0, .int .i64 a1, .int .i64 a2] w fun e w' => ∃ v0_ : Value, e = .returned (.tuple #[v0_, .bool false]) ∧ Kd.R (Kd.int .i64) 3 w' w.heap.size (fun _ => True) v0_ [] ∧ Below w.heap.size w w' := by
  have HOK := Aside0.mk hok
  clear hok
  go_enter Try.func34, Try.ntmps34
  go_wp2_with (first
    | ((with_reducible refine gate_dst (N := 3) rfl ?_); (try (refine gate_guard (by rfl) ?_; dsimp only)); refine box_event ?hg (N := 3) ?hd (cs := #[.int .i64 a0]) (t := 3) ?hr ?_; (case hd => rfl); (case hg => rfl); (case hr => first | (go_simp; done) | (go_simp; rfl)); intro gb0 hg wb0 hbox hb; have BK0 := Aside0.mk (show Whole wb0 gb0 3 #[.int .i64 a0] from hbox); have BB0 := Aside0.mk hb; have cx0 : wb0.cell? ⟨gb0, 0, none⟩ = some (.int .i64 a0) := (Whole.cell BK0.out 0).trans rfl; clear hb hbox hg)
    | (go_at_call 70; (with_reducible refine (impl_isPaired.calls a0 false _ HOK.out).mono ?_); rintro e w5 ⟨rfl, hd⟩; have B5 := Aside0.mk (below_step BB0.out hd.below); have HD5 := Aside0.mk hd.below; have dx0 : w5.cell? ⟨gb0, 0, none⟩ = some (.int .i64 a0) := pw_cell_below hd.below cx0; clear hd cx0))
  go_ret2
  exact ⟨_, rfl, Kd.R_nil _ _ _ _ _, B5.out⟩
set_option maxHeartbeats 16000000 in
set_option maxRecDepth 100000 in
theorem impl_ShortestFaro.calls_1 (a0 a1 a2 : Int) (w : World) (hok : impl_isPaired.f a0 = some true) (h0 : a1 < 0) :
    Calls Try.prog 34 #[.int .i64 a0, .int .i64 a1, .int .i64 a2] w fun e w' => ∃ v0_ : Value, e = .returned (.tuple #[v0_, .bool false]) ∧ Kd.R (Kd.int .i64) 3 w' w.heap.size (fun _ => True) v0_ [] ∧ Below w.heap.size w w' := by
  have HOK := Aside0.mk hok
  have g0 : decide (a1 < 0) = true := decide_eq_true h0
  clear hok h0
  go_enter Try.func34, Try.ntmps34
  go_wp2_with (first
    | ((with_reducible refine gate_dst (N := 3) rfl ?_); (try (refine gate_guard (by rfl) ?_; dsimp only)); refine box_event ?hg (N := 3) ?hd (cs := #[.int .i64 a0]) (t := 3) ?hr ?_; (case hd => rfl); (case hg => rfl); (case hr => first | (go_simp; done) | (go_simp; rfl)); intro gb0 hg wb0 hbox hb; have BK0 := Aside0.mk (show Whole wb0 gb0 3 #[.int .i64 a0] from hbox); have BB0 := Aside0.mk hb; have cx0 : wb0.cell? ⟨gb0, 0, none⟩ = some (.int .i64 a0) := (Whole.cell BK0.out 0).trans rfl; clear hb hbox hg)
    | (go_at_call 70; (with_reducible refine (impl_isPaired.calls a0 true _ HOK.out).mono ?_); rintro e w5 ⟨rfl, hd⟩; have B5 := Aside0.mk (below_step BB0.out hd.below); have HD5 := Aside0.mk hd.below; have dx0 : w5.cell? ⟨gb0, 0, none⟩ = some (.int .i64 a0) := pw_cell_below hd.below cx0; clear hd cx0))
  go_ret2
  exact ⟨_, rfl, Kd.R_nil _ _ _ _ _, B5.out⟩
set_option maxHeartbeats 16000000 in
set_option maxRecDepth 100000 in
theorem impl_ShortestFaro.calls_2 (a0 a1 a2 : Int) (w : World) (hok : impl_isPaired.f a0 = some true) (h0 : ¬ a1 < 0) (h1 : a0 ≤ a1) :
    Calls Try.prog 34 #[.int .i64 a0, .int .i64 a1, .int .i64 a2] w fun e w' => ∃ v0_ : Value, e = .returned (.tuple #[v0_, .bool false]) ∧ Kd.R (Kd.int .i64) 3 w' w.heap.size (fun _ => True) v0_ [] ∧ Below w.heap.size w w' := by
  have HOK := Aside0.mk hok
  have g0 : decide (a1 < 0) = false := decide_eq_false h0
  have g1 : decide (a0 ≤ a1) = true := decide_eq_true h1
  have g1g : decide (a1 ≥ a0) = true := decide_eq_true h1
  clear hok h0 h1
  go_enter Try.func34, Try.ntmps34
  go_wp2_with (first
    | ((with_reducible refine gate_dst (N := 3) rfl ?_); (try (refine gate_guard (by rfl) ?_; dsimp only)); refine box_event ?hg (N := 3) ?hd (cs := #[.int .i64 a0]) (t := 3) ?hr ?_; (case hd => rfl); (case hg => rfl); (case hr => first | (go_simp; done) | (go_simp; rfl)); intro gb0 hg wb0 hbox hb; have BK0 := Aside0.mk (show Whole wb0 gb0 3 #[.int .i64 a0] from hbox); have BB0 := Aside0.mk hb; have cx0 : wb0.cell? ⟨gb0, 0, none⟩ = some (.int .i64 a0) := (Whole.cell BK0.out 0).trans rfl; clear hb hbox hg)
    | (go_at_call 70; (with_reducible refine (impl_isPaired.calls a0 true _ HOK.out).mono ?_); rintro e w5 ⟨rfl, hd⟩; have B5 := Aside0.mk (below_step BB0.out hd.below); have HD5 := Aside0.mk hd.below; have dx0 : w5.cell? ⟨gb0, 0, none⟩ = some (.int .i64 a0) := pw_cell_below hd.below cx0; clear hd cx0))
  go_ret2
  exact ⟨_, rfl, Kd.R_nil _ _ _ _ _, B5.out⟩
set_option maxHeartbeats 16000000 in
set_option maxRecDepth 100000 in
theorem impl_ShortestFaro.calls_3 (a0 a1 a2 : Int) (w : World) (hok : impl_isPaired.f a0 = some true) (h0 : ¬ a1 < 0) (h1 : ¬ a0 ≤ a1) (h2 : a2 < 0) :
    Calls Try.prog 34 #[.int .i64 a0, .int .i64 a1, .int .i64 a2] w fun e w' => ∃ v0_ : Value, e = .returned (.tuple #[v0_, .bool false]) ∧ Kd.R (Kd.int .i64) 3 w' w.heap.size (fun _ => True) v0_ [] ∧ Below w.heap.size w w' := by
  have HOK := Aside0.mk hok
  have g0 : decide (a1 < 0) = false := decide_eq_false h0
  have g1 : decide (a0 ≤ a1) = false := decide_eq_false h1
  have g1g : decide (a1 ≥ a0) = false := decide_eq_false h1
  have g2 : decide (a2 < 0) = true := decide_eq_true h2
  clear hok h0 h1 h2
  go_enter Try.func34, Try.ntmps34
  go_wp2_with (first
    | ((with_reducible refine gate_dst (N := 3) rfl ?_); (try (refine gate_guard (by rfl) ?_; dsimp only)); refine box_event ?hg (N := 3) ?hd (cs := #[.int .i64 a0]) (t := 3) ?hr ?_; (case hd => rfl); (case hg => rfl); (case hr => first | (go_simp; done) | (go_simp; rfl)); intro gb0 hg wb0 hbox hb; have BK0 := Aside0.mk (show Whole wb0 gb0 3 #[.int .i64 a0] from hbox); have BB0 := Aside0.mk hb; have cx0 : wb0.cell? ⟨gb0, 0, none⟩ = some (.int .i64 a0) := (Whole.cell BK0.out 0).trans rfl; clear hb hbox hg)
    | (go_at_call 70; (with_reducible refine (impl_isPaired.calls a0 true _ HOK.out).mono ?_); rintro e w5 ⟨rfl, hd⟩; have B5 := Aside0.mk (below_step BB0.out hd.below); have HD5 := Aside0.mk hd.below; have dx0 : w5.cell? ⟨gb0, 0, none⟩ = some (.int .i64 a0) := pw_cell_below hd.below cx0; clear hd cx0))
  go_ret2
  exact ⟨_, rfl, Kd.R_nil _ _ _ _ _, B5.out⟩
set_option maxHeartbeats 16000000 in
set_option maxRecDepth 100000 in
theorem impl_ShortestFaro.calls_4 (a0 a1 a2 : Int) (w : World) (hok : impl_isPaired.f a0 = some true) (h0 : ¬ a1 < 0) (h1 : ¬ a0 ≤ a1) (h2 : ¬ a2 < 0) (h3 : a0 ≤ a2) :
    Calls Try.prog 34 #[.int .i64 a0, .int .i64 a1, .int .i64 a2] w fun e w' => ∃ v0_ : Value, e = .returned (.tuple #[v0_, .bool false]) ∧ Kd.R (Kd.int .i64) 3 w' w.heap.size (fun _ => True) v0_ [] ∧ Below w.heap.size w w' := by
  have HOK := Aside0.mk hok
  have g0 : decide (a1 < 0) = false := decide_eq_false h0
  have g1 : decide (a0 ≤ a1) = false := decide_eq_false h1
  have g1g : decide (a1 ≥ a0) = false := decide_eq_false h1
  have g2 : decide (a2 < 0) = false := decide_eq_false h2
  have g3 : decide (a0 ≤ a2) = true := decide_eq_true h3
  have g3g : decide (a2 ≥ a0) = true := decide_eq_true h3
  clear hok h0 h1 h2 h3
  go_enter Try.func34, Try.ntmps34
  go_wp2_with (first
    | ((with_reducible refine gate_dst (N := 3) rfl ?_); (try (refine gate_guard (by rfl) ?_; dsimp only)); refine box_event ?hg (N := 3) ?hd (cs := #[.int .i64 a0]) (t := 3) ?hr ?_; (case hd => rfl); (case hg => rfl); (case hr => first | (go_simp; done) | (go_simp; rfl)); intro gb0 hg wb0 hbox hb; have BK0 := Aside0.mk (show Whole wb0 gb0 3 #[.int .i64 a0] from hbox); have BB0 := Aside0.mk hb; have cx0 : wb0.cell? ⟨gb0, 0, none⟩ = some (.int .i64 a0) := (Whole.cell BK0.out 0).trans rfl; clear hb hbox hg)
    | (go_at_call 70; (with_reducible refine (impl_isPaired.calls a0 true _ HOK.out).mono ?_); rintro e w5 ⟨rfl, hd⟩; have B5 := Aside0.mk (below_step BB0.out hd.below); have HD5 := Aside0.mk hd.below; have dx0 : w5.cell? ⟨gb0, 0, none⟩ = some (.int .i64 a0) := pw_cell_below hd.below cx0; clear hd cx0))
  go_ret2
  exact ⟨_, rfl, Kd.R_nil _ _ _ _ _, B5.out⟩
set_option maxHeartbeats 16000000 in
set_option maxRecDepth 100000 in
theorem impl_ShortestFaro.calls_in (k : Nat) (a0 a1 a2 : Int) (r1 : List Int) (r2 : Bool) (w : World) (hok : impl_isPaired.f a0 = some true) (h0 : ¬ a1 < 0) (h1 : ¬ a0 ≤ a1) (h2 : ¬ a2 < 0) (h3 : ¬ a0 ≤ a2) (h : impl_shortest.f (fun x y => impl_ShortestFaro.s k a0 x y) k a1 a2 2 = some (r1, r2)) :
    Calls Try.prog 34 #[.int .i64 a0, .int .i64 a1, .int .i64 a2] w fun e w' => ∃ v0_ : Value, e = .returned (.tuple #[v0_, .bool r2]) ∧ Kd.R (Kd.int .i64) 3 w' w.heap.size (fun _ => True) v0_ r1 ∧ Below w.heap.size w w' := by
  have HOK := Aside0.mk hok
  have HS := Aside0.mk h
  have g0 : decide (a1 < 0) = false := decide_eq_false h0
  have g1 : decide (a0 ≤ a1) = false := decide_eq_false h1
  have g1g : decide (a1 ≥ a0) = false := decide_eq_false h1
  have g2 : decide (a2 < 0) = false := decide_eq_false h2
  have g3 : decide (a0 ≤ a2) = false := decide_eq_false h3
  have g3g : decide (a2 ≥ a0) = false := decide_eq_false h3
  clear hok h h0 h1 h2 h3
  have eg : ∀ args w, (callFunc 75 args).run Try.prog w = .ok (.enter 75 args) w := enters_of (P := Try.prog) Try.func75 (by kernel_rfl) rfl
  go_enter Try.func34, Try.ntmps34
  go_wp2_with (first
    | ((with_reducible refine gate_dst (N := 3) rfl ?_); (try (refine gate_guard (by rfl) ?_; dsimp only)); refine box_event ?hg (N := 3) ?hd (cs := #[.int .i64 a0]) (t := 3) ?hr ?_; (case hd => rfl); (case hg => rfl); (case hr => first | (go_simp; done) | (go_simp; rfl)); intro gb0 hg wb0 hbox hb; have BK0 := Aside0.mk (show Whole wb0 gb0 3 #[.int .i64 a0] from hbox); have BB0 := Aside0.mk hb; have cx0 : wb0.cell? ⟨gb0, 0, none⟩ = some (.int .i64 a0) := (Whole.cell BK0.out 0).trans rfl; clear hb hbox hg)
    | (go_at_call 70; (with_reducible refine (impl_isPaired.calls a0 true _ HOK.out).mono ?_); rintro e w5 ⟨rfl, hd⟩; have B5 := Aside0.mk (below_step BB0.out hd.below); have HD5 := Aside0.mk hd.below; have dx0 : w5.cell? ⟨gb0, 0, none⟩ = some (.int .i64 a0) := pw_cell_below hd.below cx0; clear hd cx0)
    | (go_at_call 45; (refine (impl_shortest.calls (fun x y => impl_ShortestFaro.s k a0 x y) 75 #[.pointer (some ⟨gb0, 0, none⟩)] eg k a1 a2 2 r1 r2 w5 (fun W x y z hb hz => impl_ShortestFaro.at_ k a0 x y z gb0 W (pw_cell_below hb dx0) hz) HS.out).mono ?_); rintro e w6 ⟨v6, rfl, ho, hb⟩; have HO := Aside0.mk (Kd.R_lower ho (below_size B5.out)); have B6 := Aside0.mk (below_step B5.out hb); clear ho hb))
  go_ret2
  exact ⟨_, rfl, HO.out, B6.out⟩
theorem impl_ShortestFaro.calls (k : Nat) (a0 a1 a2 : Int) (r1 : List Int) (r2 : Bool) (w : World) (h : impl_ShortestFaro.f k a0 a1 a2 = some (r1, r2)) :
    Calls Try.prog 34 #[.int .i64 a0, .int .i64 a1, .int .i64 a2] w fun e w' => ∃ v0_ : Value, e = .returned (.tuple #[v0_, .bool r2]) ∧ Kd.R (Kd.int .i64) 3 w' w.heap.size (fun _ => True) v0_ r1 ∧ Below w.heap.size w w' := by
  unfold impl_ShortestFaro.f at h
  obtain ⟨b, hok, h⟩ := Option.bind_eq_some_iff.mp h
  cases b with
  | false =>
    rw [if_neg (by decide)] at h
    simp only [Option.some.injEq, Prod.mk.injEq] at h
    obtain ⟨rfl, rfl⟩ := h
    exact impl_ShortestFaro.calls_0 a0 a1 a2 w hok
  | true =>
    rw [if_pos rfl] at h
    by_cases h0 : a1 < 0
    · rw [if_pos h0] at h
      simp only [Option.some.injEq, Prod.mk.injEq] at h
      obtain ⟨rfl, rfl⟩ := h
      exact impl_ShortestFaro.calls_1 a0 a1 a2 w hok h0
    rw [if_neg h0] at h
    by_cases h1 : a0 ≤ a1
    · rw [if_pos h1] at h
      simp only [Option.some.injEq, Prod.mk.injEq] at h
      obtain ⟨rfl, rfl⟩ := h
      exact impl_ShortestFaro.calls_2 a0 a1 a2 w hok h0 h1
    rw [if_neg h1] at h
    by_cases h2 : a2 < 0
    · rw [if_pos h2] at h
      simp only [Option.some.injEq, Prod.mk.injEq] at h
      obtain ⟨rfl, rfl⟩ := h
      exact impl_ShortestFaro.calls_3 a0 a1 a2 w hok h0 h1 h2
    rw [if_neg h2] at h
    by_cases h3 : a0 ≤ a2
    · rw [if_pos h3] at h
      simp only [Option.some.injEq, Prod.mk.injEq] at h
      obtain ⟨rfl, rfl⟩ := h
      exact impl_ShortestFaro.calls_4 a0 a1 a2 w hok h0 h1 h2 h3
    rw [if_neg h3] at h
    exact impl_ShortestFaro.calls_in k a0 a1 a2 r1 r2 w hok h0 h1 h2 h3 h
end Go.Proofs.Ytbeehklibkeecaa.F
end
section
/- Laid by a program of this claim's own. What the Go function does, as a Lean function, and the proof that the Go code does just that; Lean checks it. -/
namespace Go.Proofs.Ytbeehklibkeecaa.F
open Go.RowKit Go.Proofs.YtbeehklibkeecaaW.PrintWords Go.Proofs.YtbeehklibkeecaaW.PrintLast Go.Proofs.YtbeehklibkeecaaW.PrintMore
attribute [local go_sem] max2_int min2_int max_two min_two max_three min_three max_four min_four   -- for this text's walks alone
set_option linter.unusedVariables false
set_option linter.unusedSimpArgs false
/-! ### slices_IndexFunc_Lint_int: function 97 -/
/-- Where the first number stands at which p holds, from place i on; -1 if there is none. -/
def idxFrom (p : Int → Bool) : List Int → Int → Int
  | [], _ => -1
  | x :: xs, i => if p x then i else idxFrom p xs (i + 1)
theorem idxFrom_drop_nil (p : Int → Bool) (l : List Int) (j : Nat) (h : ¬ j < l.length) (i : Int) : idxFrom p (l.drop j) i = -1 := by
  rw [List.drop_eq_nil_of_le (by omega)]; rfl
theorem idxFrom_drop_yes (p : Int → Bool) (l : List Int) (j : Nat) (h : j < l.length) (i : Int) (hp : p (l.getD j 0) = true) : idxFrom p (l.drop j) i = i := by
  rw [List.drop_eq_getElem_cons h]
  rw [List.getD_eq_getElem?_getD, List.getElem?_eq_getElem h] at hp
  have hp' : p l[j] = true := hp
  unfold idxFrom
  rw [if_pos hp']
theorem idxFrom_drop_no (p : Int → Bool) (l : List Int) (j : Nat) (h : j < l.length) (i : Int) (hp : p (l.getD j 0) = false) : idxFrom p (l.drop j) i = idxFrom p (l.drop (j + 1)) (i + 1) := by
  rw [List.drop_eq_getElem_cons h]
  rw [List.getD_eq_getElem?_getD, List.getElem?_eq_getElem h] at hp
  have hp' : ¬ p l[j] = true := by
    have hp2 : p l[j] = false := hp
    rw [hp2]; decide
  conv => lhs; unfold idxFrom
  rw [if_neg hp']
set_option maxHeartbeats 8000000 in
set_option maxRecDepth 100000 in
theorem slices_IndexFunc_Lint_int.pred (p : Int → Bool) (g : Nat) (lb : Array Value) (eg : ∀ args w, (callFunc g args).run Try.prog w = .ok (.enter g args) w) (A0 : Option Addr) (c0 : Nat) (l0 : List Int) (w : World) (hr0 : Kd.C (Kd.int .i64) w A0 l0.length l0) (hc0 : l0.length ≤ c0)
    (hp : ∀ (W : World) (x : Int), Below w.heap.size w W → Calls Try.prog g (#[.int .i64 x] ++ lb) W fun e w' => e = .returned (.bool (p x)) ∧ Drawn0 W w') :
    Calls Try.prog 97 #[.slice A0 l0.length c0, .func (.func g) #[] lb] w fun e w' => e = .returned (.int .i64 (idxFrom p l0 0)) ∧ Drawn0 w w' := by
  have HR0 := Aside0.mk hr0
  have HC0 := Aside0.mk hc0
  have HP := Aside0.mk hp
  have hbig := hr0.2.1
  clear hr0 hc0 hp
  obtain ⟨R, hR⟩ : ∃ R : Int, R = idxFrom p l0 0 := ⟨_, rfl⟩
  rw [← hR]
  have HR := Aside0.mk hR
  clear hR
  go_enter Try.func97, Try.ntmps97
  go_wp2
  go_loopg [5, 8] (l0.length + 1) (fun kq _ v8 w' => ∃ (j : Nat), v8 = .int .i64 j ∧ Aside0 (j + kq = l0.length + 1) ∧ Aside0 (idxFrom p (l0.drop j) j = R) ∧ Drawn0 w w')
  case atStart => exact ⟨0, rfl, ⟨by omega⟩, ⟨HR.out.symm⟩, Drawn0.refl _⟩
  case round =>
    obtain ⟨j, rfl, HK, HA, ⟨m, rfl⟩⟩ := hrel
    by_cases hlt : j < l0.length
    · have hltz : (j : Int) < (l0.length : Int) := by omega
      obtain ⟨ad, ead, hx0⟩ := Kd.at_int HR0.out (j : Int) (by omega) hltz
      cases ead
      have hcell : w.cell? (ad.add j) = some (.int .i64 (rd l0 j)) := by simpa using hx0
      clear hx0
      have hcall := fun (q : Nat) => HP.out (w.drewN q) (rd l0 j) (pw_below_drewN (Below.refl _ w) _)
      have hrd : rd l0 (j : Int) = l0.getD j 0 := by unfold rd; simp
      have HL := Aside0.mk hlt
      have HRD := Aside0.mk hrd
      clear hrd hlt
      generalize rd l0 (j : Int) = y at hcell hcall HRD
      cases hq : p y with
      | true =>
        rw [hq] at hcall
        have hfin := HA.out
        rw [idxFrom_drop_yes p l0 j HL.out j (by rw [← HRD.out]; exact hq)] at hfin
        have HF := Aside0.mk hfin
        clear hfin hq
        go_wp2_with (go_at_fn g; refine (hcall _).mono ?_; rintro e w' ⟨rfl, ⟨nd, rfl⟩⟩)
        go_ret
        exact ⟨by (have e_ := HF.out; subst e_; rfl), by repeat (first | exact Drawn0.refl _ | apply Drawn0.step)⟩
      | false =>
        rw [hq] at hcall
        have HA2 := Aside0.mk ((idxFrom_drop_no p l0 j HL.out j (by rw [← HRD.out]; exact hq)).symm.trans HA.out)
        clear HA hq
        go_wp2_with (go_at_fn g; refine (hcall _).mono ?_; rintro e w' ⟨rfl, ⟨nd, rfl⟩⟩)
        go_roundg (l0.length - j)
        case measure => have := HK.out; have := HL.out; omega
        case rel => exact ⟨j + 1, by go_num, ⟨by have := HK.out; have := HL.out; omega⟩, ⟨HA2.out⟩, by repeat (first | exact Drawn0.refl _ | apply Drawn0.step)⟩
    · have hltz : ¬ (j : Int) < (l0.length : Int) := by omega
      have hfin := HA.out
      rw [idxFrom_drop_nil p l0 j hlt j] at hfin
      have HF := Aside0.mk hfin
      clear hlt hfin
      go_wp2
      go_ret
      exact ⟨by (have e_ := HF.out; subst e_; rfl), by repeat (first | exact Drawn0.refl _ | apply Drawn0.step)⟩
end Go.Proofs.Ytbeehklibkeecaa.F
end
section
/- Laid by a program of this claim's own. What the Go function does, as a Lean function, and the proof that the Go code does just that; Lean checks it. -/
namespace Go.Proofs.Ytbeehklibkeecaa.F
open Go.RowKit Go.Proofs.YtbeehklibkeecaaW.PrintWords Go.Proofs.YtbeehklibkeecaaW.PrintLast Go.Proofs.YtbeehklibkeecaaW.PrintMore
attribute [local go_sem] max2_int min2_int max_two min_two max_three min_three max_four min_four   -- for this text's walks alone
set_option linter.unusedVariables false
set_option linter.unusedSimpArgs false
/-! ### slices_ContainsFunc_Lint_int: function 95 -/
theorem idxFrom_any (p : Int → Bool) : ∀ (l : List Int) (i : Int), 0 ≤ i → (decide (idxFrom p l i ≥ 0) = l.any p) ∧ (decide (0 ≤ idxFrom p l i) = l.any p)
  | [], i, h => by simp [idxFrom]
  | x :: xs, i, h => by
    unfold idxFrom
    by_cases c : p x = true
    · simp [c, h]
    · simp only [c, if_false, List.any_cons, Bool.false_or]
      have := idxFrom_any p xs (i + 1) (by omega)
      simpa [c] using this
set_option maxHeartbeats 8000000 in
set_option maxRecDepth 100000 in
theorem slices_ContainsFunc_Lint_int.pred (p : Int → Bool) (g : Nat) (lb : Array Value) (eg : ∀ args w, (callFunc g args).run Try.prog w = .ok (.enter g args) w) (A0 : Option Addr) (c0 : Nat) (l0 : List Int) (w : World) (hr0 : Kd.C (Kd.int .i64) w A0 l0.length l0) (hc0 : l0.length ≤ c0)
    (hp : ∀ (W : World) (x : Int), Below w.heap.size w W → Calls Try.prog g (#[.int .i64 x] ++ lb) W fun e w' => e = .returned (.bool (p x)) ∧ Drawn0 W w') :
    Calls Try.prog 95 #[.slice A0 l0.length c0, .func (.func g) #[] lb] w fun e w' => e = .returned (.bool (l0.any p)) ∧ Drawn0 w w' := by
  obtain ⟨h1, h2⟩ := idxFrom_any p l0 0 (by omega)
  have HR0 := Aside0.mk hr0
  have HC0 := Aside0.mk hc0
  have HP := Aside0.mk hp
  clear hr0 hc0 hp
  rw [← h2]
  clear h1 h2
  go_enter Try.func95, Try.ntmps95
  go_wp2_with (go_at_call 97; (with_reducible refine (slices_IndexFunc_Lint_int.pred p g lb eg _ _ l0 _ ?side1 ?side2 ?side3).mono ?_); (case side1 => exact HR0.out); (case side2 => exact HC0.out); (case side3 => exact HP.out); rintro e w' ⟨rfl, ⟨nd, rfl⟩⟩)
  go_ret
  exact ⟨rfl, by repeat (first | exact Drawn0.refl _ | apply Drawn0.step)⟩
end Go.Proofs.Ytbeehklibkeecaa.F
end
