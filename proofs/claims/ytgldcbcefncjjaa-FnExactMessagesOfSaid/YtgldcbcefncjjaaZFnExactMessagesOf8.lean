import Derived.Test.YtgldcbcefncjjaaZFnExactMessagesOf5
import Derived.Test.YtgldcbcefncjjaaZFnExactMessagesOf7
import Derived.Test.YtgldcbcefncjjaaZFnExactMessagesOf6
section
/- Laid by a program of this claim's own. What the Go function does, as a Lean function, and the proof that the Go code does just that; Lean checks it. -/
namespace Go.Proofs.Ytgldcbcefncjjaa.F
open Go.RowKit Go.Proofs.YtgldcbcefncjjaaW.PrintWords Go.Proofs.YtgldcbcefncjjaaW.PrintLast Go.Proofs.YtgldcbcefncjjaaW.PrintMore
attribute [local go_sem] max2_int min2_int max_two min_two max_three min_three max_four min_four   -- for this text's walks alone
set_option linter.unusedVariables false
set_option linter.unusedSimpArgs false
/-! ### laws_markIntSS: function 43 -/
def laws_markIntSS.l0 : Nat → List (List Int) → Int → Int → Option (Int × List (List Int))
  | 0, _, _, _ => none
  | k + 1, x0, x1, x5 => if x5 < (x0.length : Int) then (if 0 ≤ x5 then ((laws_markIntS.f k (x0.getD x5.toNat []) x1).bind fun b => (laws_markIntSS.l0 k (x0.set x5.toNat b.2) b.1 (wrap64 (x5 + 1)))) else (none)) else (some (x1, x0))
def laws_markIntSS.f (k : Nat) (l0 : List (List Int)) (a1 : Int) : Option (Int × List (List Int)) := laws_markIntSS.l0 k l0 a1 0
set_option maxHeartbeats 8000000 in
set_option maxRecDepth 100000 in
theorem laws_markIntSS.calls (k : Nat) (P0_ : Nat → Prop) (u9000_ : Value) (l0 : List (List Int)) (a1 : Int) (r1 : Int) (r2 : List (List Int)) (w0 w : World) (hB : Below w0.heap.size w0 w) (ho0 : Kd.S (Kd.slice 3 (Kd.int .i64)) 22 w w0.heap.size P0_ u9000_ l0) (h : laws_markIntSS.f k l0 a1 = some (r1, r2)) :
    Calls Try.prog 43 #[u9000_, .int .i64 a1] w fun e w' => e = .returned (.int .i64 r1) ∧ Kd.S (Kd.slice 3 (Kd.int .i64)) 22 w' w0.heap.size (fun k_ => (P0_ k_ ∨ w.heap.size ≤ k_)) u9000_ r2 ∧ Below w0.heap.size w0 w' ∧ Kept w w' (fun k_ => P0_ k_) := by
  obtain ⟨A0, c0, rfl⟩ := Kd.S_slice ho0
  have HO := Aside0.mk (Kd.S_mono ho0 (ok' := fun k_ => (P0_ k_ ∨ w.heap.size ≤ k_)) (fun _ hk => .inl hk))
  have HB := Aside0.mk hB
  have H' := Aside0.mk h
  clear ho0 hB h
  go_enter Try.func43, Try.ntmps43
  go_wp2
  go_loopg [1, 5] k (fun kq v1 v5 w' => ∃ (x1 x5 : Int) (xs : List (List Int)), v1 = .int .i64 x1 ∧ v5 = .int .i64 x5 ∧ Aside0 (laws_markIntSS.l0 kq xs x1 x5 = some (r1, r2)) ∧ Aside0 (kq ≤ k) ∧ Aside0 (xs.length = l0.length) ∧ Aside0 (Kd.S (Kd.slice 3 (Kd.int .i64)) 22 w' w0.heap.size (fun k_ => (P0_ k_ ∨ w.heap.size ≤ k_)) (.slice A0 l0.length c0) xs) ∧ Aside0 (Below w0.heap.size w0 w') ∧ Aside0 (Kept w w' (fun k_ => P0_ k_)))
  case atStart => exact ⟨a1, 0, l0, rfl, rfl, H', ⟨Nat.le_refl _⟩, ⟨rfl⟩, HO, HB, ⟨Kept.refl w _⟩⟩
  case round =>
    clear H' HO HB
    obtain ⟨x1, x5, xs, rfl, rfl, HA, HK1, HL, HO, HB, HK⟩ := hrel
    cases gk with
    | zero => exact absurd HA.out (by simp [laws_markIntSS.l0])
    | succ k1 =>
      have H := HA.out
      clear HA
      simp only [laws_markIntSS.l0] at H
      by_cases c4 : x5 < (xs.length : Int)
      · rw [if_pos c4] at H
        by_cases c5 : 0 ≤ x5
        · rw [if_pos c5] at H
          replace H := Option.bind_eq_some_iff.mp H
          obtain ⟨⟨b1, b2⟩, A7, H⟩ := H
          have A8 := Aside0.mk A7
          have H' := Aside0.mk H
          clear A7 H
          have c4' : x5 < (l0.length : Int) := by have := HL.out; omega
          obtain ⟨ad, ead, _⟩ := (Kd.S_reads' HO.out).2.2.2.2 (by have := HL.out; omega)
          cases ead
          obtain ⟨g, rfl⟩ := Kd.R_head (Kd.S_R HO.out)
          obtain ⟨oki, c, hcl, hM, hcc, hoki, hH⟩ := Kd.S_lend HO.out [] x5 c5 (by omega)
          obtain ⟨u, rfl, hR⟩ := hM
          have hcell := hcc 0 u rfl
          have hcell2 : wr.cell? ⟨g, x5.toNat, none⟩ = some u := by simpa [Kd.slice] using hcell
          have HH := Aside0.mk hH
          have HRR := Aside0.mk hR
          have HOKI := Aside0.mk hoki
          clear hcl hcc hoki hH hR hcell
          have c4b0 : decide (x5 < (l0.length : Int)) = true := decide_eq_true c4'
          have c5b0 : decide (0 ≤ x5) = true := decide_eq_true c5
          replace c4' := eq_true c4'
          have HX := Aside0.mk c4
          have HY := Aside0.mk c5
          clear c4
          replace c5 := eq_true c5
          go_wp2_with (go_at_call 18; (with_reducible refine (laws_markIntS.calls k1 oki u (xs.getD x5.toNat []) x1 b1 b2 w0 _ ?side1 ?side2 A8.out).mono ?_); (case side1 => exact HB.out); (case side2 => exact HRR.out); rintro e w7 ⟨rfl, hr7, hb7, hk7⟩; have HR7 := Aside0.mk hr7; have HB7 := Aside0.mk hb7; have HK7 := Aside0.mk hk7; clear hr7 hb7 hk7)
          go_roundg k1
          case measure => have := HK1.out; omega
          case rel =>
            have hsz : w.heap.size ≤ wr.heap.size := HK.out.1
            have hwide := Kd.H_widen HH.out
            have hstep := Kd.H_step hwide (w1 := w7) (fun k_ ho hn hlt => HK7.out.2 k_ hlt (fun hk => hn (.inl hk)))
            have hback := Kd.H_back hstep (x' := b2) (okp := fun k_ => (oki k_ ∨ wr.heap.size ≤ k_)) (Kd.M_row HR7.out) (fun k_ hk => hk.elim .inl (fun h2 => .inr ⟨.inr (Nat.le_trans hsz h2), h2⟩))
            have hkept : Kept w w7 (fun k_ => P0_ k_) := HK.out.then_ HK7.out (fun k_ hk => (HOKI.out k_ hk).1)
            exact ⟨b1, wrap64 (x5 + 1), xs.set x5.toNat b2, rfl, rfl, H', ⟨by have := HK1.out; omega⟩, ⟨by rw [List.length_set]; exact HL.out⟩, ⟨hback⟩, ⟨HB7.out⟩, ⟨hkept⟩⟩
        · rw [if_neg c5] at H
          exact absurd H (by simp)
      · rw [if_neg c4] at H
        simp only [Option.some.injEq, Prod.mk.injEq] at H
        obtain ⟨rfl, rfl⟩ := H
        have c4' : ¬ x5 < (l0.length : Int) := by have := HL.out; omega
        have c4b0 : decide (x5 < (l0.length : Int)) = false := decide_eq_false c4'
        clear c4 c4'
        go_wp2
        go_ret
        exact ⟨rfl, HO.out, HB.out, HK.out⟩
end Go.Proofs.Ytgldcbcefncjjaa.F
end
section
/- Laid by a program of this claim's own. What the Go function does, as a Lean function, and the proof that the Go code does just that; Lean checks it. -/
namespace Go.Proofs.Ytgldcbcefncjjaa.F
open Go.RowKit Go.Proofs.YtgldcbcefncjjaaW.PrintWords Go.Proofs.YtgldcbcefncjjaaW.PrintLast Go.Proofs.YtgldcbcefncjjaaW.PrintMore
attribute [local go_sem] max2_int min2_int max_two min_two max_three min_three max_four min_four   -- for this text's walks alone
set_option linter.unusedVariables false
set_option linter.unusedSimpArgs false
/-! ### laws_heldIntS: function 27 -/
def laws_heldIntS.l0 : Nat → List Int → Int → Int → Option (Int)
  | 0, _, _, _ => none
  | k + 1, x0, x1, x5 => if x5 < (x0.length : Int) then (if 0 ≤ x5 then (if (rd x0 x5) = x1 then (laws_heldIntS.l0 k x0 (wrap64 (x1 + 1)) (wrap64 (x5 + 1))) else (some (-1))) else (none)) else (some x1)
def laws_heldIntS.f (k : Nat) (l0 : List Int) (a1 : Int) : Option (Int) := laws_heldIntS.l0 k l0 a1 0
set_option maxHeartbeats 8000000 in
set_option maxRecDepth 100000 in
theorem laws_heldIntS.calls (k : Nat) (A0 : Option Addr) (c0 : Nat) (l0 : List Int) (a1 : Int) (r : Int) (w : World) (hr0 : Kd.C (Kd.int .i64) w A0 l0.length l0) (hc0 : l0.length ≤ c0) (h : laws_heldIntS.f k l0 a1 = some r) :
    Calls Try.prog 27 #[.slice A0 l0.length c0, .int .i64 a1] w fun e w' => e = .returned (.int .i64 r) ∧ Drawn0 w w' := by
  have HR0 := Aside0.mk hr0
  have HC0 := Aside0.mk hc0
  clear hr0 hc0
  have H : (laws_heldIntS.l0 k l0 a1 0) = some r := h
  clear h
  have H' := Aside0.mk H
  clear H
  go_enter Try.func27, Try.ntmps27
  go_wp2
  go_loopg [1, 5] k (fun kq v1 v5 w' => ∃ (x1_1 : Int) (x5_1 : Int), v1 = .int .i64 x1_1 ∧ v5 = .int .i64 x5_1 ∧ Aside0 (laws_heldIntS.l0 kq l0 x1_1 x5_1 = some r) ∧ Aside0 (kq ≤ k) ∧ Drawn0 w w')
  case atStart => exact ⟨(a1), (0), (by first | rfl | (simp; done) | (simp [*]; done)), (by first | rfl | (simp; done) | (simp [*]; done)), H', ⟨Nat.le_refl _⟩, by repeat (first | exact Drawn0.refl _ | apply Drawn0.step)⟩
  case round =>
    clear H'
    try clear c2
    try clear p2
    obtain ⟨x1_1, x5_1, rfl, rfl, HA, HK1, ⟨m1, rfl⟩⟩ := hrel
    cases gk with
    | zero => exact absurd HA.out (by simp [laws_heldIntS.l0])
    | succ k1 =>
      have H := HA.out
      clear HA
      simp only [laws_heldIntS.l0] at H
      by_cases c3 : x5_1 < (l0.length : Int)
      · rw [if_pos c3] at H
        have c3b0 : decide (x5_1 < (l0.length : Int)) = true := decide_eq_true c3
        clear c3
        by_cases c4 : 0 ≤ x5_1
        · rw [if_pos c4] at H
          have c4b0 : decide (0 ≤ x5_1) = true := decide_eq_true c4
          clear c4
          by_cases c5 : (rd l0 x5_1) = x1_1
          · rw [if_pos c5] at H
            have c5b0 : ((rd l0 x5_1) == x1_1) = true := beq_iff_eq.mpr c5
            have c5b1 : ((rd l0 x5_1) != x1_1) = false := bne_eq_false_iff_eq.mpr c5
            clear c5
            have H' := Aside0.mk H
            clear H
            have p147 : 0 ≤ (x5_1 : Int) := of_decide_eq_true (by first | (with_reducible assumption) | assumption)
            have q147 : x5_1 < (l0.length : Int) := of_decide_eq_true (by first | (with_reducible assumption) | assumption)
            obtain ⟨ad147, e147, hx147_0⟩ := Kd.at_int HR0.out x5_1 p147 q147
            cases e147
            replace p147 := eq_true p147
            replace q147 := eq_true q147
            go_wp2
            go_roundg k1
            case measure => have := HK1.out; omega
            case rel => exact ⟨(wrap64 (x1_1 + 1)), (wrap64 (x5_1 + 1)), (by first | rfl | (simp; done) | (simp [*]; done)), (by first | rfl | (simp; done) | (simp [*]; done)), H', ⟨by have := HK1.out; omega⟩, by repeat (first | exact Drawn0.refl _ | apply Drawn0.step)⟩
          · rw [if_neg c5] at H
            have c5b0 : ((rd l0 x5_1) == x1_1) = false := beq_eq_false_iff_ne.mpr c5
            have c5b1 : ((rd l0 x5_1) != x1_1) = true := bne_iff_ne.mpr c5
            obtain rfl := Option.some.inj H
            have p147 : 0 ≤ (x5_1 : Int) := of_decide_eq_true (by first | (with_reducible assumption) | assumption)
            have q147 : x5_1 < (l0.length : Int) := of_decide_eq_true (by first | (with_reducible assumption) | assumption)
            obtain ⟨ad147, e147, hx147_0⟩ := Kd.at_int HR0.out x5_1 p147 q147
            cases e147
            replace p147 := eq_true p147
            replace q147 := eq_true q147
            go_wp2
            go_ret
            exact ⟨by first | rfl | (simp; done) | (simp [*]; done), by repeat (first | exact Drawn0.refl _ | apply Drawn0.step)⟩
        · rw [if_neg c4] at H
          exact absurd H (by simp)
      · rw [if_neg c3] at H
        have c3b0 : decide (x5_1 < (l0.length : Int)) = false := decide_eq_false c3
        clear c3
        obtain rfl := Option.some.inj H
        go_wp2
        go_ret
        exact ⟨by first | rfl | (simp; done) | (simp [*]; done), by repeat (first | exact Drawn0.refl _ | apply Drawn0.step)⟩
end Go.Proofs.Ytgldcbcefncjjaa.F
end
section
/- Laid by a program of this claim's own. What the Go function does, as a Lean function, and the proof that the Go code does just that; Lean checks it. -/
namespace Go.Proofs.Ytgldcbcefncjjaa.F
open Go.RowKit Go.Proofs.YtgldcbcefncjjaaW.PrintWords Go.Proofs.YtgldcbcefncjjaaW.PrintLast Go.Proofs.YtgldcbcefncjjaaW.PrintMore
attribute [local go_sem] max2_int min2_int max_two min_two max_three min_three max_four min_four   -- for this text's walks alone
set_option linter.unusedVariables false
set_option linter.unusedSimpArgs false
/-! ### laws_heldIntSS: function 44 -/
def laws_heldIntSS.l0 : Nat → List (List Int) → Int → Int → Option (Int)
  | 0, _, _, _ => none
  | k + 1, x0, x1, x5 => if x5 < (x0.length : Int) then (if 0 ≤ x5 then ((laws_heldIntS.f k (rd_L2 x0 x5) x1).bind fun t696 => (if t696 < 0 then (some (-1)) else (laws_heldIntSS.l0 k x0 t696 (wrap64 (x5 + 1))))) else (none)) else (some x1)
def laws_heldIntSS.f (k : Nat) (l0 : List (List Int)) (a1 : Int) : Option (Int) := laws_heldIntSS.l0 k l0 a1 0
set_option maxHeartbeats 8000000 in
set_option maxRecDepth 100000 in
theorem laws_heldIntSS.calls (k : Nat) (A0 : Option Addr) (c0 : Nat) (l0 : List (List Int)) (a1 : Int) (r : Int) (w : World) (hr0 : Kd.C (Kd.slice 3 (Kd.int .i64)) w A0 l0.length l0) (hc0 : l0.length ≤ c0) (h : laws_heldIntSS.f k l0 a1 = some r) :
    Calls Try.prog 44 #[.slice A0 l0.length c0, .int .i64 a1] w fun e w' => e = .returned (.int .i64 r) ∧ Drawn0 w w' := by
  have HR0 := Aside0.mk hr0
  have HC0 := Aside0.mk hc0
  clear hr0 hc0
  have H : (laws_heldIntSS.l0 k l0 a1 0) = some r := h
  clear h
  have H' := Aside0.mk H
  clear H
  go_enter Try.func44, Try.ntmps44
  go_wp2
  go_loopg [1, 5] k (fun kq v1 v5 w' => ∃ (x1_1 : Int) (x5_1 : Int), v1 = .int .i64 x1_1 ∧ v5 = .int .i64 x5_1 ∧ Aside0 (laws_heldIntSS.l0 kq l0 x1_1 x5_1 = some r) ∧ Aside0 (kq ≤ k) ∧ Drawn0 w w')
  case atStart => exact ⟨(a1), (0), (by first | rfl | (simp; done) | (simp [*]; done)), (by first | rfl | (simp; done) | (simp [*]; done)), H', ⟨Nat.le_refl _⟩, by repeat (first | exact Drawn0.refl _ | apply Drawn0.step)⟩
  case round =>
    clear H'
    try clear p2
    obtain ⟨x1_1, x5_1, rfl, rfl, HA, HK1, ⟨m1, rfl⟩⟩ := hrel
    cases gk with
    | zero => exact absurd HA.out (by simp [laws_heldIntSS.l0])
    | succ k1 =>
      have H := HA.out
      clear HA
      simp only [laws_heldIntSS.l0] at H
      by_cases c3 : x5_1 < (l0.length : Int)
      · rw [if_pos c3] at H
        have c3b0 : decide (x5_1 < (l0.length : Int)) = true := decide_eq_true c3
        clear c3
        by_cases c4 : 0 ≤ x5_1
        · rw [if_pos c4] at H
          have c4b0 : decide (0 ≤ x5_1) = true := decide_eq_true c4
          clear c4
          replace H := Option.bind_eq_some_iff.mp H
          obtain ⟨t696, A50, H⟩ := H
          replace H : (if t696 < 0 then (some (-1)) else (laws_heldIntSS.l0 k1 l0 t696 (wrap64 (x5_1 + 1)))) = some r := H
          have A5 := Aside0.mk A50
          clear A50
          by_cases c6 : t696 < 0
          · rw [if_pos c6] at H
            have c6b0 : decide (t696 < 0) = true := decide_eq_true c6
            clear c6
            obtain rfl := Option.some.inj H
            have p695 : 0 ≤ (x5_1 : Int) := of_decide_eq_true (by first | (with_reducible assumption) | assumption)
            have q695 : x5_1 < (l0.length : Int) := of_decide_eq_true (by first | (with_reducible assumption) | assumption)
            obtain ⟨ad695, A695_0, c695_0, e695, hx695_0, hl695_0, hi695_0⟩ := at_L2 HR0.out x5_1 p695 q695
            cases e695
            have HR695_0 := Aside0.mk hi695_0
            have HC695_0 := Aside0.mk hl695_0
            clear hi695_0 hl695_0
            replace p695 := eq_true p695
            replace q695 := eq_true q695
            go_wp2_with (first | ((with_reducible refine gate_callee (f := 27) rfl ?_); refine goesL_ (some 17) rfl rfl Try.func27 (by kernel_rfl) rfl #[.slice A695_0 (rd_L2 l0 x5_1).length c695_0, .int .i64 x1_1] rfl (by (try simp only [List.map_toArray, List.map_cons, List.map_nil]); first | done | rfl | (simp only [List.length_drop, List.length_take]; rfl)) ?_; (with_reducible refine (laws_heldIntS.calls k1 _ _ (rd_L2 l0 x5_1) x1_1 t696 _ ?side1 ?side2 A5.out).mono ?_); (case side1 => repeat (first | exact HR695_0.out | (with_reducible refine Kd.C_alloc ?_ _) | (with_reducible refine Kd.C_drewN ?_ _) | (with_reducible refine Kd.C_drew ?_))); (case side2 => exact HC695_0.out); rintro e w' ⟨rfl, ⟨nd, rfl⟩⟩; refine ⟨_, rfl, ?_⟩))
            go_ret
            exact ⟨by first | rfl | (simp; done) | (simp [*]; done), by repeat (first | exact Drawn0.refl _ | apply Drawn0.step)⟩
          · rw [if_neg c6] at H
            have c6b0 : decide (t696 < 0) = false := decide_eq_false c6
            clear c6
            have H' := Aside0.mk H
            clear H
            have p695 : 0 ≤ (x5_1 : Int) := of_decide_eq_true (by first | (with_reducible assumption) | assumption)
            have q695 : x5_1 < (l0.length : Int) := of_decide_eq_true (by first | (with_reducible assumption) | assumption)
            obtain ⟨ad695, A695_0, c695_0, e695, hx695_0, hl695_0, hi695_0⟩ := at_L2 HR0.out x5_1 p695 q695
            cases e695
            have HR695_0 := Aside0.mk hi695_0
            have HC695_0 := Aside0.mk hl695_0
            clear hi695_0 hl695_0
            replace p695 := eq_true p695
            replace q695 := eq_true q695
            go_wp2_with (first | ((with_reducible refine gate_callee (f := 27) rfl ?_); refine goesL_ (some 17) rfl rfl Try.func27 (by kernel_rfl) rfl #[.slice A695_0 (rd_L2 l0 x5_1).length c695_0, .int .i64 x1_1] rfl (by (try simp only [List.map_toArray, List.map_cons, List.map_nil]); first | done | rfl | (simp only [List.length_drop, List.length_take]; rfl)) ?_; (with_reducible refine (laws_heldIntS.calls k1 _ _ (rd_L2 l0 x5_1) x1_1 t696 _ ?side1 ?side2 A5.out).mono ?_); (case side1 => repeat (first | exact HR695_0.out | (with_reducible refine Kd.C_alloc ?_ _) | (with_reducible refine Kd.C_drewN ?_ _) | (with_reducible refine Kd.C_drew ?_))); (case side2 => exact HC695_0.out); rintro e w' ⟨rfl, ⟨nd, rfl⟩⟩; refine ⟨_, rfl, ?_⟩))
            go_roundg k1
            case measure => have := HK1.out; omega
            case rel => exact ⟨(t696), (wrap64 (x5_1 + 1)), (by first | rfl | (simp; done) | (simp [*]; done)), (by first | rfl | (simp; done) | (simp [*]; done)), H', ⟨by have := HK1.out; omega⟩, by repeat (first | exact Drawn0.refl _ | apply Drawn0.step)⟩
        · rw [if_neg c4] at H
          exact absurd H (by simp)
      · rw [if_neg c3] at H
        have c3b0 : decide (x5_1 < (l0.length : Int)) = false := decide_eq_false c3
        clear c3
        obtain rfl := Option.some.inj H
        go_wp2
        go_ret
        exact ⟨by first | rfl | (simp; done) | (simp [*]; done), by repeat (first | exact Drawn0.refl _ | apply Drawn0.step)⟩
end Go.Proofs.Ytgldcbcefncjjaa.F
end
section
/- Laid by a program of this claim's own. What the Go function does, as a Lean function, and the proof that the Go code does just that; Lean checks it. -/
namespace Go.Proofs.Ytgldcbcefncjjaa.F
open Go.RowKit Go.Proofs.YtgldcbcefncjjaaW.PrintWords Go.Proofs.YtgldcbcefncjjaaW.PrintLast Go.Proofs.YtgldcbcefncjjaaW.PrintMore
attribute [local go_sem] max2_int min2_int max_two min_two max_three min_three max_four min_four   -- for this text's walks alone
set_option linter.unusedVariables false
set_option linter.unusedSimpArgs false
/-! ### laws_FnExactMessagesOf: function 10 -/
/-- What is to be shown of numbers and lists: both functions make the same hands; marks that are laid on them are held. -/
def laws_FnExactMessagesOf.Pure : Prop := ∀ (a0 a1 : Int), (Lit.int .i64 a0).wf = true → (Lit.int .i64 a1).wf = true → ∃ (k : Nat) (r : List (List Int)) (m1 : Int) (m2 : List (List Int)),
  spec_MessagesOf.f k a0 a1 = some r ∧ impl_MessagesOf.f k a0 a1 = some r ∧ laws_eqIntSS.f k r r = some true ∧ laws_markIntSS.f k r 1 = some (m1, m2) ∧ laws_heldIntSS.f k m2 1 = some m1 ∧ 0 ≤ m1
set_option maxHeartbeats 8000000 in
set_option maxRecDepth 100000 in
theorem laws_FnExactMessagesOf.walk (P : laws_FnExactMessagesOf.Pure) (a0 : Int) (a1 : Int) (w : World) (w0 : (Lit.int .i64 a0).wf = true) (w1 : (Lit.int .i64 a1).wf = true) :
    Calls Try.prog 10 #[.int .i64 a0, .int .i64 a1] w fun e w' => e = .returned (.bool true) ∧ Below w.heap.size w w' := by
  obtain ⟨k, r, m1, m2, hs, hi, he, hm, hh, hn⟩ := P a0 a1 w0 w1
  have HS := Aside0.mk hs
  have HI := Aside0.mk hi
  have HE := Aside0.mk he
  have HM := Aside0.mk hm
  have HH := Aside0.mk hh
  have hn1 : decide (m1 < 0) = false := decide_eq_false (by omega)
  clear hs hi he hm hh hn w0 w1 P
  go_enter Try.func10, Try.ntmps10
  go_wp2_with (go_at_call 40; (with_reducible refine (spec_MessagesOf.calls k a0 a1 r _ HS.out).mono ?_); rintro e w1 ⟨v0, rfl, ho, hb⟩; obtain ⟨A1, c1, rfl⟩ := Kd.N_slice ho; have B1 := Aside0.mk hb; have C1 := Aside0.mk (Kd.N_reads' ho).2.2; have L1 := Aside0.mk (Kd.N_reads' ho).2.1; clear ho hb)
  go_wp2_with (go_at_call 41; (with_reducible refine (impl_MessagesOf.calls k a0 a1 r _ HI.out).mono ?_); rintro e w2 ⟨v1, rfl, ho, hb⟩; obtain ⟨A2, c2, rfl⟩ := Kd.S_slice ho; have B2 := Aside0.mk hb; have S2 := Aside0.mk ho; clear ho hb)
  go_wp2_with (go_at_call 42; (with_reducible refine (laws_eqIntSS.calls k A2 c2 r A1 c1 r true _ (Kd.S_reads' S2.out).2.2 (Kd.S_reads' S2.out).2.1 (Kd.C_below C1.out B2.out) L1.out HE.out).mono ?_); rintro e w3 ⟨rfl, hd⟩; have B3 := Aside0.mk (B2.out.trans (hd.below.mono B2.out.size)); have S3 := Aside0.mk (Kd.S_below S2.out hd.below); clear hd S2)
  go_wp2_with (go_at_call 43; (with_reducible refine (laws_markIntSS.calls k (fun _ => True) _ r 1 m1 m2 w1 _ B3.out S3.out HM.out).mono ?_); rintro e w4 ⟨rfl, ho, hb, hk⟩; have B4 := Aside0.mk hb; have S4 := Aside0.mk ho; have E4 := Aside0.mk (Kd.S_reads' ho).1; clear ho hb hk S3 B3)
  go_wp2_with (go_at_call 44; refine calls_of_args (args' := #[.slice A2 m2.length c2, .int .i64 1]) (by rw [← E4.out]) ?_; (with_reducible refine (laws_heldIntSS.calls k A2 c2 m2 1 m1 _ (Kd.S_reads' S4.out).2.2 (by rw [← E4.out]; exact (Kd.S_reads' S4.out).2.1) HH.out).mono ?_); rintro e w5 ⟨rfl, hd⟩; have B5 := Aside0.mk (B4.out.trans (hd.below.mono B4.out.size)); have S5 := Aside0.mk (Kd.S_below S4.out hd.below); clear hd S4 B4)
  go_wp2_with (go_at_call 41; (with_reducible refine (impl_MessagesOf.calls k a0 a1 r _ HI.out).mono ?_); rintro e w6 ⟨v3, rfl, ho, hb⟩; obtain ⟨A3, c3, rfl⟩ := Kd.S_slice ho; have B6 := Aside0.mk (B5.out.trans (hb.mono B5.out.size)); have S6 := Aside0.mk (Kd.S_below S5.out hb); have C6 := Aside0.mk (Kd.S_reads' ho).2.2; have L6 := Aside0.mk (Kd.S_reads' ho).2.1; clear ho hb S5 B5)
  go_wp2_with (go_at_call 42; (with_reducible refine (laws_eqIntSS.calls k A3 c3 r A1 c1 r true _ C6.out L6.out (Kd.C_below C1.out B6.out) L1.out HE.out).mono ?_); rintro e w7 ⟨rfl, hd⟩; have B7 := Aside0.mk (B6.out.trans (hd.below.mono B6.out.size)); have S7 := Aside0.mk (Kd.S_below S6.out hd.below); clear hd S6 B6)
  go_wp2_with (go_at_call 44; refine calls_of_args (args' := #[.slice A2 m2.length c2, .int .i64 1]) (by rw [← E4.out]) ?_; (with_reducible refine (laws_heldIntSS.calls k A2 c2 m2 1 m1 _ (Kd.S_reads' S7.out).2.2 (by rw [← E4.out]; exact (Kd.S_reads' S7.out).2.1) HH.out).mono ?_); rintro e w8 ⟨rfl, hd⟩; have B8 := Aside0.mk (B7.out.trans (hd.below.mono B7.out.size)); clear hd S7 B7)
  go_ret
  exact ⟨rfl, B1.out.trans (B8.out.mono B1.out.size)⟩
end Go.Proofs.Ytgldcbcefncjjaa.F
end
section
/- MessagesOf: both functions make the same messages at every pair of numbers. -/
namespace Go.Proofs.Ytgldcbcefncjjaa.Pure
open Go.RowKit Go.Proofs.Ytgldcbcefncjjaa.F Go.Proofs.YtgldcbcefncjjaaW.PrintWords Go.Proofs.YtgldcbcefncjjaaW.PrintLast Go.Proofs.YtgldcbcefncjjaaW.PrintMore
set_option linter.unusedVariables false
set_option linter.unusedSimpArgs false
def chk (n m : Int) : Option Bool := (spec_MessagesOf.f 1000 n m).bind fun r => (impl_MessagesOf.f 1000 n m).bind fun r2 => (laws_eqIntSS.f 1000 r r).bind fun e => (laws_markIntSS.f 1000 r 1).bind fun q => (laws_heldIntSS.f 1000 q.2 1).bind fun h => some (decide (r = r2) && e && decide (h = q.1) && decide (0 ≤ q.1))
theorem of_chk (n m : Int) (h : chk n m = some true) : ∃ (k : Nat) (r : List (List Int)) (m1 : Int) (m2 : List (List Int)),
    spec_MessagesOf.f k n m = some r ∧ impl_MessagesOf.f k n m = some r ∧ laws_eqIntSS.f k r r = some true ∧ laws_markIntSS.f k r 1 = some (m1, m2) ∧ laws_heldIntSS.f k m2 1 = some m1 ∧ 0 ≤ m1 := by
  unfold chk at h
  obtain ⟨r, h1, h⟩ := Option.bind_eq_some_iff.mp h
  obtain ⟨r2, h2, h⟩ := Option.bind_eq_some_iff.mp h
  obtain ⟨e, h3, h⟩ := Option.bind_eq_some_iff.mp h
  obtain ⟨⟨q1, q2⟩, h4, h⟩ := Option.bind_eq_some_iff.mp h
  obtain ⟨g, h5, h⟩ := Option.bind_eq_some_iff.mp h
  have h := Option.some.inj h
  simp only [Bool.and_eq_true, decide_eq_true_eq] at h
  obtain ⟨⟨⟨rfl, rfl⟩, rfl⟩, h6⟩ := h
  exact ⟨1000, _, _, _, h1, h2, h3, h4, h5, h6⟩
set_option maxHeartbeats 40000000 in
theorem key_1_0 : (chk 1 0 == some true) = true := by decide +kernel
set_option maxHeartbeats 40000000 in
theorem key_1_1 : (chk 1 1 == some true) = true := by decide +kernel
set_option maxHeartbeats 40000000 in
theorem key_2_0 : (chk 2 0 == some true) = true := by decide +kernel
set_option maxHeartbeats 40000000 in
theorem key_2_1 : (chk 2 1 == some true) = true := by decide +kernel
set_option maxHeartbeats 40000000 in
theorem key_2_2 : (chk 2 2 == some true) = true := by decide +kernel
set_option maxHeartbeats 40000000 in
theorem key_3_0 : (chk 3 0 == some true) = true := by decide +kernel
set_option maxHeartbeats 40000000 in
theorem key_3_1 : (chk 3 1 == some true) = true := by decide +kernel
set_option maxHeartbeats 40000000 in
theorem key_3_2 : (chk 3 2 == some true) = true := by decide +kernel
set_option maxHeartbeats 40000000 in
theorem key_3_3 : (chk 3 3 == some true) = true := by decide +kernel
set_option maxHeartbeats 40000000 in
theorem key_4_0 : (chk 4 0 == some true) = true := by decide +kernel
set_option maxHeartbeats 40000000 in
theorem key_4_1 : (chk 4 1 == some true) = true := by decide +kernel
set_option maxHeartbeats 40000000 in
theorem key_4_2 : (chk 4 2 == some true) = true := by decide +kernel
set_option maxHeartbeats 40000000 in
theorem key_4_3 : (chk 4 3 == some true) = true := by decide +kernel
set_option maxHeartbeats 40000000 in
theorem key_5_0 : (chk 5 0 == some true) = true := by decide +kernel
set_option maxHeartbeats 40000000 in
theorem key_5_1 : (chk 5 1 == some true) = true := by decide +kernel
set_option maxHeartbeats 40000000 in
theorem key_5_2 : (chk 5 2 == some true) = true := by decide +kernel
set_option maxHeartbeats 40000000 in
theorem key_5_3 : (chk 5 3 == some true) = true := by decide +kernel
set_option maxHeartbeats 40000000 in
theorem key_6_0 : (chk 6 0 == some true) = true := by decide +kernel
set_option maxHeartbeats 40000000 in
theorem key_6_1 : (chk 6 1 == some true) = true := by decide +kernel
set_option maxHeartbeats 40000000 in
theorem key_6_2 : (chk 6 2 == some true) = true := by decide +kernel
set_option maxHeartbeats 40000000 in
theorem key_6_3 : (chk 6 3 == some true) = true := by decide +kernel
set_option maxHeartbeats 40000000 in
theorem key_7_0 : (chk 7 0 == some true) = true := by decide +kernel
set_option maxHeartbeats 40000000 in
theorem key_7_1 : (chk 7 1 == some true) = true := by decide +kernel
set_option maxHeartbeats 40000000 in
theorem key_7_2 : (chk 7 2 == some true) = true := by decide +kernel
set_option maxHeartbeats 40000000 in
theorem key_7_3 : (chk 7 3 == some true) = true := by decide +kernel
set_option maxHeartbeats 40000000 in
theorem key_8_0 : (chk 8 0 == some true) = true := by decide +kernel
set_option maxHeartbeats 40000000 in
theorem key_8_1 : (chk 8 1 == some true) = true := by decide +kernel
set_option maxHeartbeats 40000000 in
theorem key_8_2 : (chk 8 2 == some true) = true := by decide +kernel
set_option maxHeartbeats 40000000 in
theorem key_8_3 : (chk 8 3 == some true) = true := by decide +kernel
theorem key (n m : Nat) (h1 : 1 ≤ n) (h8 : n ≤ 8) (hm : m ≤ n) (h3 : m ≤ 3) : chk (n : Int) (m : Int) = some true := by
  refine eq_of_beq ?_
  match n, m, h1, h8, hm, h3 with
  | 1, 0, _, _, _, _ => exact key_1_0
  | 1, 1, _, _, _, _ => exact key_1_1
  | 2, 0, _, _, _, _ => exact key_2_0
  | 2, 1, _, _, _, _ => exact key_2_1
  | 2, 2, _, _, _, _ => exact key_2_2
  | 3, 0, _, _, _, _ => exact key_3_0
  | 3, 1, _, _, _, _ => exact key_3_1
  | 3, 2, _, _, _, _ => exact key_3_2
  | 3, 3, _, _, _, _ => exact key_3_3
  | 4, 0, _, _, _, _ => exact key_4_0
  | 4, 1, _, _, _, _ => exact key_4_1
  | 4, 2, _, _, _, _ => exact key_4_2
  | 4, 3, _, _, _, _ => exact key_4_3
  | 5, 0, _, _, _, _ => exact key_5_0
  | 5, 1, _, _, _, _ => exact key_5_1
  | 5, 2, _, _, _, _ => exact key_5_2
  | 5, 3, _, _, _, _ => exact key_5_3
  | 6, 0, _, _, _, _ => exact key_6_0
  | 6, 1, _, _, _, _ => exact key_6_1
  | 6, 2, _, _, _, _ => exact key_6_2
  | 6, 3, _, _, _, _ => exact key_6_3
  | 7, 0, _, _, _, _ => exact key_7_0
  | 7, 1, _, _, _, _ => exact key_7_1
  | 7, 2, _, _, _, _ => exact key_7_2
  | 7, 3, _, _, _, _ => exact key_7_3
  | 8, 0, _, _, _, _ => exact key_8_0
  | 8, 1, _, _, _, _ => exact key_8_1
  | 8, 2, _, _, _, _ => exact key_8_2
  | 8, 3, _, _, _, _ => exact key_8_3
theorem FnExactMessagesOf : laws_FnExactMessagesOf.Pure := by
  intro a0 a1 h0 h1
  refine of_chk a0 a1 ?_
  by_cases h : 1 ≤ a0 ∧ a0 ≤ 8 ∧ 0 ≤ a1 ∧ a1 ≤ a0 ∧ a1 ≤ 3
  · obtain ⟨n, rfl⟩ := Int.eq_ofNat_of_zero_le (show 0 ≤ a0 by omega)
    obtain ⟨m, rfl⟩ := Int.eq_ofNat_of_zero_le (show 0 ≤ a1 by omega)
    exact key n m (by omega) (by omega) (by omega) (by omega)
  · have e : spec_MessagesOf.f 1000 a0 a1 = some [] := by
      unfold spec_MessagesOf.f spec_l01In.f
      by_cases c1 : a0 ≥ 1
      · rw [if_pos c1]
        by_cases c2 : a0 ≤ 8
        · rw [decide_eq_true c2]
          by_cases c3 : a1 ≥ 0
          · rw [if_pos c3, decide_eq_false (show ¬ a1 ≤ mn a0 3 by unfold mn; split <;> omega)]; rfl
          · rw [if_neg c3]; rfl
        · rw [decide_eq_false c2]; rfl
      · rw [if_neg c1]; rfl
    have e2 : impl_MessagesOf.f 1000 a0 a1 = some [] := by
      unfold impl_MessagesOf.f
      by_cases c1 : a0 < 1
      · simp only [if_pos c1]; try rfl
      · by_cases c2 : a0 > 8
        · simp only [if_neg c1, if_pos c2]; try rfl
        · by_cases c3 : a1 < 0
          · simp only [if_neg c1, if_neg c2, if_pos c3]; try rfl
          · by_cases c4 : a1 > a0
            · simp only [if_neg c1, if_neg c2, if_neg c3, if_pos c4]; try rfl
            · simp only [if_neg c1, if_neg c2, if_neg c3, if_neg c4, decide_eq_true (show a1 > 3 by omega)]; try rfl
    unfold chk
    rw [e, e2]
    rfl
end Go.Proofs.Ytgldcbcefncjjaa.Pure
end
