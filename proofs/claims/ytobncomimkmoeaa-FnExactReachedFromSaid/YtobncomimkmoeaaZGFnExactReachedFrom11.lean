import Derived.Test.YtobncomimkmoeaaZGFnExactReachedFrom4
import Derived.Test.YtobncomimkmoeaaZGFnExactReachedFrom10
import Derived.Test.YtobncomimkmoeaaZGFnExactReachedFrom6
import Derived.Test.YtobncomimkmoeaaZGFnExactReachedFrom9
import Derived.Test.YtobncomimkmoeaaZGFnExactReachedFrom3
import Derived.Deep.Slices
import Derived.Deep.Strs
import Derived.ChangeArms
import Derived.SizedLaws
section
/- Laid by a program of this claim's own. What the Go function does, as a Lean function, and the proof that the Go code does just that; Lean checks it. -/
namespace Go.Proofs.Ytobncomimkmoeaa.F
open Go.RowKit Go.Proofs.YtobncomimkmoeaaW.PrintWords Go.Proofs.YtobncomimkmoeaaW.PrintLast Go.Proofs.YtobncomimkmoeaaW.PrintMore
attribute [local go_sem] max2_int min2_int max_two min_two max_three min_three max_four min_four   -- for this text's walks alone
set_option linter.unusedVariables false
set_option linter.unusedSimpArgs false
/-! ### laws_eqIntSS: function 21 -/
def laws_eqIntSS.l0 : Nat → List (List Int) → List (List Int) → Int → Option (Bool)
  | 0, _, _, _ => none
  | k + 1, x0, x1, x5 => if x5 < (x0.length : Int) then (if 0 ≤ x5 then (if x5 < (x1.length : Int) then ((laws_eqIntS.f k (rd_L1 x0 x5) (rd_L1 x1 x5)).bind fun t252 => (if t252 = true then (laws_eqIntSS.l0 k x0 x1 (wrap64 (x5 + 1))) else (some false))) else (none)) else (none)) else (some true)
def laws_eqIntSS.f (k : Nat) (l0 : List (List Int)) (l1 : List (List Int)) : Option (Bool) := if (l0.length : Int) = (l1.length : Int) then (laws_eqIntSS.l0 k l0 l1 0) else (some false)
set_option maxHeartbeats 8000000 in
set_option maxRecDepth 100000 in
theorem laws_eqIntSS.calls (k : Nat) (A0 : Option Addr) (c0 : Nat) (l0 : List (List Int)) (A1 : Option Addr) (c1 : Nat) (l1 : List (List Int)) (r : Bool) (w : World) (hr0 : Kd.C (Kd.slice 3 (Kd.int .i64)) w A0 l0.length l0) (hc0 : l0.length ≤ c0) (hr1 : Kd.C (Kd.slice 3 (Kd.int .i64)) w A1 l1.length l1) (hc1 : l1.length ≤ c1) (h : laws_eqIntSS.f k l0 l1 = some r) :
    Calls Try.prog 21 #[.slice A0 l0.length c0, .slice A1 l1.length c1] w fun e w' => e = .returned (.bool r) ∧ Drawn0 w w' := by
  have HR0 := Aside0.mk hr0
  have HC0 := Aside0.mk hc0
  clear hr0 hc0
  have HR1 := Aside0.mk hr1
  have HC1 := Aside0.mk hc1
  clear hr1 hc1
  have H : (if (l0.length : Int) = (l1.length : Int) then (laws_eqIntSS.l0 k l0 l1 0) else (some false)) = some r := h
  clear h
  by_cases c3 : (l0.length : Int) = (l1.length : Int)
  · rw [if_pos c3] at H
    have c3b0 : ((l0.length : Int) == (l1.length : Int)) = true := beq_iff_eq.mpr c3
    have c3b1 : ((l0.length : Int) != (l1.length : Int)) = false := bne_eq_false_iff_eq.mpr c3
    have c3b2 : (l0.length == l1.length) = true := by first | simpa using c3 | (simp at c3 ⊢; omega)
    clear c3
    have H' := Aside0.mk H
    clear H
    go_enter Try.func21, Try.ntmps21
    go_wp2
    repeat (go_quiet (fail); try go_wp2)
    go_loopg [5] k (fun kq v5 w' => ∃ (x5_1 : Int), v5 = .int .i64 x5_1 ∧ Aside0 (laws_eqIntSS.l0 kq l0 l1 x5_1 = some r) ∧ Aside0 (kq ≤ k) ∧ Drawn0 w w')
    case atStart => exact ⟨(0), (by first | rfl | (simp; done) | (simp [*]; done)), H', ⟨Nat.le_refl _⟩, by repeat (first | exact Drawn0.refl _ | apply Drawn0.step)⟩
    case round =>
      clear H'
      try clear c1
      try clear c2
      try clear p2
      try clear c3
      try clear c3b0
      try clear c3b1
      try clear c3b2
      obtain ⟨x5_1, rfl, HA, HK1, ⟨m1, rfl⟩⟩ := hrel
      cases gk with
      | zero => exact absurd HA.out (by simp [laws_eqIntSS.l0])
      | succ k1 =>
        have H := HA.out
        clear HA
        simp only [laws_eqIntSS.l0] at H
        by_cases c4 : x5_1 < (l0.length : Int)
        · rw [if_pos c4] at H
          have c4b0 : decide (x5_1 < (l0.length : Int)) = true := decide_eq_true c4
          clear c4
          by_cases c5 : 0 ≤ x5_1
          · rw [if_pos c5] at H
            have c5b0 : decide (0 ≤ x5_1) = true := decide_eq_true c5
            clear c5
            by_cases c6 : x5_1 < (l1.length : Int)
            · rw [if_pos c6] at H
              have c6b0 : decide (x5_1 < (l1.length : Int)) = true := decide_eq_true c6
              clear c6
              replace H := Option.bind_eq_some_iff.mp H
              obtain ⟨t252, A70, H⟩ := H
              replace H : (if t252 = true then (laws_eqIntSS.l0 k1 l0 l1 (wrap64 (x5_1 + 1))) else (some false)) = some r := H
              have A7 := Aside0.mk A70
              clear A70
              by_cases c8 : t252 = true
              · subst c8
                have H1 : (laws_eqIntSS.l0 k1 l0 l1 (wrap64 (x5_1 + 1))) = some r := by rw [if_pos rfl] at H; exact H
                clear H
                have H := H1
                clear H1
                have H' := Aside0.mk H
                clear H
                have p250 : 0 ≤ (x5_1 : Int) := of_decide_eq_true (by first | (with_reducible assumption) | assumption)
                have q250 : x5_1 < (l0.length : Int) := of_decide_eq_true (by first | (with_reducible assumption) | assumption)
                obtain ⟨ad250, A250_0, c250_0, e250, hx250_0, hl250_0, hi250_0⟩ := at_L1 HR0.out x5_1 p250 q250
                cases e250
                have HR250_0 := Aside0.mk hi250_0
                have HC250_0 := Aside0.mk hl250_0
                clear hi250_0 hl250_0
                replace p250 := eq_true p250
                replace q250 := eq_true q250
                have p251 : 0 ≤ (x5_1 : Int) := of_decide_eq_true (by first | (with_reducible assumption) | assumption)
                have q251 : x5_1 < (l1.length : Int) := of_decide_eq_true (by first | (with_reducible assumption) | assumption)
                obtain ⟨ad251, A251_0, c251_0, e251, hx251_0, hl251_0, hi251_0⟩ := at_L1 HR1.out x5_1 p251 q251
                cases e251
                have HR251_0 := Aside0.mk hi251_0
                have HC251_0 := Aside0.mk hl251_0
                clear hi251_0 hl251_0
                replace p251 := eq_true p251
                replace q251 := eq_true q251
                go_wp2_with (first | (go_at_call 12; (with_reducible refine (laws_eqIntS.calls k1 _ _ (rd_L1 l0 x5_1) _ _ (rd_L1 l1 x5_1) true _ ?side1 ?side2 ?side3 ?side4 A7.out).mono ?_); (case side1 => repeat (first | exact HR250_0.out | (with_reducible refine Kd.C_alloc ?_ _) | (with_reducible refine Kd.C_drewN ?_ _) | (with_reducible refine Kd.C_drew ?_))); (case side2 => exact HC250_0.out); (case side3 => repeat (first | exact HR251_0.out | (with_reducible refine Kd.C_alloc ?_ _) | (with_reducible refine Kd.C_drewN ?_ _) | (with_reducible refine Kd.C_drew ?_))); (case side4 => exact HC251_0.out); rintro e w' ⟨rfl, ⟨nd, rfl⟩⟩; (try first | exact ⟨rfl, _, World.drewN_drewN _ _ _⟩ | exact ⟨rfl, _, Eq.trans (World.drewN_drewN _ _ _) (congrArg (World.drewN _) (Nat.add_assoc _ _ _))⟩)))
                repeat (go_quiet (first | (go_at_call 12; (with_reducible refine (laws_eqIntS.calls k1 _ _ (rd_L1 l0 x5_1) _ _ (rd_L1 l1 x5_1) true _ ?side1 ?side2 ?side3 ?side4 A7.out).mono ?_); (case side1 => repeat (first | exact HR250_0.out | (with_reducible refine Kd.C_alloc ?_ _) | (with_reducible refine Kd.C_drewN ?_ _) | (with_reducible refine Kd.C_drew ?_))); (case side2 => exact HC250_0.out); (case side3 => repeat (first | exact HR251_0.out | (with_reducible refine Kd.C_alloc ?_ _) | (with_reducible refine Kd.C_drewN ?_ _) | (with_reducible refine Kd.C_drew ?_))); (case side4 => exact HC251_0.out); rintro e w' ⟨rfl, ⟨nd, rfl⟩⟩; (try first | exact ⟨rfl, _, World.drewN_drewN _ _ _⟩ | exact ⟨rfl, _, Eq.trans (World.drewN_drewN _ _ _) (congrArg (World.drewN _) (Nat.add_assoc _ _ _))⟩))); try go_wp2_with (first | (go_at_call 12; (with_reducible refine (laws_eqIntS.calls k1 _ _ (rd_L1 l0 x5_1) _ _ (rd_L1 l1 x5_1) true _ ?side1 ?side2 ?side3 ?side4 A7.out).mono ?_); (case side1 => repeat (first | exact HR250_0.out | (with_reducible refine Kd.C_alloc ?_ _) | (with_reducible refine Kd.C_drewN ?_ _) | (with_reducible refine Kd.C_drew ?_))); (case side2 => exact HC250_0.out); (case side3 => repeat (first | exact HR251_0.out | (with_reducible refine Kd.C_alloc ?_ _) | (with_reducible refine Kd.C_drewN ?_ _) | (with_reducible refine Kd.C_drew ?_))); (case side4 => exact HC251_0.out); rintro e w' ⟨rfl, ⟨nd, rfl⟩⟩; (try first | exact ⟨rfl, _, World.drewN_drewN _ _ _⟩ | exact ⟨rfl, _, Eq.trans (World.drewN_drewN _ _ _) (congrArg (World.drewN _) (Nat.add_assoc _ _ _))⟩))))
                go_roundg k1
                case measure => have := HK1.out; omega
                case rel => exact ⟨(wrap64 (x5_1 + 1)), (by first | rfl | (simp; done) | (simp [*]; done)), H', ⟨by have := HK1.out; omega⟩, by repeat (first | exact Drawn0.refl _ | apply Drawn0.step)⟩
              · replace c8 := Bool.eq_false_iff.mpr c8
                subst c8
                have H1 : (some false) = some r := by rw [if_neg (show ¬ (false = true) by decide)] at H; exact H
                clear H
                have H := H1
                clear H1
                obtain rfl := Option.some.inj H
                have p250 : 0 ≤ (x5_1 : Int) := of_decide_eq_true (by first | (with_reducible assumption) | assumption)
                have q250 : x5_1 < (l0.length : Int) := of_decide_eq_true (by first | (with_reducible assumption) | assumption)
                obtain ⟨ad250, A250_0, c250_0, e250, hx250_0, hl250_0, hi250_0⟩ := at_L1 HR0.out x5_1 p250 q250
                cases e250
                have HR250_0 := Aside0.mk hi250_0
                have HC250_0 := Aside0.mk hl250_0
                clear hi250_0 hl250_0
                replace p250 := eq_true p250
                replace q250 := eq_true q250
                have p251 : 0 ≤ (x5_1 : Int) := of_decide_eq_true (by first | (with_reducible assumption) | assumption)
                have q251 : x5_1 < (l1.length : Int) := of_decide_eq_true (by first | (with_reducible assumption) | assumption)
                obtain ⟨ad251, A251_0, c251_0, e251, hx251_0, hl251_0, hi251_0⟩ := at_L1 HR1.out x5_1 p251 q251
                cases e251
                have HR251_0 := Aside0.mk hi251_0
                have HC251_0 := Aside0.mk hl251_0
                clear hi251_0 hl251_0
                replace p251 := eq_true p251
                replace q251 := eq_true q251
                go_wp2_with (first | (go_at_call 12; (with_reducible refine (laws_eqIntS.calls k1 _ _ (rd_L1 l0 x5_1) _ _ (rd_L1 l1 x5_1) false _ ?side1 ?side2 ?side3 ?side4 A7.out).mono ?_); (case side1 => repeat (first | exact HR250_0.out | (with_reducible refine Kd.C_alloc ?_ _) | (with_reducible refine Kd.C_drewN ?_ _) | (with_reducible refine Kd.C_drew ?_))); (case side2 => exact HC250_0.out); (case side3 => repeat (first | exact HR251_0.out | (with_reducible refine Kd.C_alloc ?_ _) | (with_reducible refine Kd.C_drewN ?_ _) | (with_reducible refine Kd.C_drew ?_))); (case side4 => exact HC251_0.out); rintro e w' ⟨rfl, ⟨nd, rfl⟩⟩; (try first | exact ⟨rfl, _, World.drewN_drewN _ _ _⟩ | exact ⟨rfl, _, Eq.trans (World.drewN_drewN _ _ _) (congrArg (World.drewN _) (Nat.add_assoc _ _ _))⟩)))
                repeat (go_quiet (first | (go_at_call 12; (with_reducible refine (laws_eqIntS.calls k1 _ _ (rd_L1 l0 x5_1) _ _ (rd_L1 l1 x5_1) false _ ?side1 ?side2 ?side3 ?side4 A7.out).mono ?_); (case side1 => repeat (first | exact HR250_0.out | (with_reducible refine Kd.C_alloc ?_ _) | (with_reducible refine Kd.C_drewN ?_ _) | (with_reducible refine Kd.C_drew ?_))); (case side2 => exact HC250_0.out); (case side3 => repeat (first | exact HR251_0.out | (with_reducible refine Kd.C_alloc ?_ _) | (with_reducible refine Kd.C_drewN ?_ _) | (with_reducible refine Kd.C_drew ?_))); (case side4 => exact HC251_0.out); rintro e w' ⟨rfl, ⟨nd, rfl⟩⟩; (try first | exact ⟨rfl, _, World.drewN_drewN _ _ _⟩ | exact ⟨rfl, _, Eq.trans (World.drewN_drewN _ _ _) (congrArg (World.drewN _) (Nat.add_assoc _ _ _))⟩))); try go_wp2_with (first | (go_at_call 12; (with_reducible refine (laws_eqIntS.calls k1 _ _ (rd_L1 l0 x5_1) _ _ (rd_L1 l1 x5_1) false _ ?side1 ?side2 ?side3 ?side4 A7.out).mono ?_); (case side1 => repeat (first | exact HR250_0.out | (with_reducible refine Kd.C_alloc ?_ _) | (with_reducible refine Kd.C_drewN ?_ _) | (with_reducible refine Kd.C_drew ?_))); (case side2 => exact HC250_0.out); (case side3 => repeat (first | exact HR251_0.out | (with_reducible refine Kd.C_alloc ?_ _) | (with_reducible refine Kd.C_drewN ?_ _) | (with_reducible refine Kd.C_drew ?_))); (case side4 => exact HC251_0.out); rintro e w' ⟨rfl, ⟨nd, rfl⟩⟩; (try first | exact ⟨rfl, _, World.drewN_drewN _ _ _⟩ | exact ⟨rfl, _, Eq.trans (World.drewN_drewN _ _ _) (congrArg (World.drewN _) (Nat.add_assoc _ _ _))⟩))))
                go_ret
                exact ⟨by first | rfl | (simp; done) | (simp [*]; done), by repeat (first | exact Drawn0.refl _ | apply Drawn0.step)⟩
            · rw [if_neg c6] at H
              exact absurd H (by simp)
          · rw [if_neg c5] at H
            exact absurd H (by simp)
        · rw [if_neg c4] at H
          have c4b0 : decide (x5_1 < (l0.length : Int)) = false := decide_eq_false c4
          clear c4
          obtain rfl := Option.some.inj H
          go_wp2
          repeat (go_quiet (fail); try go_wp2)
          go_ret
          exact ⟨by first | rfl | (simp; done) | (simp [*]; done), by repeat (first | exact Drawn0.refl _ | apply Drawn0.step)⟩
  · rw [if_neg c3] at H
    have c3b0 : ((l0.length : Int) == (l1.length : Int)) = false := beq_eq_false_iff_ne.mpr c3
    have c3b1 : ((l0.length : Int) != (l1.length : Int)) = true := bne_iff_ne.mpr c3
    have c3b2 : (l0.length == l1.length) = false := by first | simpa using c3 | (simp at c3 ⊢; omega)
    obtain rfl := Option.some.inj H
    go_enter Try.func21, Try.ntmps21
    go_wp2
    repeat (go_quiet (fail); try go_wp2)
    go_ret
    exact ⟨by first | rfl | (simp; done) | (simp [*]; done), by repeat (first | exact Drawn0.refl _ | apply Drawn0.step)⟩
end Go.Proofs.Ytobncomimkmoeaa.F
end
section
/- Laid by a program of this claim's own. What the Go function does, as a Lean function, and the proof that the Go code does just that; Lean checks it. -/
namespace Go.Proofs.Ytobncomimkmoeaa.F
open Go.RowKit Go.Proofs.YtobncomimkmoeaaW.PrintWords Go.Proofs.YtobncomimkmoeaaW.PrintLast Go.Proofs.YtobncomimkmoeaaW.PrintMore
attribute [local go_sem] max2_int min2_int max_two min_two max_three min_three max_four min_four   -- for this text's walks alone
set_option linter.unusedVariables false
set_option linter.unusedSimpArgs false
/-! ### laws_markIntSS: function 22 -/
def laws_markIntSS.l0 : Nat → List (List Int) → Int → Int → Option (Int × List (List Int))
  | 0, _, _, _ => none
  | k + 1, x0, x1, x5 => if x5 < (x0.length : Int) then (if 0 ≤ x5 then ((laws_markIntS.f k (x0.getD x5.toNat []) x1).bind fun b => (laws_markIntSS.l0 k (x0.set x5.toNat b.2) b.1 (wrap64 (x5 + 1)))) else (none)) else (some (x1, x0))
def laws_markIntSS.f (k : Nat) (l0 : List (List Int)) (a1 : Int) : Option (Int × List (List Int)) := laws_markIntSS.l0 k l0 a1 0
set_option maxHeartbeats 8000000 in
set_option maxRecDepth 100000 in
theorem laws_markIntSS.calls (k : Nat) (P0_ : Nat → Prop) (u9000_ : Value) (l0 : List (List Int)) (a1 : Int) (r1 : Int) (r2 : List (List Int)) (w0 w : World) (hB : Below w0.heap.size w0 w) (ho0 : Kd.S (Kd.slice 3 (Kd.int .i64)) 25 w w0.heap.size P0_ u9000_ l0) (h : laws_markIntSS.f k l0 a1 = some (r1, r2)) :
    Calls Try.prog 22 #[u9000_, .int .i64 a1] w fun e w' => e = .returned (.int .i64 r1) ∧ Kd.S (Kd.slice 3 (Kd.int .i64)) 25 w' w0.heap.size (fun k_ => (P0_ k_ ∨ w.heap.size ≤ k_)) u9000_ r2 ∧ Below w0.heap.size w0 w' ∧ Kept w w' (fun k_ => P0_ k_) := by
  obtain ⟨A0, c0, rfl⟩ := Kd.S_slice ho0
  have HO := Aside0.mk (Kd.S_mono ho0 (ok' := fun k_ => (P0_ k_ ∨ w.heap.size ≤ k_)) (fun _ hk => .inl hk))
  have HB := Aside0.mk hB
  have H' := Aside0.mk h
  clear ho0 hB h
  go_enter Try.func22, Try.ntmps22
  go_wp2
  go_loopg [1, 5] k (fun kq v1 v5 w' => ∃ (x1 x5 : Int) (xs : List (List Int)), v1 = .int .i64 x1 ∧ v5 = .int .i64 x5 ∧ Aside0 (laws_markIntSS.l0 kq xs x1 x5 = some (r1, r2)) ∧ Aside0 (kq ≤ k) ∧ Aside0 (xs.length = l0.length) ∧ Aside0 (Kd.S (Kd.slice 3 (Kd.int .i64)) 25 w' w0.heap.size (fun k_ => (P0_ k_ ∨ w.heap.size ≤ k_)) (.slice A0 l0.length c0) xs) ∧ Aside0 (Below w0.heap.size w0 w') ∧ Aside0 (Kept w w' (fun k_ => P0_ k_)))
  case atStart => exact ⟨a1, 0, l0, rfl, rfl, H', ⟨Nat.le_refl _⟩, ⟨rfl⟩, HO, HB, ⟨Kept.refl w _⟩⟩
  case round =>
    clear H' HO HB
    obtain ⟨x1, x5, xs, rfl, rfl, HA, HK1, HL, HO, HB, HK⟩ := hrel
    cases gk with
    | zero => exact absurd HA.out (by simp [laws_markIntSS.l0])
    | succ k1 =>
      have H := HA.out
      clear HA
      simp only [laws_markIntSS.l0] at H
      by_cases c4 : x5 < (xs.length : Int)
      · rw [if_pos c4] at H
        by_cases c5 : 0 ≤ x5
        · rw [if_pos c5] at H
          replace H := Option.bind_eq_some_iff.mp H
          obtain ⟨⟨b1, b2⟩, A7, H⟩ := H
          have A8 := Aside0.mk A7
          have H' := Aside0.mk H
          clear A7 H
          have c4' : x5 < (l0.length : Int) := by have := HL.out; omega
          obtain ⟨ad, ead, _⟩ := (Kd.S_reads' HO.out).2.2.2.2 (by have := HL.out; omega)
          cases ead
          obtain ⟨g, rfl⟩ := Kd.R_head (Kd.S_R HO.out)
          obtain ⟨oki, c, hcl, hM, hcc, hoki, hH⟩ := Kd.S_lend HO.out [] x5 c5 (by omega)
          obtain ⟨u, rfl, hR⟩ := hM
          have hcell := hcc 0 u rfl
          have hcell2 : wr.cell? ⟨g, x5.toNat, none⟩ = some u := by simpa [Kd.slice] using hcell
          have HH := Aside0.mk hH
          have HRR := Aside0.mk hR
          have HOKI := Aside0.mk hoki
          clear hcl hcc hoki hH hR hcell
          have c4b0 : decide (x5 < (l0.length : Int)) = true := decide_eq_true c4'
          have c5b0 : decide (0 ≤ x5) = true := decide_eq_true c5
          replace c4' := eq_true c4'
          have HX := Aside0.mk c4
          have HY := Aside0.mk c5
          clear c4
          replace c5 := eq_true c5
          go_wp2_with (go_at_call 15; (with_reducible refine (laws_markIntS.calls k1 oki u (xs.getD x5.toNat []) x1 b1 b2 w0 _ ?side1 ?side2 A8.out).mono ?_); (case side1 => exact HB.out); (case side2 => exact HRR.out); rintro e w7 ⟨rfl, hr7, hb7, hk7⟩; have HR7 := Aside0.mk hr7; have HB7 := Aside0.mk hb7; have HK7 := Aside0.mk hk7; clear hr7 hb7 hk7)
          go_roundg k1
          case measure => have := HK1.out; omega
          case rel =>
            have hsz : w.heap.size ≤ wr.heap.size := HK.out.1
            have hwide := Kd.H_widen HH.out
            have hstep := Kd.H_step hwide (w1 := w7) (fun k_ ho hn hlt => HK7.out.2 k_ hlt (fun hk => hn (.inl hk)))
            have hback := Kd.H_back hstep (x' := b2) (okp := fun k_ => (oki k_ ∨ wr.heap.size ≤ k_)) (Kd.M_row HR7.out) (fun k_ hk => hk.elim .inl (fun h2 => .inr ⟨.inr (Nat.le_trans hsz h2), h2⟩))
            have hkept : Kept w w7 (fun k_ => P0_ k_) := HK.out.then_ HK7.out (fun k_ hk => (HOKI.out k_ hk).1)
            exact ⟨b1, wrap64 (x5 + 1), xs.set x5.toNat b2, rfl, rfl, H', ⟨by have := HK1.out; omega⟩, ⟨by rw [List.length_set]; exact HL.out⟩, ⟨hback⟩, ⟨HB7.out⟩, ⟨hkept⟩⟩
        · rw [if_neg c5] at H
          exact absurd H (by simp)
      · rw [if_neg c4] at H
        simp only [Option.some.injEq, Prod.mk.injEq] at H
        obtain ⟨rfl, rfl⟩ := H
        have c4' : ¬ x5 < (l0.length : Int) := by have := HL.out; omega
        have c4b0 : decide (x5 < (l0.length : Int)) = false := decide_eq_false c4'
        clear c4 c4'
        go_wp2
        go_ret
        exact ⟨rfl, HO.out, HB.out, HK.out⟩
end Go.Proofs.Ytobncomimkmoeaa.F
end
section
/- Laid by a program of this claim's own. What the Go function does, as a Lean function, and the proof that the Go code does just that; Lean checks it. -/
namespace Go.Proofs.Ytobncomimkmoeaa.F
open Go.RowKit Go.Proofs.YtobncomimkmoeaaW.PrintWords Go.Proofs.YtobncomimkmoeaaW.PrintLast Go.Proofs.YtobncomimkmoeaaW.PrintMore
attribute [local go_sem] max2_int min2_int max_two min_two max_three min_three max_four min_four   -- for this text's walks alone
set_option linter.unusedVariables false
set_option linter.unusedSimpArgs false
/-! ### laws_heldIntSS: function 23 -/
def laws_heldIntSS.l0 : Nat → List (List Int) → Int → Int → Option (Int)
  | 0, _, _, _ => none
  | k + 1, x0, x1, x5 => if x5 < (x0.length : Int) then (if 0 ≤ x5 then ((laws_heldIntS.f k (rd_L1 x0 x5) x1).bind fun t586 => (if t586 < 0 then (some (-1)) else (laws_heldIntSS.l0 k x0 t586 (wrap64 (x5 + 1))))) else (none)) else (some x1)
def laws_heldIntSS.f (k : Nat) (l0 : List (List Int)) (a1 : Int) : Option (Int) := laws_heldIntSS.l0 k l0 a1 0
set_option maxHeartbeats 8000000 in
set_option maxRecDepth 100000 in
theorem laws_heldIntSS.calls (k : Nat) (A0 : Option Addr) (c0 : Nat) (l0 : List (List Int)) (a1 : Int) (r : Int) (w : World) (hr0 : Kd.C (Kd.slice 3 (Kd.int .i64)) w A0 l0.length l0) (hc0 : l0.length ≤ c0) (h : laws_heldIntSS.f k l0 a1 = some r) :
    Calls Try.prog 23 #[.slice A0 l0.length c0, .int .i64 a1] w fun e w' => e = .returned (.int .i64 r) ∧ Drawn0 w w' := by
  have HR0 := Aside0.mk hr0
  have HC0 := Aside0.mk hc0
  clear hr0 hc0
  have H : (laws_heldIntSS.l0 k l0 a1 0) = some r := h
  clear h
  have H' := Aside0.mk H
  clear H
  go_enter Try.func23, Try.ntmps23
  go_wp2
  go_loopg [1, 5] k (fun kq v1 v5 w' => ∃ (x1_1 : Int) (x5_1 : Int), v1 = .int .i64 x1_1 ∧ v5 = .int .i64 x5_1 ∧ Aside0 (laws_heldIntSS.l0 kq l0 x1_1 x5_1 = some r) ∧ Aside0 (kq ≤ k) ∧ Drawn0 w w')
  case atStart => exact ⟨(a1), (0), (by first | rfl | (simp; done) | (simp [*]; done)), (by first | rfl | (simp; done) | (simp [*]; done)), H', ⟨Nat.le_refl _⟩, by repeat (first | exact Drawn0.refl _ | apply Drawn0.step)⟩
  case round =>
    clear H'
    try clear c2
    try clear p2
    obtain ⟨x1_1, x5_1, rfl, rfl, HA, HK1, ⟨m1, rfl⟩⟩ := hrel
    cases gk with
    | zero => exact absurd HA.out (by simp [laws_heldIntSS.l0])
    | succ k1 =>
      have H := HA.out
      clear HA
      simp only [laws_heldIntSS.l0] at H
      by_cases c3 : x5_1 < (l0.length : Int)
      · rw [if_pos c3] at H
        have c3b0 : decide (x5_1 < (l0.length : Int)) = true := decide_eq_true c3
        clear c3
        by_cases c4 : 0 ≤ x5_1
        · rw [if_pos c4] at H
          have c4b0 : decide (0 ≤ x5_1) = true := decide_eq_true c4
          clear c4
          replace H := Option.bind_eq_some_iff.mp H
          obtain ⟨t586, A50, H⟩ := H
          replace H : (if t586 < 0 then (some (-1)) else (laws_heldIntSS.l0 k1 l0 t586 (wrap64 (x5_1 + 1)))) = some r := H
          have A5 := Aside0.mk A50
          clear A50
          by_cases c6 : t586 < 0
          · rw [if_pos c6] at H
            have c6b0 : decide (t586 < 0) = true := decide_eq_true c6
            clear c6
            obtain rfl := Option.some.inj H
            have p585 : 0 ≤ (x5_1 : Int) := of_decide_eq_true (by first | (with_reducible assumption) | assumption)
            have q585 : x5_1 < (l0.length : Int) := of_decide_eq_true (by first | (with_reducible assumption) | assumption)
            obtain ⟨ad585, A585_0, c585_0, e585, hx585_0, hl585_0, hi585_0⟩ := at_L1 HR0.out x5_1 p585 q585
            cases e585
            have HR585_0 := Aside0.mk hi585_0
            have HC585_0 := Aside0.mk hl585_0
            clear hi585_0 hl585_0
            replace p585 := eq_true p585
            replace q585 := eq_true q585
            go_wp2_with (first | ((with_reducible refine gate_callee (f := 16) rfl ?_); refine goesL_ (some 17) rfl rfl Try.func16 (by kernel_rfl) rfl #[.slice A585_0 (rd_L1 l0 x5_1).length c585_0, .int .i64 x1_1] rfl (by (try simp only [List.map_toArray, List.map_cons, List.map_nil]); first | done | rfl | (simp only [List.length_drop, List.length_take]; rfl)) ?_; (with_reducible refine (laws_heldIntS.calls k1 _ _ (rd_L1 l0 x5_1) x1_1 t586 _ ?side1 ?side2 A5.out).mono ?_); (case side1 => repeat (first | exact HR585_0.out | (with_reducible refine Kd.C_alloc ?_ _) | (with_reducible refine Kd.C_drewN ?_ _) | (with_reducible refine Kd.C_drew ?_))); (case side2 => exact HC585_0.out); rintro e w' ⟨rfl, ⟨nd, rfl⟩⟩; refine ⟨_, rfl, ?_⟩))
            go_ret
            exact ⟨by first | rfl | (simp; done) | (simp [*]; done), by repeat (first | exact Drawn0.refl _ | apply Drawn0.step)⟩
          · rw [if_neg c6] at H
            have c6b0 : decide (t586 < 0) = false := decide_eq_false c6
            clear c6
            have H' := Aside0.mk H
            clear H
            have p585 : 0 ≤ (x5_1 : Int) := of_decide_eq_true (by first | (with_reducible assumption) | assumption)
            have q585 : x5_1 < (l0.length : Int) := of_decide_eq_true (by first | (with_reducible assumption) | assumption)
            obtain ⟨ad585, A585_0, c585_0, e585, hx585_0, hl585_0, hi585_0⟩ := at_L1 HR0.out x5_1 p585 q585
            cases e585
            have HR585_0 := Aside0.mk hi585_0
            have HC585_0 := Aside0.mk hl585_0
            clear hi585_0 hl585_0
            replace p585 := eq_true p585
            replace q585 := eq_true q585
            go_wp2_with (first | ((with_reducible refine gate_callee (f := 16) rfl ?_); refine goesL_ (some 17) rfl rfl Try.func16 (by kernel_rfl) rfl #[.slice A585_0 (rd_L1 l0 x5_1).length c585_0, .int .i64 x1_1] rfl (by (try simp only [List.map_toArray, List.map_cons, List.map_nil]); first | done | rfl | (simp only [List.length_drop, List.length_take]; rfl)) ?_; (with_reducible refine (laws_heldIntS.calls k1 _ _ (rd_L1 l0 x5_1) x1_1 t586 _ ?side1 ?side2 A5.out).mono ?_); (case side1 => repeat (first | exact HR585_0.out | (with_reducible refine Kd.C_alloc ?_ _) | (with_reducible refine Kd.C_drewN ?_ _) | (with_reducible refine Kd.C_drew ?_))); (case side2 => exact HC585_0.out); rintro e w' ⟨rfl, ⟨nd, rfl⟩⟩; refine ⟨_, rfl, ?_⟩))
            go_roundg k1
            case measure => have := HK1.out; omega
            case rel => exact ⟨(t586), (wrap64 (x5_1 + 1)), (by first | rfl | (simp; done) | (simp [*]; done)), (by first | rfl | (simp; done) | (simp [*]; done)), H', ⟨by have := HK1.out; omega⟩, by repeat (first | exact Drawn0.refl _ | apply Drawn0.step)⟩
        · rw [if_neg c4] at H
          exact absurd H (by simp)
      · rw [if_neg c3] at H
        have c3b0 : decide (x5_1 < (l0.length : Int)) = false := decide_eq_false c3
        clear c3
        obtain rfl := Option.some.inj H
        go_wp2
        go_ret
        exact ⟨by first | rfl | (simp; done) | (simp [*]; done), by repeat (first | exact Drawn0.refl _ | apply Drawn0.step)⟩
end Go.Proofs.Ytobncomimkmoeaa.F
end
section
/- Laid by a program of this claim's own. What the Go function does, as a Lean function, and the proof that the Go code does just that; Lean checks it. -/
namespace Go.Proofs.Ytobncomimkmoeaa.F
open Go.RowKit Go.Proofs.YtobncomimkmoeaaW.PrintWords Go.Proofs.YtobncomimkmoeaaW.PrintLast Go.Proofs.YtobncomimkmoeaaW.PrintMore
attribute [local go_sem] max2_int min2_int max_two min_two max_three min_three max_four min_four   -- for this text's walks alone
set_option linter.unusedVariables false
set_option linter.unusedSimpArgs false
/-! ### laws_FnExactReachedFrom: function 5 -/
/-- What is to be shown of numbers and lists: both functions make the same; marks that are laid are held. -/
def laws_FnExactReachedFrom.f (k : Nat) (l0 : List Int) : Option Bool :=
  if (l0.length : Int) > 1048576 then some true else
  (laws_toIntS.f k l0).bind fun X => (spec_ReachedFrom.f k X).bind fun R => (laws_markIntS.f k X 1).bind fun M => (laws_markIntSS.f k R.1 1).bind fun m =>
    if impl_ReachedFrom.f k X = some R ∧ laws_eqIntSS.f k R.1 R.1 = some true ∧ laws_eqIntS.f k X X = some true ∧ 0 ≤ M.1 ∧ 0 ≤ m.1 ∧ laws_heldIntSS.f k m.2 1 = some m.1 then some true else none
set_option maxHeartbeats 16000000 in
set_option maxRecDepth 100000 in
theorem laws_FnExactReachedFrom.calls_big (A0 : Option Addr) (c0 : Nat) (l0 : List Int) (w : World) (hbig : (l0.length : Int) > 1048576) :
    Calls Try.prog 5 #[.slice A0 l0.length c0] w fun e w' => e = .returned (.bool true) ∧ Below w.heap.size w w' := by
  have h1 : decide (1048576 < l0.length) = true := decide_eq_true (by omega)
  have h2 : decide (1048576 < (l0.length : Int)) = true := decide_eq_true (by omega)
  have HB := Aside0.mk (Below.refl w.heap.size w)
  clear hbig
  go_enter Try.func5, Try.ntmps5
  go_wp2
  go_ret
  exact ⟨rfl, HB.out⟩
set_option maxHeartbeats 16000000 in
set_option maxRecDepth 100000 in
theorem laws_FnExactReachedFrom.calls_in (k : Nat) (A0 : Option Addr) (c0 : Nat) (l0 : List Int) (w : World) (hr0 : Kd.C (Kd.int .i64) w A0 l0.length l0) (hc0 : l0.length ≤ c0) (hle : ¬ (l0.length : Int) > 1048576) (X : List Int) (ht : laws_toIntS.f k l0 = some X) (r : List (List Int)) (b : Bool) (hs : spec_ReachedFrom.f k X = some (r, b)) (M1 : Int) (M2 : List Int) (hM : laws_markIntS.f k X 1 = some (M1, M2)) (m1 : Int) (m2 : List (List Int)) (hm : laws_markIntSS.f k r 1 = some (m1, m2)) (hi : impl_ReachedFrom.f k X = some (r, b)) (he : laws_eqIntSS.f k r r = some true) (hq : laws_eqIntS.f k X X = some true) (hn1 : 0 ≤ M1) (hn2 : 0 ≤ m1) (hh : laws_heldIntSS.f k m2 1 = some m1) :
    Calls Try.prog 5 #[.slice A0 l0.length c0] w fun e w' => e = .returned (.bool true) ∧ Below w.heap.size w w' := by
  have HR0 := Aside0.mk hr0
  have HC0 := Aside0.mk hc0
  have HT := Aside0.mk ht
  have HQ := Aside0.mk hq
  have HM := Aside0.mk hM
  have g2 : decide (M1 < 0) = false := decide_eq_false (by omega)
  have g7 : decide (1048576 < l0.length) = false := decide_eq_false (by omega)
  have g8 : decide (1048576 < (l0.length : Int)) = false := decide_eq_false (by omega)
  have HS := Aside0.mk hs
  have HI := Aside0.mk hi
  have HE := Aside0.mk he
  have HM1 := Aside0.mk hm
  have HH := Aside0.mk hh
  have g3 : decide (m1 < 0) = false := decide_eq_false (by omega)
  have g4 : (b == b) = true := beq_self_eq_true b
  have g5 : (b != b) = false := bne_self_eq_false b
  clear hr0 hc0 ht hq hM hn1 hs hm hi he hn2 hh hle
  go_enter Try.func5, Try.ntmps5
  go_wp2_with (go_at_call 10; (with_reducible refine (laws_toIntS.calls k A0 c0 l0 X _ HR0.out HC0.out HT.out).mono ?_); rintro e w1 ⟨v, rfl, ho, hb⟩; obtain ⟨A1, c1, rfl⟩ := Kd.R_slice ho; have B1 := Aside0.mk hb; have C1 := Aside0.mk (Kd.R_reads' ho).2.2; have L1 := Aside0.mk (Kd.R_reads' ho).2.1; clear ho hb)
  go_wp2_with (go_at_call 19; (with_reducible refine (spec_ReachedFrom.calls k A1 c1 X r b _ C1.out L1.out HS.out).mono ?_); rintro e w2 ⟨v, rfl, ho, hb⟩; obtain ⟨A2, c2, rfl⟩ := Kd.N_slice ho; have B2 := Aside0.mk (below_step B1.out hb); have C2 := Aside0.mk (Kd.N_reads' ho).2.2; have L2 := Aside0.mk (Kd.N_reads' ho).2.1; clear ho hb B1 C1 L1)
  go_wp2_with (go_at_call 10; (with_reducible refine (laws_toIntS.calls k A0 c0 l0 X _ (Kd.C_below HR0.out B2.out) HC0.out HT.out).mono ?_); rintro e w3 ⟨v, rfl, ho, hb⟩; obtain ⟨A3, c3, rfl⟩ := Kd.R_slice ho; have D3 := Aside0.mk hb; have X3 := Aside0.mk ho; have SZ := Aside0.mk hb.size; have T0 := Aside0.mk (Kd.R_lt ho); clear ho hb)
  go_wp2_with (go_at_call 20; (with_reducible refine (impl_ReachedFrom.calls_S k A3 c3 X r b _ (Kd.R_reads' X3.out).2.2 (Kd.R_reads' X3.out).2.1 HI.out).mono ?_); rintro e w4 ⟨v, rfl, ho, hb⟩; obtain ⟨A4, c4, rfl⟩ := Kd.S_slice ho; have D4 := Aside0.mk (below_step D3.out hb); have G4 := Aside0.mk ho; have X4 := Aside0.mk (Kd.R_below X3.out hb); clear ho hb D3 X3)
  go_wp2_with (go_at_call 21; (with_reducible refine (laws_eqIntSS.calls k A4 c4 r A2 c2 r true _ (Kd.S_reads' G4.out).2.2 (Kd.S_reads' G4.out).2.1 (Kd.C_below C2.out D4.out) L2.out HE.out).mono ?_); rintro e w5 ⟨rfl, hd⟩; have D5 := Aside0.mk (below_step D4.out hd.below); have G5 := Aside0.mk (Kd.S_below G4.out hd.below); have X5 := Aside0.mk (Kd.R_below X4.out hd.below); clear hd D4 G4 X4)
  go_wp2_with (go_at_call 10; (with_reducible refine (laws_toIntS.calls k A0 c0 l0 X _ (Kd.C_below HR0.out (below_step B2.out D5.out)) HC0.out HT.out).mono ?_); rintro e w6 ⟨v, rfl, ho, hb⟩; obtain ⟨A6, c6, rfl⟩ := Kd.R_slice ho; have D6 := Aside0.mk (below_step D5.out hb); have G6 := Aside0.mk (Kd.S_below G5.out hb); have X6 := Aside0.mk (Kd.R_below X5.out hb); have C6 := Aside0.mk (Kd.R_reads' ho).2.2; have L6 := Aside0.mk (Kd.R_reads' ho).2.1; clear ho hb D5 G5 X5)
  go_wp2_with (go_at_call 12; (with_reducible refine (laws_eqIntS.calls k A3 c3 X A6 c6 X true _ (Kd.R_reads' X6.out).2.2 (Kd.R_reads' X6.out).2.1 C6.out L6.out HQ.out).mono ?_); rintro e w7 ⟨rfl, hd⟩; have D7 := Aside0.mk (below_step D6.out hd.below); have G7 := Aside0.mk (Kd.S_below G6.out hd.below); have X7 := Aside0.mk (Kd.R_tight rfl (Kd.R_below X6.out hd.below)); clear hd D6 G6 X6 C6 L6)
  go_wp2_with (go_at_call 15; (with_reducible refine (laws_markIntS.calls k (fun k_ => some k_ = (Value.slice A3 X.length c3).ownBlock) _ X 1 M1 M2 w2 _ D7.out X7.out HM.out).mono ?_); rintro e w8 ⟨rfl, ho, hb, hk⟩; have D8 := Aside0.mk hb; have G8 := Aside0.mk (Kd.S_lower (S_past G7.out hk (fun k_ h_ e_ => Nat.lt_irrefl _ (Nat.lt_of_lt_of_le (T0.out k_ e_.symm) h_))) SZ.out); clear ho hb hk D7 G7 X7)
  go_wp2_with (go_at_call 21; (with_reducible refine (laws_eqIntSS.calls k A4 c4 r A2 c2 r true _ (Kd.S_reads' G8.out).2.2 (Kd.S_reads' G8.out).2.1 (Kd.C_below C2.out D8.out) L2.out HE.out).mono ?_); rintro e w9 ⟨rfl, hd⟩; have D9 := Aside0.mk (below_step D8.out hd.below); have G9 := Aside0.mk (Kd.S_below G8.out hd.below); clear hd D8 G8)
  go_wp2_with (go_at_call 22; (with_reducible refine (laws_markIntSS.calls k (fun _ => True) _ r 1 m1 m2 w2 _ D9.out G9.out HM1.out).mono ?_); rintro e w10 ⟨rfl, ho, hb, hk⟩; have D10 := Aside0.mk hb; have G10 := Aside0.mk ho; have E0 := Aside0.mk (Kd.S_reads' ho).1; clear ho hb hk D9 G9)
  go_wp2_with (go_at_call 23; refine calls_of_args (args' := #[.slice A4 m2.length c4, .int .i64 1]) (by rw [← E0.out]) ?_; (with_reducible refine (laws_heldIntSS.calls k A4 c4 m2 1 m1 _ (Kd.S_reads' G10.out).2.2 (by rw [← E0.out]; exact (Kd.S_reads' G10.out).2.1) HH.out).mono ?_); rintro e w11 ⟨rfl, hd⟩; have D11 := Aside0.mk (below_step D10.out hd.below); have G11 := Aside0.mk (Kd.S_below G10.out hd.below); clear hd D10 G10)
  go_wp2_with (go_at_call 10; (with_reducible refine (laws_toIntS.calls k A0 c0 l0 X _ (Kd.C_below HR0.out (below_step B2.out D11.out)) HC0.out HT.out).mono ?_); rintro e w12 ⟨v, rfl, ho, hb⟩; obtain ⟨A12, c12, rfl⟩ := Kd.R_slice ho; have D12 := Aside0.mk (below_step D11.out hb); have G12 := Aside0.mk (Kd.S_below G11.out hb); have C12 := Aside0.mk (Kd.R_reads' ho).2.2; have L12 := Aside0.mk (Kd.R_reads' ho).2.1; clear ho hb D11 G11)
  go_wp2_with (go_at_call 20; (with_reducible refine (impl_ReachedFrom.calls_S k A12 c12 X r b _ C12.out L12.out HI.out).mono ?_); rintro e w13 ⟨v, rfl, ho, hb⟩; obtain ⟨A13, c13, rfl⟩ := Kd.S_slice ho; have D13 := Aside0.mk (below_step D12.out hb); have G13 := Aside0.mk (Kd.S_below G12.out hb); have C13 := Aside0.mk (Kd.S_reads' ho).2.2; have L13 := Aside0.mk (Kd.S_reads' ho).2.1; clear ho hb D12 G12 C12 L12)
  go_wp2_with (go_at_call 21; (with_reducible refine (laws_eqIntSS.calls k A13 c13 r A2 c2 r true _ C13.out L13.out (Kd.C_below C2.out D13.out) L2.out HE.out).mono ?_); rintro e w14 ⟨rfl, hd⟩; have D14 := Aside0.mk (below_step D13.out hd.below); have G14 := Aside0.mk (Kd.S_below G13.out hd.below); clear hd D13 G13 C13 L13)
  go_wp2_with (go_at_call 23; refine calls_of_args (args' := #[.slice A4 m2.length c4, .int .i64 1]) (by rw [← E0.out]) ?_; (with_reducible refine (laws_heldIntSS.calls k A4 c4 m2 1 m1 _ (Kd.S_reads' G14.out).2.2 (by rw [← E0.out]; exact (Kd.S_reads' G14.out).2.1) HH.out).mono ?_); rintro e w15 ⟨rfl, hd⟩; have D15 := Aside0.mk (below_step D14.out hd.below); clear hd D14 G14)
  go_ret
  exact ⟨rfl, below_step B2.out D15.out⟩
theorem laws_FnExactReachedFrom.calls (k : Nat) (A0 : Option Addr) (c0 : Nat) (l0 : List Int) (r : Bool) (w : World) (hr0 : Kd.C (Kd.int .i64) w A0 l0.length l0) (hc0 : l0.length ≤ c0) (h : laws_FnExactReachedFrom.f k l0 = some r) :
    Calls Try.prog 5 #[.slice A0 l0.length c0] w fun e w' => e = .returned (.bool r) ∧ Below w.heap.size w w' := by
  unfold laws_FnExactReachedFrom.f at h
  by_cases hbig : (l0.length : Int) > 1048576
  · rw [if_pos hbig] at h
    obtain rfl := Option.some.inj h
    exact laws_FnExactReachedFrom.calls_big A0 c0 l0 w hbig
  · rw [if_neg hbig] at h
    obtain ⟨X, h2, h⟩ := Option.bind_eq_some_iff.mp h
    obtain ⟨⟨R1, R2⟩, h3, h⟩ := Option.bind_eq_some_iff.mp h
    obtain ⟨⟨M1, M2⟩, h4, h⟩ := Option.bind_eq_some_iff.mp h
    obtain ⟨⟨m1, m2⟩, h5, h⟩ := Option.bind_eq_some_iff.mp h
    split at h
    · rename_i hc
      obtain ⟨q1, q2, q3, q4, q5, q6⟩ := hc
      obtain rfl := Option.some.inj h
      exact laws_FnExactReachedFrom.calls_in k A0 c0 l0 w hr0 hc0 hbig X h2 R1 R2 h3 M1 M2 h4 m1 m2 h5 q1 q2 q3 q4 q5 q6
    · cases h
end Go.Proofs.Ytobncomimkmoeaa.F
end
section
/- What an argument reads as, kind by kind: plain facts of my own on the model's reading; no function of the program is named here. -/
namespace Go.Proofs.Ytobncomimkmoeaa.F
open Go.ChangeShapes Go.WideShapes Go.RowKit Go.Proofs.YtobncomimkmoeaaW.PrintWords
/-- All that reads by type t is of kind d, and has Q. -/
def Opn {α : Type} (P : Program) (t : TypeId) (d : Kd α) (Q : α → Prop) : Prop :=
  ∀ (H : Type) (enc : TypeId × Value → H) (w : World) (base : Nat) (held : Bool) (fuel : Nat) (cs : List Value) (x : DataW H × List MemPlace), DataW.trod enc P w base (fun _ => true) held fuel t cs = some x → (∀ n ∈ x.1.weights P t, n ≤ reachBytes) → ∃ a, d.K w a cs ∧ Q a
theorem reach_eq : reachBytes = 140737488351232 := by decide
section
variable {P : Program} {t e : TypeId}
theorem Opn_int {k : IntKind} (ht : P.underlying t = some (.int k)) : Opn P t (Kd.int k) (fun n => (Lit.int k n).wf = true) := by
  intro H enc w base held fuel cs x h _
  obtain ⟨n, rfl, _, hw⟩ := DataW.trod_int ht h
  exact ⟨n, rfl, hw⟩
theorem weightsAll_mem {H : Type} {P : Program} {e : TypeId} : ∀ {ds : List (DataW H)} {d : DataW H}, d ∈ ds → ∀ n ∈ d.weights P e, n ∈ DataW.weightsAll P e ds
  | d0 :: ds, d, hd, n, hn => by
    simp only [DataW.weightsAll, List.mem_append]
    rcases List.mem_cons.mp hd with rfl | hd
    · exact Or.inl hn
    · exact Or.inr (weightsAll_mem hd n hn)
  | [], _, hd, _, _ => by simp at hd
theorem Opn_slice {α : Type} {d : Kd α} {Q : α → Prop} (e' B : Nat) (hB : P.bytesOf e = B) (ht : P.underlying t = some (.slice e)) (hc : P.cellsOf e = d.sz) (h : Opn P e d Q) :
    Opn P t (Kd.slice e' d) (fun xs => xs.length * B ≤ 140737488351232 ∧ xs.length ≤ maxLen ∧ ∀ x ∈ xs, Q x) := by
  intro H enc w base held fuel cs x hx hz
  rcases Go.Deep.open_slice ht hx with ⟨rfl, _⟩ | ⟨a, len, cap, m, n, D, Pl, rfl, _, hl, hm, hmm, rfl, hel⟩
  · exact ⟨[], ⟨none, 0, rfl, Nat.le_refl _, rfl, by simp, fun h => absurd h (by simp)⟩, by simp, by simp, by simp⟩
  · have hmm' : m = cap := by simpa using hmm
    subst hmm'
    have hz' := hz
    simp only [DataW.weights, ht] at hz'
    have each : ∀ i, i < len → ∃ y : α, (∃ c, c.length = d.sz ∧ d.K w y c ∧ ∀ j u, c[j]? = some u → w.cell? (a.add (i * d.sz + j)) = some u) ∧ Q y := by
      intro i hi
      obtain ⟨cs', h1, h2⟩ := hel i (by omega)
      obtain ⟨y, hK, hQ⟩ := h H enc w base held n cs' _ h2 (fun q hq => hz' q (List.mem_cons_of_mem _ (List.mem_append.mpr (Or.inl (weightsAll_mem (List.mem_map.mpr ⟨i, List.mem_range.mpr hi, rfl⟩) q hq)))))
      obtain ⟨_, h4, h5⟩ := World.cells?_some h1
      rw [hc] at h4 h5
      refine ⟨y, ⟨cs', h4, hK, fun j u hu => ?_⟩, hQ⟩
      have hj : j < d.sz := by
        rw [← h4]
        exact (List.getElem?_eq_some_iff.mp hu).1
      have := h5 j hj
      rw [hu] at this
      rw [← this]
      congr 1
      unfold Addr.add
      by_cases q1 : i * d.sz = 0
      · simp [q1]
      · by_cases q2 : j = 0
        · simp [q1, q2]
        · simp [q1, q2, Nat.add_assoc]
    rcases Nat.eq_zero_or_pos len with hl0 | hl0
    · subst hl0
      exact ⟨[], ⟨some a, m, rfl, by simp, rfl, by simp, fun h => absurd h (by simp)⟩, by simp, by simp, by simp⟩
    haveI : Inhabited α := ⟨Classical.choose (each 0 hl0)⟩
    obtain ⟨Y, hY⟩ := Go.Deep.choose_lt each
    refine ⟨(List.range len).map Y, ⟨some a, m, by simp, by simpa using hl, by simp, ?_, fun _ => ⟨a, rfl, ?_⟩⟩, ?_, by simp; omega, ?_⟩
    · have : maxLen ≤ 9223372036854775807 := by decide
      simp
      omega
    · intro j p hp
      simp only [List.getElem?_map, Option.map_eq_some_iff] at hp
      obtain ⟨i, hi, rfl⟩ := hp
      obtain ⟨hi1, hi2⟩ := List.getElem?_eq_some_iff.mp hi
      simp only [List.length_range] at hi1
      simp only [List.getElem_range] at hi2
      subst hi2
      exact (hY _ hi1).1
    · have := hz' _ List.mem_cons_self
      rw [hB, reach_eq] at this
      simp only [List.length_map, List.length_range] at this ⊢
      exact Nat.le_trans (Nat.mul_le_mul_right _ (Nat.le_add_right _ _)) this
    · intro x hx
      obtain ⟨i, hi, rfl⟩ := List.mem_map.mp hx
      exact (hY i (List.mem_range.mp hi)).2
end
end Go.Proofs.Ytobncomimkmoeaa.F
end
section
namespace Go.Proofs.Ytobncomimkmoeaa.F
open Go.RowKit Go.Proofs.YtobncomimkmoeaaW.PrintWords
/-- What is to be shown of numbers and lists. -/
def laws_FnExactReachedFrom.Pure : Prop := ∀ (l0 : List (Int)), ((l0.length * 8 ≤ 140737488351232 ∧ l0.length ≤ maxLen ∧ ∀ yl0 ∈ l0, ((Lit.int .i64 yl0).wf = true))) → ∃ k, laws_FnExactReachedFrom.f k l0 = some true
end Go.Proofs.Ytobncomimkmoeaa.F
end
section
/- The length of all lists together. -/
namespace Go.Proofs.Ytobncomimkmoeaa.F
open Go.RowKit Go.Proofs.YtobncomimkmoeaaW.PrintWords Go.Proofs.YtobncomimkmoeaaW.PrintLast Go.Proofs.YtobncomimkmoeaaW.PrintMore
set_option linter.unusedVariables false
set_option linter.unusedSimpArgs false
def total (l : List (List Int)) : Nat := (l.map List.length).sum
theorem total_cons (x : List Int) (l : List (List Int)) : total (x :: l) = x.length + total l := by simp [total]
end Go.Proofs.Ytobncomimkmoeaa.F
end
section
/- The laws' helpers on lists of lists. -/
namespace Go.Proofs.Ytobncomimkmoeaa.F
open Go.RowKit Go.Proofs.YtobncomimkmoeaaW.PrintWords Go.Proofs.YtobncomimkmoeaaW.PrintLast Go.Proofs.YtobncomimkmoeaaW.PrintMore
set_option linter.unusedVariables false
set_option linter.unusedSimpArgs false
theorem mid_rdL (pre : List (List Int)) (x : List Int) (rest : List (List Int)) : (pre ++ x :: rest).getD ((pre.length : Int)).toNat [] = x := by simp
theorem mid_rdL1 (pre : List (List Int)) (x : List Int) (rest : List (List Int)) : rd_L1 (pre ++ x :: rest) (pre.length : Int) = x := by
  unfold rd_L1
  first | exact mid_rdL pre x rest | simp [rdOf]
theorem eqIntSS_at (rest : List (List Int)) : ∀ (pre : List (List Int)), (pre ++ rest).length ≤ 4611686018427387904 → (∀ x ∈ rest, x.length ≤ 4611686018427387904) →
    Ev (fun k => laws_eqIntSS.l0 k (pre ++ rest) (pre ++ rest) (pre.length : Int)) true := by
  induction rest with
  | nil =>
    intro pre hb hx
    exact Ev.step (f := fun _ => some true) (fun k => by rw [laws_eqIntSS.l0, if_neg (mid_nlt _)]) (Ev.now _)
  | cons x rest ih =>
    intro pre hb hx
    have h := ih (pre ++ [x]) (by simpa using hb) (fun y hy => hx y (by simp [hy]))
    rw [← mid_cons, ← mid_succ pre x (by simp at hb; omega)] at h
    refine Ev.stepb (eqIntS_same x (hx x (by simp))) (fun k => by rw [laws_eqIntSS.l0, if_pos (mid_lt _ _ _), if_pos (nn _), if_pos (mid_lt _ _ _), mid_rdL1]) ?_
    simp only [if_true]
    exact h
theorem eqIntSS_same (l : List (List Int)) (hb : l.length ≤ 4611686018427387904) (hx : ∀ x ∈ l, x.length ≤ 4611686018427387904) : Ev (fun k => laws_eqIntSS.f k l l) true := by
  unfold laws_eqIntSS.f
  simp only [if_true]
  exact eqIntSS_at l [] hb hx
end Go.Proofs.Ytobncomimkmoeaa.F
end
section
/- The laws' marks on lists of lists. -/
namespace Go.Proofs.Ytobncomimkmoeaa.F
open Go.RowKit Go.Proofs.YtobncomimkmoeaaW.PrintWords Go.Proofs.YtobncomimkmoeaaW.PrintLast Go.Proofs.YtobncomimkmoeaaW.PrintMore
set_option linter.unusedVariables false
set_option linter.unusedSimpArgs false
def markSS : Int → List (List Int) → List (List Int)
  | _, [] => []
  | a, x :: xs => seqFrom a x.length :: markSS (a + x.length) xs
theorem markIntSS_at (rest : List (List Int)) : ∀ (pre : List (List Int)) (a : Int), (pre ++ rest).length ≤ 1152921504606846976 → 0 ≤ a → a + total rest ≤ 1152921504606846976 →
    Ev (fun k => laws_markIntSS.l0 k (pre ++ rest) a (pre.length : Int)) (a + total rest, pre ++ markSS a rest) := by
  induction rest with
  | nil =>
    intro pre a hb h0 h1
    refine Ev.step (f := fun _ => some (a, pre ++ [])) (fun k => by rw [laws_markIntSS.l0, if_neg (mid_nlt _)]) ?_
    simpa [total, markSS] using Ev.now _
  | cons x rest ih =>
    intro pre a hb h0 h1
    rw [total_cons] at h1
    have h := ih (pre ++ [seqFrom a x.length]) (a + x.length) (by simpa using hb) (by omega) (by omega)
    rw [← mid_succ pre (seqFrom a x.length) (by simp at hb; omega)] at h
    have hm := markIntS_ev x a (by omega) h0 (by omega)
    refine Ev.stepb hm (fun k => by rw [laws_markIntSS.l0, if_pos (mid_lt _ _ _), if_pos (nn _), mid_rdL]) ?_
    have e : (a + (total (x :: rest) : Int), pre ++ markSS a (x :: rest)) = (a + (x.length : Int) + (total rest : Int), pre ++ [seqFrom a x.length] ++ markSS (a + x.length) rest) := by
      rw [total_cons]
      simp [markSS]
      omega
    rw [e]
    simpa [mid_set] using h
theorem markIntSS_ev (l : List (List Int)) (a : Int) (hb : l.length ≤ 1152921504606846976) (h0 : 0 ≤ a) (h1 : a + total l ≤ 1152921504606846976) : Ev (fun k => laws_markIntSS.f k l a) (a + total l, markSS a l) := by
  unfold laws_markIntSS.f
  exact markIntSS_at l [] a hb h0 h1
theorem heldIntSS_at (rest : List (List Int)) : ∀ (pre : List (List Int)) (a : Int), (pre ++ rest).length ≤ 1152921504606846976 → 0 ≤ a → a + total rest ≤ 1152921504606846976 →
    Ev (fun k => laws_heldIntSS.l0 k (pre ++ markSS a rest) a (pre.length : Int)) (a + total rest) := by
  induction rest with
  | nil =>
    intro pre a hb h0 h1
    refine Ev.step (f := fun _ => some a) (fun k => ?_) (by simpa [total] using Ev.now a)
    show laws_heldIntSS.l0 (k + 1) (pre ++ []) a _ = _
    rw [laws_heldIntSS.l0, if_neg (mid_nlt _)]
  | cons x rest ih =>
    intro pre a hb h0 h1
    rw [total_cons] at h1
    have h := ih (pre ++ [seqFrom a x.length]) (a + x.length) (by simpa using hb) (by omega) (by omega)
    rw [← mid_cons, ← mid_succ pre (seqFrom a x.length) (by simp at hb; omega)] at h
    have hm := heldIntS_ev x.length a (by omega) h0 (by omega)
    have hn : ¬ (a + (x.length : Int) < 0) := by omega
    refine Ev.stepb hm (fun k => by show laws_heldIntSS.l0 (k + 1) (pre ++ seqFrom a x.length :: markSS (a + x.length) rest) a _ = _; rw [laws_heldIntSS.l0, if_pos (mid_lt _ _ _), if_pos (nn _), mid_rdL1]) ?_
    rw [total_cons, show a + ((x.length + total rest : Nat) : Int) = a + (x.length : Int) + (total rest : Int) by omega]
    simpa [hn] using h
theorem heldIntSS_ev (l : List (List Int)) (a : Int) (hb : l.length ≤ 1152921504606846976) (h0 : 0 ≤ a) (h1 : a + total l ≤ 1152921504606846976) : Ev (fun k => laws_heldIntSS.f k (markSS a l) a) (a + total l) := by
  unfold laws_heldIntSS.f
  exact heldIntSS_at l [] a hb h0 h1
end Go.Proofs.Ytobncomimkmoeaa.F
end
section
/- ReachedFrom: both functions make the same list, or none. -/
namespace Go.Proofs.Ytobncomimkmoeaa.Pure
open Go.RowKit Go.Proofs.Ytobncomimkmoeaa.F Go.Proofs.YtobncomimkmoeaaW.PrintWords Go.Proofs.YtobncomimkmoeaaW.PrintLast Go.Proofs.YtobncomimkmoeaaW.PrintMore
set_option linter.unusedVariables false
set_option linter.unusedSimpArgs false
theorem total_le4 (l : List (List Int)) : (∀ x ∈ l, x.length ≤ 4) → total l ≤ 4 * l.length := by
  induction l with
  | nil => intro _; simp [total]
  | cons x l ih =>
    intro h
    have h1 := h x List.mem_cons_self
    have h2 := ih (fun y hy => h y (List.mem_cons_of_mem _ hy))
    unfold total at *
    simp only [List.map_cons, List.sum_cons, List.length_cons]
    omega
theorem FnExactReachedFrom : laws_FnExactReachedFrom.Pure := by
  intro l hq
  by_cases c : (l.length : Int) > 1048576
  · exact ⟨0, by unfold laws_FnExactReachedFrom.f; rw [if_pos c]⟩
  · have hb : l.length ≤ 1048576 := by omega
    obtain ⟨L, b, ⟨k2, H2⟩, ⟨k3, H3⟩, hl, hx, _⟩ := reach_both l hb (fun x hx => (wf64 (hq.2.2 x hx)).1)
    have ht := total_le4 L hx
    obtain ⟨k4, H4⟩ := markIntS_ev l 1 (by omega) (by omega) (by omega)
    obtain ⟨k5, H5⟩ := markIntSS_ev L 1 (by omega) (by omega) (by omega)
    obtain ⟨k6, H6⟩ := toIntS_ev l (by omega)
    obtain ⟨k7, H7⟩ := eqIntSS_same L (by omega) (fun x h => by have := hx x h; omega)
    obtain ⟨k8, H8⟩ := eqIntS_same l (by omega)
    obtain ⟨k9, H9⟩ := heldIntSS_ev L 1 (by omega) (by omega) (by omega)
    obtain ⟨K, hK⟩ : ∃ K, K = k2 + k3 + k4 + k5 + k6 + k7 + k8 + k9 := ⟨_, rfl⟩
    have e6 : laws_toIntS.f K l = some l := H6 K (by omega)
    have e2 : spec_ReachedFrom.f K l = some (L, b) := H2 K (by omega)
    have e4 : laws_markIntS.f K l 1 = some ((1 : Int) + (l.length : Int), seqFrom 1 l.length) := H4 K (by omega)
    have e5 : laws_markIntSS.f K L 1 = some ((1 : Int) + (total L : Int), markSS 1 L) := H5 K (by omega)
    refine ⟨K, ?_⟩
    unfold laws_FnExactReachedFrom.f
    rw [if_neg c, e6, Option.bind_some, e2, Option.bind_some, e4, Option.bind_some]
    simp only
    rw [e5, Option.bind_some]
    rw [if_pos]
    exact ⟨H3 K (by omega), H7 K (by omega), H8 K (by omega), by omega, by omega, H9 K (by omega)⟩
end Go.Proofs.Ytobncomimkmoeaa.Pure
end
