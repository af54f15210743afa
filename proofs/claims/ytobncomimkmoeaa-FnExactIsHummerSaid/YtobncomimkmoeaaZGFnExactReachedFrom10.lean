import Derived.Test.YtobncomimkmoeaaZGFnExactReachedFrom4
import Derived.Test.YtobncomimkmoeaaZGFnExactReachedFrom7
import Derived.Test.YtobncomimkmoeaaZGFnExactReachedFrom8
import Derived.Test.YtobncomimkmoeaaZGFnExactReachedFrom5
import Derived.Test.YtobncomimkmoeaaZGFnExactReachedFrom6
import Derived.Test.YtobncomimkmoeaaZGFnExactReachedFrom9
section
/- Laid by a program of this claim's own. What the Go function does, as a Lean function, and the proof that the Go code does just that; Lean checks it. -/
namespace Go.Proofs.Ytobncomimkmoeaa.F
open Go.RowKit Go.Proofs.YtobncomimkmoeaaW.PrintWords Go.Proofs.YtobncomimkmoeaaW.PrintLast Go.Proofs.YtobncomimkmoeaaW.PrintMore
attribute [local go_sem] max2_int min2_int max_two min_two max_three min_three max_four min_four   -- for this text's walks alone
set_option linter.unusedVariables false
set_option linter.unusedSimpArgs false
/-! ### laws_heldIntS: function 16 -/
def laws_heldIntS.l0 : Nat → List Int → Int → Int → Option (Int)
  | 0, _, _, _ => none
  | k + 1, x0, x1, x5 => if x5 < (x0.length : Int) then (if 0 ≤ x5 then (if (rd x0 x5) = x1 then (laws_heldIntS.l0 k x0 (wrap64 (x1 + 1)) (wrap64 (x5 + 1))) else (some (-1))) else (none)) else (some x1)
def laws_heldIntS.f (k : Nat) (l0 : List Int) (a1 : Int) : Option (Int) := laws_heldIntS.l0 k l0 a1 0
set_option maxHeartbeats 8000000 in
set_option maxRecDepth 100000 in
theorem laws_heldIntS.calls (k : Nat) (A0 : Option Addr) (c0 : Nat) (l0 : List Int) (a1 : Int) (r : Int) (w : World) (hr0 : Kd.C (Kd.int .i64) w A0 l0.length l0) (hc0 : l0.length ≤ c0) (h : laws_heldIntS.f k l0 a1 = some r) :
    Calls Try.prog 16 #[.slice A0 l0.length c0, .int .i64 a1] w fun e w' => e = .returned (.int .i64 r) ∧ Drawn0 w w' := by
  have HR0 := Aside0.mk hr0
  have HC0 := Aside0.mk hc0
  clear hr0 hc0
  have H : (laws_heldIntS.l0 k l0 a1 0) = some r := h
  clear h
  have H' := Aside0.mk H
  clear H
  go_enter Try.func16, Try.ntmps16
  go_wp2
  go_loopg [1, 5] k (fun kq v1 v5 w' => ∃ (x1_1 : Int) (x5_1 : Int), v1 = .int .i64 x1_1 ∧ v5 = .int .i64 x5_1 ∧ Aside0 (laws_heldIntS.l0 kq l0 x1_1 x5_1 = some r) ∧ Aside0 (kq ≤ k) ∧ Drawn0 w w')
  case atStart => exact ⟨(a1), (0), (by first | rfl | (simp; done) | (simp [*]; done)), (by first | rfl | (simp; done) | (simp [*]; done)), H', ⟨Nat.le_refl _⟩, by repeat (first | exact Drawn0.refl _ | apply Drawn0.step)⟩
  case round =>
    clear H'
    try clear c1
    try clear p2
    obtain ⟨x1_1, x5_1, rfl, rfl, HA, HK1, ⟨m1, rfl⟩⟩ := hrel
    cases gk with
    | zero => exact absurd HA.out (by simp [laws_heldIntS.l0])
    | succ k1 =>
      have H := HA.out
      clear HA
      simp only [laws_heldIntS.l0] at H
      by_cases c3 : x5_1 < (l0.length : Int)
      · rw [if_pos c3] at H
        have c3b0 : decide (x5_1 < (l0.length : Int)) = true := decide_eq_true c3
        clear c3
        by_cases c4 : 0 ≤ x5_1
        · rw [if_pos c4] at H
          have c4b0 : decide (0 ≤ x5_1) = true := decide_eq_true c4
          clear c4
          by_cases c5 : (rd l0 x5_1) = x1_1
          · rw [if_pos c5] at H
            have c5b0 : ((rd l0 x5_1) == x1_1) = true := beq_iff_eq.mpr c5
            have c5b1 : ((rd l0 x5_1) != x1_1) = false := bne_eq_false_iff_eq.mpr c5
            clear c5
            have H' := Aside0.mk H
            clear H
            have p258 : 0 ≤ (x5_1 : Int) := of_decide_eq_true (by first | (with_reducible assumption) | assumption)
            have q258 : x5_1 < (l0.length : Int) := of_decide_eq_true (by first | (with_reducible assumption) | assumption)
            obtain ⟨ad258, e258, hx258_0⟩ := Kd.at_int HR0.out x5_1 p258 q258
            cases e258
            replace p258 := eq_true p258
            replace q258 := eq_true q258
            go_wp2
            go_roundg k1
            case measure => have := HK1.out; omega
            case rel => exact ⟨(wrap64 (x1_1 + 1)), (wrap64 (x5_1 + 1)), (by first | rfl | (simp; done) | (simp [*]; done)), (by first | rfl | (simp; done) | (simp [*]; done)), H', ⟨by have := HK1.out; omega⟩, by repeat (first | exact Drawn0.refl _ | apply Drawn0.step)⟩
          · rw [if_neg c5] at H
            have c5b0 : ((rd l0 x5_1) == x1_1) = false := beq_eq_false_iff_ne.mpr c5
            have c5b1 : ((rd l0 x5_1) != x1_1) = true := bne_iff_ne.mpr c5
            obtain rfl := Option.some.inj H
            have p258 : 0 ≤ (x5_1 : Int) := of_decide_eq_true (by first | (with_reducible assumption) | assumption)
            have q258 : x5_1 < (l0.length : Int) := of_decide_eq_true (by first | (with_reducible assumption) | assumption)
            obtain ⟨ad258, e258, hx258_0⟩ := Kd.at_int HR0.out x5_1 p258 q258
            cases e258
            replace p258 := eq_true p258
            replace q258 := eq_true q258
            go_wp2
            go_ret
            exact ⟨by first | rfl | (simp; done) | (simp [*]; done), by repeat (first | exact Drawn0.refl _ | apply Drawn0.step)⟩
        · rw [if_neg c4] at H
          exact absurd H (by simp)
      · rw [if_neg c3] at H
        have c3b0 : decide (x5_1 < (l0.length : Int)) = false := decide_eq_false c3
        clear c3
        obtain rfl := Option.some.inj H
        go_wp2
        go_ret
        exact ⟨by first | rfl | (simp; done) | (simp [*]; done), by repeat (first | exact Drawn0.refl _ | apply Drawn0.step)⟩
end Go.Proofs.Ytobncomimkmoeaa.F
end
section
/- What the laws' own helpers tell: equality, a copy, marks and whether they are held. -/
namespace Go.Proofs.Ytobncomimkmoeaa.F
open Go.RowKit Go.Proofs.YtobncomimkmoeaaW.PrintWords Go.Proofs.YtobncomimkmoeaaW.PrintLast Go.Proofs.YtobncomimkmoeaaW.PrintMore
set_option linter.unusedVariables false
set_option linter.unusedSimpArgs false
theorem eqIntS_at (rest : List Int) : ∀ (pre : List Int) (ys : List Int), (pre ++ ys).length ≤ 4611686018427387904 → rest.length = ys.length →
    Ev (fun k => laws_eqIntS.l0 k (pre ++ rest) (pre ++ ys) (pre.length : Int)) (decide (rest = ys)) := by
  induction rest with
  | nil =>
    intro pre ys hb hl
    obtain rfl : ys = [] := List.eq_nil_of_length_eq_zero hl.symm
    exact Ev.step (f := fun _ => some true) (fun k => by rw [laws_eqIntS.l0, if_neg (mid_nlt _)]) (Ev.now _)
  | cons x rest ih =>
    intro pre ys hb hl
    cases ys with
    | nil => simp at hl
    | cons y ys =>
      by_cases e : x = y
      · subst e
        have h := ih (pre ++ [x]) ys (by simpa using hb) (by simpa using hl)
        rw [← mid_cons, ← mid_cons] at h
        rw [show decide (x :: rest = x :: ys) = decide (rest = ys) by simp]
        exact Ev.step (fun k => by rw [laws_eqIntS.l0, if_pos (mid_lt _ _ _), if_pos (nn _), if_pos (mid_lt _ _ _), mid_rd, mid_rd, if_pos rfl, mid_succ pre x (by simp at hb; omega)]) h
      · rw [show decide (x :: rest = y :: ys) = false by simp [e]]
        exact Ev.step (f := fun _ => some false) (fun k => by rw [laws_eqIntS.l0, if_pos (mid_lt _ _ _), if_pos (nn _), if_pos (mid_lt _ _ _), mid_rd, mid_rd, if_neg e]) (Ev.now _)
theorem eqIntS_ev (l m : List Int) (hl : l.length ≤ 4611686018427387904) : Ev (fun k => laws_eqIntS.f k l m) (decide (l = m)) := by
  unfold laws_eqIntS.f
  by_cases e : (l.length : Int) = (m.length : Int)
  · have h := eqIntS_at l [] m (by simp; omega) (by omega)
    simpa [e] using h
  · have e2 : ¬ l = m := fun h => e (by rw [h])
    simp only [if_neg e, e2, decide_false]
    exact Ev.now _
theorem eqIntS_same (l : List Int) (hl : l.length ≤ 4611686018427387904) : Ev (fun k => laws_eqIntS.f k l l) true := by
  have := eqIntS_ev l l hl
  simpa using this
theorem toIntS_at (rest : List Int) : ∀ (pre zs : List Int), (pre ++ rest).length ≤ 4611686018427387904 → zs.length = rest.length →
    Ev (fun k => laws_toIntS.l0 k (pre ++ rest) (pre ++ zs) (pre.length : Int)) (pre ++ rest) := by
  induction rest with
  | nil =>
    intro pre zs hb hl
    obtain rfl : zs = [] := List.eq_nil_of_length_eq_zero hl
    exact Ev.step (f := fun _ => some (pre ++ [])) (fun k => by rw [laws_toIntS.l0, if_neg (mid_nlt _)]) (Ev.now _)
  | cons x rest ih =>
    intro pre zs hb hl
    cases zs with
    | nil => simp at hl
    | cons z zs =>
      have h := ih (pre ++ [x]) zs (by simpa using hb) (by simpa using hl)
      rw [← mid_cons] at h
      exact Ev.step (fun k => by rw [laws_toIntS.l0, if_pos (mid_lt _ _ _), if_pos (nn _), if_pos (mid_lt _ _ _), mid_rd, mid_set, mid_succ pre x (by simp at hb; omega)]) h
theorem toIntS_ev (l : List Int) (hl : l.length ≤ 35184372088832) : Ev (fun k => laws_toIntS.f k l) l := by
  unfold laws_toIntS.f
  have h := toIntS_at l [] (List.replicate l.length 0) (by simp; omega) (by simp)
  have e2 : (0 : Int) ≤ (l.length : Int) := nn _
  simpa [hl] using h
theorem markIntS_at (rest : List Int) : ∀ (pre : List Int) (a : Int), (pre ++ rest).length ≤ 4611686018427387904 → 0 ≤ a → a + rest.length ≤ 4611686018427387904 →
    Ev (fun k => laws_markIntS.l0 k (pre ++ rest) a (pre.length : Int)) (a + rest.length, pre ++ seqFrom a rest.length) := by
  induction rest with
  | nil =>
    intro pre a hb h0 h1
    refine Ev.step (f := fun _ => some (a + 0, pre ++ [])) (fun k => ?_) ?_
    · rw [laws_markIntS.l0, if_neg (mid_nlt _)]
      simp
    · simpa [seqFrom] using Ev.now _
  | cons x rest ih =>
    intro pre a hb h0 h1
    have h := ih (pre ++ [a]) (a + 1) (by simpa using hb) (by omega) (by simp at h1; omega)
    have e : (a + ((x :: rest).length : Int), pre ++ seqFrom a (x :: rest).length) = (a + 1 + (rest.length : Int), pre ++ [a] ++ seqFrom (a + 1) rest.length) := by
      simp [seqFrom]
      omega
    rw [e]
    exact Ev.step (fun k => by rw [laws_markIntS.l0, if_pos (mid_lt _ _ _), if_pos (nn _), mid_set, w64_id (by omega) (by simp at h1; omega), mid_succ pre a (by simp at hb; omega)]) h
theorem markIntS_ev (l : List Int) (a : Int) (hl : l.length ≤ 1152921504606846976) (h0 : 0 ≤ a) (h1 : a ≤ 1152921504606846976) : Ev (fun k => laws_markIntS.f k l a) (a + l.length, seqFrom a l.length) := by
  unfold laws_markIntS.f
  have h := markIntS_at l [] a (by simp; omega) h0 (by omega)
  simpa using h
theorem heldIntS_at (n : Nat) : ∀ (pre : List Int) (a : Int), (pre ++ seqFrom a n).length ≤ 4611686018427387904 → 0 ≤ a → a + n ≤ 4611686018427387904 →
    Ev (fun k => laws_heldIntS.l0 k (pre ++ seqFrom a n) a (pre.length : Int)) (a + n) := by
  induction n with
  | zero =>
    intro pre a hb h0 h1
    refine Ev.step (f := fun _ => some (a + 0)) (fun k => ?_) ?_
    · show laws_heldIntS.l0 (k + 1) (pre ++ []) a _ = _
      rw [laws_heldIntS.l0, if_neg (mid_nlt _)]
      simp
    · simpa using Ev.now _
  | succ n ih =>
    intro pre a hb h0 h1
    have h := ih (pre ++ [a]) (a + 1) (by simpa [seqFrom] using hb) (by omega) (by omega)
    rw [← mid_cons] at h
    have e : a + ((n + 1 : Nat) : Int) = a + 1 + (n : Int) := by omega
    rw [e]
    refine Ev.step (fun k => ?_) h
    show laws_heldIntS.l0 (k + 1) (pre ++ a :: seqFrom (a + 1) n) a _ = _
    rw [laws_heldIntS.l0, if_pos (mid_lt _ _ _), if_pos (nn _), mid_rd, if_pos rfl, w64_id (by omega) (by omega), mid_succ pre a (by simp at hb; omega)]
theorem heldIntS_ev (n : Nat) (a : Int) (hl : n ≤ 1152921504606846976) (h0 : 0 ≤ a) (h1 : a ≤ 1152921504606846976) : Ev (fun k => laws_heldIntS.f k (seqFrom a n) a) (a + n) := by
  unfold laws_heldIntS.f
  have h := heldIntS_at n [] a (by simp [seqFrom_length]; omega) h0 (by omega)
  simpa using h
end Go.Proofs.Ytobncomimkmoeaa.F
end
section
/- Cards, and when a list is a packet: the program's and the reference's functions tell one thing. -/
namespace Go.Proofs.Ytobncomimkmoeaa.F
open Go.RowKit Go.Proofs.YtobncomimkmoeaaW.PrintWords Go.Proofs.YtobncomimkmoeaaW.PrintLast Go.Proofs.YtobncomimkmoeaaW.PrintMore
set_option linter.unusedVariables false
set_option linter.unusedSimpArgs false
theorem wf64 {x : Int} (h : (Lit.int .i64 x).wf = true) : -9223372036854775808 ≤ x ∧ x ≤ 9223372036854775807 := by
  have := h
  simp only [Lit.wf, Bool.and_eq_true, decide_eq_true_eq] at this
  have a : IntKind.i64.min = -9223372036854775808 := by kernel_rfl
  have b : IntKind.i64.max = 9223372036854775807 := by kernel_rfl
  omega
theorem l01In_eq (a b c : Int) : spec_l01In.f a b c = some (decide (b ≤ a ∧ a ≤ c)) := by
  unfold spec_l01In.f
  by_cases h : b ≤ a
  · simp [h]
  · simp [h]
def cardOf (x : Int) : Int := if 0 ≤ x ∧ x ≤ 11 then x else if -12 ≤ x ∧ x ≤ -1 then -1 - x else -1
theorem cardOf_lt (x : Int) : cardOf x < 12 := by
  unfold cardOf
  repeat' split
  all_goals omega
theorem spec_CardOf_eq (x : Int) : spec_CardOf.f x = some (cardOf x) := by
  unfold spec_CardOf.f cardOf
  rw [l01In_eq, l01In_eq]
  by_cases h : 0 ≤ x ∧ x ≤ 11
  · simp [h]
  · by_cases k : -12 ≤ x ∧ x ≤ -1
    · have e : wrap64 (-1 - x) = -1 - x := w64_id (by omega) (by omega)
      simp [h, k, e]
    · simp [h, k]
theorem impl_CardOf_eq (x : Int) (h0 : -9223372036854775808 ≤ x) : impl_CardOf.f x = some (cardOf x) := by
  unfold impl_CardOf.f cardOf
  by_cases h : x < 0
  · have e : wrap64 (-1 - x) = -1 - x := w64_id (by omega) (by omega)
    simp only [if_pos h, e]
    by_cases k : -1 - x ≥ 12
    · rw [if_pos k, if_neg (by omega), if_neg (by omega)]
    · rw [if_neg k, if_neg (by omega), if_pos (by omega)]
  · simp only [if_neg h]
    by_cases k : x ≥ 12
    · rw [if_pos k, if_neg (by omega), if_neg (by omega)]
    · rw [if_neg k, if_pos (by omega)]
theorem l02Has_at (x : Int) (rest : List Int) : ∀ (pre : List Int), (pre ++ rest).length ≤ 4611686018427387904 →
    Ev (fun k => spec_l02Has.l0 k x (pre ++ rest) ((pre ++ rest).length : Int) (pre.length : Int)) (rest.contains x) := by
  induction rest with
  | nil =>
    intro pre hb
    exact Ev.step (f := fun _ => some false) (fun k => by rw [spec_l02Has.l0, if_neg (mid_nlt _)]) (Ev.now _)
  | cons y rest ih =>
    intro pre hb
    by_cases e : y = x
    · subst e
      simp only [List.contains_cons, beq_self_eq_true, Bool.true_or]
      exact Ev.step (f := fun _ => some true) (fun k => by rw [spec_l02Has.l0, if_pos (mid_lt _ _ _), if_pos (nn _), if_pos (mid_lt _ _ _), mid_rd, if_pos rfl]) (Ev.now _)
    · have h := ih (pre ++ [y]) (by simpa using hb)
      rw [← mid_cons] at h
      rw [show (y :: rest).contains x = rest.contains x by simp only [List.contains_cons]; rw [show (x == y) = false by simpa using fun h => e h.symm]; rfl]
      exact Ev.step (fun k => by rw [spec_l02Has.l0, if_pos (mid_lt _ _ _), if_pos (nn _), if_pos (mid_lt _ _ _), mid_rd, if_neg e, mid_succ pre y (by simp at hb; omega)]) h
theorem l02Has_ev (l : List Int) (x : Int) (hb : l.length ≤ 4611686018427387904) : Ev (fun k => spec_l02Has.f k l x) (l.contains x) := l02Has_at x l [] hb
/-- Is a list a packet: the cards met so far are told by twelve bools. -/
def packetM : List Bool → List Int → Bool
  | _, [] => true
  | met, x :: xs => if cardOf x < 0 then false else if met.getD (cardOf x).toNat false = true then false else packetM (met.set (cardOf x).toNat true) xs
def packetB (l : List Int) : Bool := packetM (List.replicate 12 false) l
theorem impl_PacketOk_at (rest : List Int) : ∀ (pre : List Int) (met : List Bool), (pre ++ rest).length ≤ 4611686018427387904 → (∀ x ∈ rest, -9223372036854775808 ≤ x) →
    Ev (fun k => impl_PacketOk.l0 k (pre ++ rest) met (pre.length : Int)) (packetM met rest) := by
  induction rest with
  | nil =>
    intro pre met hb hw
    exact Ev.step (f := fun _ => some true) (fun k => by rw [impl_PacketOk.l0, if_neg (mid_nlt _)]) (Ev.now _)
  | cons x rest ih =>
    intro pre met hb hw
    have hx := hw x (by simp)
    unfold packetM
    by_cases c : cardOf x < 0
    · rw [if_pos c]
      exact Ev.step (f := fun _ => some false) (fun k => by rw [impl_PacketOk.l0, if_pos (mid_lt _ _ _), if_pos (nn _), mid_rd, impl_CardOf_eq x hx]; simp only [Option.bind_some]; rw [if_pos c]) (Ev.now _)
    · rw [if_neg c]
      by_cases m : met.getD (cardOf x).toNat false = true
      · rw [if_pos m]
        exact Ev.step (f := fun _ => some false) (fun k => by rw [impl_PacketOk.l0, if_pos (mid_lt _ _ _), if_pos (nn _), mid_rd, impl_CardOf_eq x hx]; simp only [Option.bind_some]; rw [if_neg c, if_pos (cardOf_lt x), if_pos m]) (Ev.now _)
      · rw [if_neg m]
        have h := ih (pre ++ [x]) (met.set (cardOf x).toNat true) (by simpa using hb) (fun y hy => hw y (by simp [hy]))
        rw [← mid_cons] at h
        exact Ev.step (fun k => by rw [impl_PacketOk.l0, if_pos (mid_lt _ _ _), if_pos (nn _), mid_rd, impl_CardOf_eq x hx]; simp only [Option.bind_some]; rw [if_neg c, if_pos (cardOf_lt x), if_neg m, mid_succ pre x (by simp at hb; omega)]) h
theorem impl_PacketOk_ev (l : List Int) (hb : l.length ≤ 4611686018427387904) (hw : ∀ x ∈ l, -9223372036854775808 ≤ x) : Ev (fun k => impl_PacketOk.f k l) (packetB l) := impl_PacketOk_at l [] _ hb hw
theorem count_set (l : List Bool) : ∀ i, i < l.length → l.getD i false ≠ true → (l.set i true).count true = l.count true + 1 := by
  induction l with
  | nil => intro i h; simp at h
  | cons b l ih =>
    intro i h hb
    cases i with
    | zero =>
      cases b with
      | true => simp at hb
      | false => simp
    | succ i =>
      have := ih i (by simpa using h) (by simpa using hb)
      simp only [List.set_cons_succ, List.count_cons]
      omega
theorem packetM_len (xs : List Int) : ∀ met : List Bool, met.length = 12 → packetM met xs = true → met.count true + xs.length ≤ 12 := by
  induction xs with
  | nil =>
    intro met hl _
    have := List.count_le_length (a := true) (l := met)
    simp; omega
  | cons x xs ih =>
    intro met hl h
    unfold packetM at h
    by_cases c : cardOf x < 0
    · rw [if_pos c] at h; cases h
    · rw [if_neg c] at h
      by_cases m : met.getD (cardOf x).toNat false = true
      · rw [if_pos m] at h; cases h
      · rw [if_neg m] at h
        have h1 := ih _ (by simpa using hl) h
        have := cardOf_lt x
        rw [count_set met _ (by omega) m] at h1
        simp; omega
theorem packetB_len {l : List Int} (h : packetB l = true) : l.length ≤ 12 := by
  have := packetM_len l _ (by simp) h
  simp at this
  omega
theorem set_getD (met : List Bool) (i j : Nat) (hi : i < met.length) : (met.set i true).getD j false = (decide (j = i) || met.getD j false) := by
  by_cases e : j = i
  · subst e
    simp [List.getD_eq_getElem?_getD, hi]
  · have e' : ¬ i = j := fun h => e h.symm
    simp [List.getD_eq_getElem?_getD, List.getElem?_set, e, e']
theorem spec_PacketOk_at (rest : List Int) : ∀ (pre seen : List Int) (met : List Bool), (pre ++ rest).length ≤ 12 → seen.length = pre.length → met.length = 12 → (∀ c : Int, 0 ≤ c → c < 12 → seen.contains c = met.getD c.toNat false) →
    Ev (fun k => spec_PacketOk.l0 k seen (pre ++ rest) ((pre ++ rest).length : Int) (pre.length : Int)) (packetM met rest) := by
  induction rest with
  | nil =>
    intro pre seen met hb hs hm hr
    exact Ev.step (f := fun _ => some true) (fun k => by rw [spec_PacketOk.l0, if_neg (mid_nlt _)]) (Ev.now _)
  | cons x rest ih =>
    intro pre seen met hb hs hm hr
    have hlt := cardOf_lt x
    unfold packetM
    by_cases c : cardOf x < 0
    · rw [if_pos c]
      exact Ev.step (f := fun _ => some false) (fun k => by rw [spec_PacketOk.l0, if_pos (mid_lt _ _ _), if_pos (nn _), if_pos (mid_lt _ _ _), mid_rd, spec_CardOf_eq x]; simp only [Option.bind_some]; rw [if_pos c]) (Ev.now _)
    · rw [if_neg c]
      have hh := l02Has_ev seen (cardOf x) (by simp at hb; omega)
      rw [hr _ (by omega) hlt] at hh
      by_cases m : met.getD (cardOf x).toNat false = true
      · rw [if_pos m]
        rw [m] at hh
        refine Ev.stepb hh (fun k => by rw [spec_PacketOk.l0, if_pos (mid_lt _ _ _), if_pos (nn _), if_pos (mid_lt _ _ _), mid_rd, spec_CardOf_eq x]; simp only [Option.bind_some]; rw [if_neg c]) ?_
        simp only [if_true]
        exact Ev.now _
      · rw [if_neg m]
        have m' : met.getD (cardOf x).toNat false = false := by simpa using m
        rw [m'] at hh
        have h := ih (pre ++ [x]) (seen ++ [cardOf x]) (met.set (cardOf x).toNat true) (by simpa using hb) (by simp [hs]) (by simpa using hm) (by
          intro d d0 d1
          rw [set_getD met _ _ (by omega), ← hr d d0 d1]
          rw [Bool.eq_iff_iff]
          simp only [List.contains_iff_mem, List.mem_append, List.mem_singleton, Bool.or_eq_true, decide_eq_true_eq]
          constructor
          · rintro (h | h)
            · exact .inr h
            · exact .inl (by omega)
          · rintro (h | h)
            · exact .inr (by omega)
            · exact .inl h)
        rw [← mid_cons] at h
        refine Ev.stepb hh (fun k => by rw [spec_PacketOk.l0, if_pos (mid_lt _ _ _), if_pos (nn _), if_pos (mid_lt _ _ _), mid_rd, spec_CardOf_eq x]; simp only [Option.bind_some]; rw [if_neg c]) ?_
        have hl : seen.length < 17592186044416 := by simp at hb; omega
        have hs2 := mid_succ pre x (by simp at hb; omega)
        simpa [hl, hs2] using h
theorem spec_PacketOk_ev (l : List Int) : Ev (fun k => spec_PacketOk.f k l) (packetB l) := by
  unfold spec_PacketOk.f
  by_cases h : (l.length : Int) > 12
  · have : packetB l = false := by
      cases e : packetB l with
      | false => rfl
      | true => have := packetB_len e; omega
    rw [this]
    simp only [if_pos h]
    exact Ev.now _
  · simp only [if_neg h]
    exact spec_PacketOk_at l [] [] _ (by simp; omega) rfl (by simp) (by
      intro c h0 h1
      have : c.toNat < 12 := by omega
      rw [List.getD_eq_getElem?_getD, List.getElem?_replicate, if_pos this]
      rfl)
end Go.Proofs.Ytobncomimkmoeaa.F
end
section
/- Cards turned over: the program's function. -/
namespace Go.Proofs.Ytobncomimkmoeaa.F
open Go.RowKit Go.Proofs.YtobncomimkmoeaaW.PrintWords Go.Proofs.YtobncomimkmoeaaW.PrintLast Go.Proofs.YtobncomimkmoeaaW.PrintMore
set_option linter.unusedVariables false
set_option linter.unusedSimpArgs false
def turnC (x : Int) : Int := if cardOf x < 0 then x else -1 - x
theorem card_small {x : Int} (h : 0 ≤ cardOf x) : -12 ≤ x ∧ x ≤ 11 := by
  unfold cardOf at h
  by_cases c : 0 ≤ x ∧ x ≤ 11
  · omega
  · rw [if_neg c] at h
    by_cases d : -12 ≤ x ∧ x ≤ -1
    · omega
    · rw [if_neg d] at h; omega
theorem impl_turn (x : Int) (h : -9223372036854775808 ≤ x) : impl_TurnCard.f x = some (turnC x) := by
  unfold impl_TurnCard.f turnC
  rw [impl_CardOf_eq x h]
  simp only [Option.bind_some]
  by_cases c : cardOf x < 0
  · rw [if_pos c, if_pos c]
  · have := card_small (x := x) (by omega)
    rw [if_neg c, if_neg c, w64_id (by omega) (by omega)]
end Go.Proofs.Ytobncomimkmoeaa.F
end
section
/- Cards turned over: the reference's function. -/
namespace Go.Proofs.Ytobncomimkmoeaa.F
open Go.RowKit Go.Proofs.YtobncomimkmoeaaW.PrintWords Go.Proofs.YtobncomimkmoeaaW.PrintLast Go.Proofs.YtobncomimkmoeaaW.PrintMore
set_option linter.unusedVariables false
set_option linter.unusedSimpArgs false
theorem spec_turn (x : Int) : spec_TurnCard.f x = some (turnC x) := by
  unfold spec_TurnCard.f turnC
  rw [spec_CardOf_eq]
  simp only [Option.bind_some]
  by_cases c : cardOf x < 0
  · rw [if_pos c, if_pos c]
  · have := card_small (x := x) (by omega)
    rw [if_neg c, if_neg c, w64_id (by omega) (by omega)]
end Go.Proofs.Ytobncomimkmoeaa.F
end
section
/- Moves of the reference, kind by kind. -/
namespace Go.Proofs.Ytobncomimkmoeaa.F
open Go.RowKit Go.Proofs.YtobncomimkmoeaaW.PrintWords Go.Proofs.YtobncomimkmoeaaW.PrintLast Go.Proofs.YtobncomimkmoeaaW.PrintMore
set_option linter.unusedVariables false
set_option linter.unusedSimpArgs false
theorem spec_cut_ev (l : List Int) (k : Int) (hb : l.length ≤ 1048576) (h0 : 0 ≤ k) (h1 : k ≤ (l.length : Int)) : Ev (fun n => spec_l04Do.f n l 1 k) (l.drop k.toNat ++ l.take k.toNat) := by
  unfold spec_l04Do.f
  simp only [if_true, Option.bind_some, if_pos h0, if_pos h1, List.nil_append, List.length_nil, Nat.zero_add]
  rw [if_pos (by simp; omega), if_pos (by simp; omega)]
  exact Ev.now _
theorem spec_back_at (l : List Int) (c : Nat) (up : Bool) (hb : l.length ≤ 1048576) (hc : c ≤ l.length) (rest : List Int) : ∀ (tl out : List Int), l = rest ++ tl → out.length + rest.length = c → 
    Ev (fun n => spec_l04Back.l0 n l (c : Int) up out ((rest.length : Int) - 1)) (out ++ rest.reverse.map (fun x => if up then turnC x else x) ++ l.drop c) := by
  intro tl out e ho
  induction h : rest.length generalizing rest tl out with
  | zero =>
    obtain rfl : rest = [] := List.eq_nil_of_length_eq_zero h
    refine Ev.step (f := fun _ => some (out ++ l.drop c)) (fun k => ?_) (by simpa using Ev.now _)
    show spec_l04Back.l0 (k + 1) _ _ _ _ _ = _
    simp only [List.length_nil] at ho
    rw [spec_l04Back.l0, if_neg (by simp), if_pos (nn _), if_pos (by omega), Int.toNat_natCast, if_pos (by simp; omega)]
  | succ m ih =>
    rcases List.eq_nil_or_concat rest with rfl | ⟨r, x, rfl⟩
    · simp at h
    · rw [List.concat_eq_append] at *
      have hm : r.length = m := by simpa using h
      have h2 := ih r (x :: tl) (out ++ [if up then turnC x else x]) (by rw [e]; simp) (by simp at ho ⊢; omega) hm
      have hr : rd l ((((m + 1 : Nat) : Int)) - 1) = x := by
        rw [e, show (((m + 1 : Nat) : Int)) - 1 = (r.length : Int) by omega, List.append_assoc]
        exact mid_rd _ _ _
      have hl : ((l.length : Nat) : Int) = (m : Int) + 1 + (tl.length : Int) := by rw [e]; simp; omega
      have hw : wrap64 ((((m + 1 : Nat) : Int)) - 1 - 1) = (m : Int) - 1 := by rw [w64_id (by omega) (by omega)]; omega
      rw [show out ++ (r ++ [x]).reverse.map (fun x => if up then turnC x else x) ++ l.drop c = out ++ [if up then turnC x else x] ++ r.reverse.map (fun x => if up then turnC x else x) ++ l.drop c by simp]
      refine Ev.step (fun k => ?_) h2
      show spec_l04Back.l0 (k + 1) _ _ _ _ _ = _
      simp only [List.length_append, List.length_singleton] at ho
      cases up with
      | true => rw [spec_l04Back.l0, if_pos (by omega), if_pos rfl, if_pos (by omega), if_pos (by omega), hr, spec_turn, Option.bind_some, if_pos (by omega), hw]; rfl
      | false => rw [spec_l04Back.l0, if_pos (by omega), if_neg (by simp), if_pos (by omega), if_pos (by omega), hr, if_pos (by omega), hw]; rfl
theorem spec_back_ev (l : List Int) (k : Int) (up : Bool) (hb : l.length ≤ 1048576) (h0 : 0 ≤ k) (h1 : k ≤ (l.length : Int)) : Ev (fun n => spec_l04Back.f n l k up) ((l.take k.toNat).reverse.map (fun x => if up then turnC x else x) ++ l.drop k.toNat) := by
  obtain ⟨c, rfl⟩ := Int.eq_ofNat_of_zero_le h0
  unfold spec_l04Back.f
  rw [w64_id (by omega) (by omega), Int.toNat_natCast]
  have h := spec_back_at l c up hb (by omega) (l.take c) (l.drop c) [] (List.take_append_drop _ _).symm (by simp; omega)
  rw [show (((l.take c).length : Nat) : Int) = (c : Int) by simp; omega] at h
  simpa using h
end Go.Proofs.Ytobncomimkmoeaa.F
end
section
/- When a list is a packet, by its cards. -/
namespace Go.Proofs.Ytobncomimkmoeaa.F
open Go.RowKit Go.Proofs.YtobncomimkmoeaaW.PrintWords Go.Proofs.YtobncomimkmoeaaW.PrintLast Go.Proofs.YtobncomimkmoeaaW.PrintMore
set_option linter.unusedVariables false
set_option linter.unusedSimpArgs false
theorem packetM_back (xs : List Int) : ∀ met : List Bool, met.length = 12 → (∀ x ∈ xs, 0 ≤ cardOf x ∧ met.getD (cardOf x).toNat false = false) → (xs.map cardOf).Nodup → packetM met xs = true := by
  induction xs with
  | nil => intro met hm h hn; rfl
  | cons x xs ih =>
    intro met hm h hn
    have hx := h x (by simp)
    rw [List.map_cons, List.nodup_cons] at hn
    have hlt := cardOf_lt x
    unfold packetM
    rw [if_neg (by omega), hx.2, if_neg (by simp)]
    refine ih _ (by rw [List.length_set]; exact hm) (fun y hy => ?_) hn.2
    have hyy := h y (by simp [hy])
    refine ⟨hyy.1, ?_⟩
    rw [set_getD met _ _ (by omega), hyy.2, Bool.or_false]
    refine decide_eq_false (fun e => hn.1 ?_)
    have : cardOf y = cardOf x := by omega
    rw [← this]
    exact List.mem_map.mpr ⟨y, hy, rfl⟩
theorem packetM_nd (xs : List Int) : ∀ met : List Bool, met.length = 12 → packetM met xs = true → (∀ x ∈ xs, 0 ≤ cardOf x ∧ met.getD (cardOf x).toNat false = false) ∧ (xs.map cardOf).Nodup := by
  induction xs with
  | nil => intro met hm h; exact ⟨by simp, by simp⟩
  | cons x xs ih =>
    intro met hm h
    have hlt := cardOf_lt x
    unfold packetM at h
    by_cases c : cardOf x < 0
    · rw [if_pos c] at h; exact absurd h (by simp)
    · rw [if_neg c] at h
      by_cases d : met.getD (cardOf x).toNat false = true
      · rw [if_pos d] at h; exact absurd h (by simp)
      · rw [if_neg d] at h
        obtain ⟨h1, h2⟩ := ih _ (by rw [List.length_set]; exact hm) h
        have d' : met.getD (cardOf x).toNat false = false := by simpa using d
        refine ⟨fun y hy => ?_, ?_⟩
        · rcases List.mem_cons.mp hy with rfl | hy
          · exact ⟨by omega, d'⟩
          · have := h1 y hy
            rw [set_getD met _ _ (by omega), Bool.or_eq_false_iff] at this
            exact ⟨this.1, this.2.2⟩
        · rw [List.map_cons, List.nodup_cons]
          refine ⟨fun hm2 => ?_, h2⟩
          obtain ⟨y, hy, e⟩ := List.mem_map.mp hm2
          have := h1 y hy
          rw [set_getD met _ _ (by omega), Bool.or_eq_false_iff] at this
          have h3 := of_decide_eq_false this.2.1
          exact h3 (by rw [e])
theorem packetB_iff (l : List Int) : packetB l = true ↔ (∀ x ∈ l, 0 ≤ cardOf x) ∧ (l.map cardOf).Nodup := by
  constructor
  · intro h
    obtain ⟨h1, h2⟩ := packetM_nd l _ (by simp) h
    exact ⟨fun x hx => (h1 x hx).1, h2⟩
  · rintro ⟨h1, h2⟩
    refine packetM_back l _ (by simp) (fun x hx => ⟨h1 x hx, ?_⟩) h2
    generalize (cardOf x).toNat = i
    rw [List.getD_eq_getElem?_getD, List.getElem?_replicate]
    split <;> rfl
theorem packetB_perm {p q : List Int} (h : (q.map cardOf).Perm (p.map cardOf)) (hp : packetB p = true) : packetB q = true := by
  obtain ⟨h1, h2⟩ := (packetB_iff p).mp hp
  refine (packetB_iff q).mpr ⟨fun x hx => ?_, h.nodup_iff.mpr h2⟩
  have : cardOf x ∈ p.map cardOf := h.mem_iff.mp (List.mem_map.mpr ⟨x, hx, rfl⟩)
  obtain ⟨y, hy, e⟩ := List.mem_map.mp this
  rw [← e]
  exact h1 y hy
end Go.Proofs.Ytobncomimkmoeaa.F
end
section
/- The reference's equality of packets. -/
namespace Go.Proofs.Ytobncomimkmoeaa.F
open Go.RowKit Go.Proofs.YtobncomimkmoeaaW.PrintWords Go.Proofs.YtobncomimkmoeaaW.PrintLast Go.Proofs.YtobncomimkmoeaaW.PrintMore
set_option linter.unusedVariables false
set_option linter.unusedSimpArgs false
theorem same_at (rest : List Int) : ∀ (pre ys : List Int), (pre ++ ys).length ≤ 4611686018427387904 → rest.length = ys.length →
    Ev (fun k => spec_SamePacket.l0 k (pre ++ ys) (pre ++ rest) ((pre ++ rest).length : Int) (pre.length : Int)) (decide (rest = ys)) := by
  induction rest with
  | nil =>
    intro pre ys hb hl
    obtain rfl : ys = [] := List.length_eq_zero_iff.mp hl.symm
    exact Ev.step (f := fun _ => some true) (fun k => by rw [spec_SamePacket.l0, if_neg (mid_nlt _)]) (Ev.now _)
  | cons x rest ih =>
    intro pre ys hb hl
    cases ys with
    | nil => simp at hl
    | cons y ys =>
      by_cases e : x = y
      · subst e
        have h := ih (pre ++ [x]) ys (by simpa using hb) (by simpa using hl)
        rw [← mid_cons, ← mid_cons, ← mid_succ pre x (by simp at hb; omega)] at h
        rw [show decide (x :: rest = x :: ys) = decide (rest = ys) by simp]
        exact Ev.step (fun k => by rw [spec_SamePacket.l0, if_pos (mid_lt _ _ _), if_pos (nn _), if_pos (mid_lt _ _ _), if_pos (mid_lt _ _ _), mid_rd, mid_rd, if_pos rfl]) h
      · rw [show decide (x :: rest = y :: ys) = false by simp [e]]
        exact Ev.step (f := fun _ => some false) (fun k => by rw [spec_SamePacket.l0, if_pos (mid_lt _ _ _), if_pos (nn _), if_pos (mid_lt _ _ _), if_pos (mid_lt _ _ _), mid_rd, mid_rd, if_neg e]) (Ev.now _)
theorem same_ev (l m : List Int) (hl : l.length ≤ 4611686018427387904) : Ev (fun k => spec_SamePacket.f k l m) (decide (l = m)) := by
  unfold spec_SamePacket.f
  by_cases e : (l.length : Int) = (m.length : Int)
  · simp only [if_pos e]
    exact same_at l [] m (by simp; omega) (by omega)
  · simp only [if_neg e]
    rw [show decide (l = m) = false from decide_eq_false (fun h => e (by rw [h]))]
    exact Ev.now _
end Go.Proofs.Ytobncomimkmoeaa.F
end
section
/- The reference's lexicographic order. -/
namespace Go.Proofs.Ytobncomimkmoeaa.F
open Go.RowKit Go.Proofs.YtobncomimkmoeaaW.PrintWords Go.Proofs.YtobncomimkmoeaaW.PrintLast Go.Proofs.YtobncomimkmoeaaW.PrintMore
set_option linter.unusedVariables false
set_option linter.unusedSimpArgs false
def lessB : List Int → List Int → Bool
  | [], [] => false
  | [], _ :: _ => true
  | _ :: _, [] => false
  | x :: xs, y :: ys => if x = y then lessB xs ys else decide (x < y)
theorem less_at (rest : List Int) : ∀ (pre ys : List Int), (pre ++ rest).length ≤ 4611686018427387904 → (pre ++ ys).length ≤ 4611686018427387904 →
    Ev (fun k => spec_l05Less.l0 k (pre ++ rest) (pre ++ ys) (pre ++ rest) ((pre ++ rest).length : Int) (pre.length : Int)) (lessB rest ys) := by
  induction rest with
  | nil =>
    intro pre ys hb hc
    refine Ev.step (f := fun _ => some (lessB [] ys)) (fun k => ?_) (Ev.now _)
    show spec_l05Less.l0 (k + 1) _ _ _ _ _ = _
    rw [spec_l05Less.l0, if_neg (mid_nlt _)]
    cases ys with
    | nil => rw [decide_eq_false (by omega)]; rfl
    | cons y ys => rw [decide_eq_true (by simp; omega)]; rfl
  | cons x rest ih =>
    intro pre ys hb hc
    cases ys with
    | nil =>
      refine Ev.step (f := fun _ => some false) (fun k => ?_) (Ev.now _)
      show spec_l05Less.l0 (k + 1) _ _ _ _ _ = _
      rw [spec_l05Less.l0, if_pos (mid_lt _ _ _), if_pos (nn _), if_pos (mid_lt _ _ _), if_pos (by simp)]
    | cons y ys =>
      have hge : ¬ ((pre.length : Int) ≥ ((pre ++ y :: ys).length : Int)) := by have := mid_lt pre y ys; omega
      by_cases e : x = y
      · subst e
        have h := ih (pre ++ [x]) ys (by simpa using hb) (by simpa using hc)
        rw [← mid_cons, ← mid_cons, ← mid_succ pre x (by simp at hb; omega)] at h
        rw [show lessB (x :: rest) (x :: ys) = lessB rest ys by simp [lessB]]
        refine Ev.step (fun k => ?_) h
        show spec_l05Less.l0 (k + 1) _ _ _ _ _ = _
        rw [spec_l05Less.l0, if_pos (mid_lt _ _ _), if_pos (nn _), if_pos (mid_lt _ _ _), if_neg hge, if_pos (mid_lt _ _ _), mid_rd, mid_rd, if_pos rfl]
      · rw [show lessB (x :: rest) (y :: ys) = decide (x < y) by simp [lessB, e]]
        refine Ev.step (f := fun _ => some (decide (x < y))) (fun k => ?_) (Ev.now _)
        show spec_l05Less.l0 (k + 1) _ _ _ _ _ = _
        rw [spec_l05Less.l0, if_pos (mid_lt _ _ _), if_pos (nn _), if_pos (mid_lt _ _ _), if_neg hge, if_pos (mid_lt _ _ _), mid_rd, mid_rd, if_neg e]
theorem less_ev (a b : List Int) (ha : a.length ≤ 4611686018427387904) (hb : b.length ≤ 4611686018427387904) : Ev (fun k => spec_l05Less.f k a b) (lessB a b) := less_at a [] b ha hb
end Go.Proofs.Ytobncomimkmoeaa.F
end
section
/- SortPackets of the reference: sorted, each list once. -/
namespace Go.Proofs.Ytobncomimkmoeaa.F
open Go.RowKit Go.Proofs.YtobncomimkmoeaaW.PrintWords Go.Proofs.YtobncomimkmoeaaW.PrintLast Go.Proofs.YtobncomimkmoeaaW.PrintMore
set_option linter.unusedVariables false
set_option linter.unusedSimpArgs false
theorem lessB_lex (a : List Int) : ∀ b, lessB a b = decide (lexC a b < 0) := by
  induction a with
  | nil => intro b; cases b <;> rfl
  | cons x xs ih =>
    intro b
    cases b with
    | nil => rfl
    | cons y ys =>
      unfold lessB lexC
      by_cases e : x = y
      · rw [if_pos e, if_pos e]; exact ih ys
      · rw [if_neg e, if_neg e]
        by_cases l : x < y
        · rw [if_pos l]; simp [l]
        · rw [if_neg l]; simp [l]
theorem rdLLo (pre : List (List Int)) (x : List Int) (rest : List (List Int)) : rd_L1 (pre ++ x :: rest) (pre.length : Int) = x := by
  unfold rd_L1
  simp
def insP (out : List (List Int)) (x : List Int) : List (List Int) := if x ∈ out then out else out ++ [x]
theorem insP_mem (out : List (List Int)) (x y : List Int) : y ∈ insP out x ↔ y ∈ out ∨ y = x := by
  unfold insP
  split
  · rename_i h
    constructor
    · exact .inl
    · rintro (h1 | rfl)
      · exact h1
      · exact h
  · simp
theorem insP_len (out : List (List Int)) (x : List Int) : (insP out x).length ≤ out.length + 1 := by
  unfold insP
  split
  · omega
  · simp
def Str (l : List (List Int)) : Prop := l.Pairwise (fun a b => lexC a b < 0)
theorem lex_le {u x : List Int} (h : ¬ lexC x u < 0) (hne : u ≠ x) : lexC u x < 0 := by
  have h1 := lexC_swap x u
  have h2 : lexC u x ≠ 0 := fun e => hne (lexC_zero u x e)
  omega
theorem insP_str {out : List (List Int)} {x : List Int} (hs : Str out) (h : ∀ u ∈ out, ¬ lexC x u < 0) : Str (insP out x) := by
  unfold insP
  split
  · exact hs
  · rename_i hn
    refine List.pairwise_append.mpr ⟨hs, List.pairwise_singleton _ _, fun u hu v hv => ?_⟩
    rw [List.mem_singleton.mp hv]
    exact lex_le (h u hu) (fun e => hn (by rw [← e]; exact hu))
theorem last_iff {o : List (List Int)} {z x : List Int} (hs : Str (o ++ [z])) (h : ∀ u ∈ o ++ [z], ¬ lexC x u < 0) : decide (z = x) = decide (x ∈ o ++ [z]) := by
  by_cases e : z = x
  · rw [decide_eq_true e, decide_eq_true (by rw [e]; simp)]
  · rw [decide_eq_false e, decide_eq_false]
    intro hm
    rcases List.mem_append.mp hm with hm | hm
    · exact h z (by simp) ((List.pairwise_append.mp hs).2.2 x hm z (by simp))
    · exact e (List.mem_singleton.mp hm).symm
theorem tail_same (out : List (List Int)) (x : List Int) (hs : Str out) (h : ∀ u ∈ out, ¬ lexC x u < 0) (hn : out ≠ []) (hb : out.length ≤ 1000000) (hz : ∀ u ∈ out, u.length ≤ 1000) :
    wrap64 ((out.length : Int) - 1) = (out.length : Int) - 1 ∧ Ev (fun k => spec_SamePacket.f k (rd_L1 out ((out.length : Int) - 1)) x) (decide (x ∈ out)) := by
  refine ⟨w64_id (by omega) (by omega), ?_⟩
  obtain ⟨o, z, rfl⟩ : ∃ o z, out = o ++ [z] := ⟨out.dropLast, out.getLast hn, (List.dropLast_concat_getLast hn).symm⟩
  have e : (((o ++ [z]).length : Int) - 1) = (o.length : Int) := by simp
  rw [e, rdLLo, ← last_iff hs h]
  exact same_ev z x (by have := hz z (by simp); omega)
section
variable (x : List Int) (a b out : List (List Int)) (r : List (List Int)) (hs : Str out) (h : ∀ u ∈ out, ¬ lexC x u < 0) (hb : out.length ≤ 1000000) (hz : ∀ u ∈ out, u.length ≤ 1000) (hx : x.length ≤ 1000)
include hs h hb hz hx
theorem take_a (he : Ev (fun k => spec_l05Merge.l0 k a b (insP out x)) r) : Ev (fun k => spec_l05Merge.j2 k (x :: a) b out true) r := by
  have q1 : (0 : Int) < ((x :: a).length : Int) := by rw [List.length_cons]; omega
  have q2 : (1 : Int) ≤ ((x :: a).length : Int) := by rw [List.length_cons]; omega
  have q3 : rd_L1 (x :: a) 0 = x := rfl
  have q4 : ([] : List Int).length + x.length < 17592186044416 := by simp; omega
  by_cases e : out = []
  · subst e
    refine Ev.step (fun k => ?_) he
    show spec_l05Merge.j2 (k + 1) _ _ _ _ = _
    rw [spec_l05Merge.j2, if_pos rfl, if_pos q1, if_pos q2, Option.bind_some, if_pos (show (([] : List (List Int)).length : Int) = 0 from rfl), Option.bind_some, q3, if_pos q4, if_pos (by simp)]
    rfl
  · obtain ⟨w, t⟩ := tail_same out x hs h e hb hz
    have hl := List.length_pos_iff.mpr e
    refine Ev.stepb t (fun k => by rw [spec_l05Merge.j2, if_pos rfl, if_pos q1, if_pos q2, Option.bind_some, if_neg (by omega), w, if_pos (by omega), if_pos (by omega), q3]) ?_
    unfold insP at he
    by_cases c : x ∈ out
    · rw [if_pos c] at he
      simp only [decide_eq_true c, if_true]
      exact he
    · rw [if_neg c] at he
      simp only [decide_eq_false c, Bool.false_eq_true, if_false, Option.bind_some, if_pos q4, if_pos (show out.length < 5864062014805 by omega), List.nil_append]
      exact he
theorem take_b (he : Ev (fun k => spec_l05Merge.l0 k a b (insP out x)) r) : Ev (fun k => spec_l05Merge.j2 k a (x :: b) out false) r := by
  have q1 : (0 : Int) < ((x :: b).length : Int) := by rw [List.length_cons]; omega
  have q2 : (1 : Int) ≤ ((x :: b).length : Int) := by rw [List.length_cons]; omega
  have q3 : rd_L1 (x :: b) 0 = x := rfl
  have q4 : ([] : List Int).length + x.length < 17592186044416 := by simp; omega
  by_cases e : out = []
  · subst e
    refine Ev.step (fun k => ?_) he
    show spec_l05Merge.j2 (k + 1) _ _ _ _ = _
    rw [spec_l05Merge.j2, if_neg (by decide), if_pos q1, if_pos q2, Option.bind_some, if_pos (show (([] : List (List Int)).length : Int) = 0 from rfl), Option.bind_some, q3, if_pos q4, if_pos (by simp)]
    rfl
  · obtain ⟨w, t⟩ := tail_same out x hs h e hb hz
    have hl := List.length_pos_iff.mpr e
    refine Ev.stepb t (fun k => by rw [spec_l05Merge.j2, if_neg (by decide), if_pos q1, if_pos q2, Option.bind_some, if_neg (by omega), w, if_pos (by omega), if_pos (by omega), q3]) ?_
    unfold insP at he
    by_cases c : x ∈ out
    · rw [if_pos c] at he
      simp only [decide_eq_true c, if_true]
      exact he
    · rw [if_neg c] at he
      simp only [decide_eq_false c, Bool.false_eq_true, if_false, Option.bind_some, if_pos q4, if_pos (show out.length < 5864062014805 by omega), List.nil_append]
      exact he
end
theorem merge_at (n : Nat) : ∀ (a b out : List (List Int)), a.length + b.length = n → out.length + n ≤ 1000000 → (∀ u, u ∈ a ∨ u ∈ b ∨ u ∈ out → u.length ≤ 1000) → Str a → Str b → Str out → (∀ u ∈ out, ∀ y, y ∈ a ∨ y ∈ b → ¬ lexC y u < 0) →
    ∃ r, Ev (fun k => spec_l05Merge.l0 k a b out) r ∧ Str r ∧ ∀ x, x ∈ r ↔ x ∈ out ∨ x ∈ a ∨ x ∈ b := by
  induction n with
  | zero =>
    intro a b out hn hb hz ha hb2 ho hle
    obtain rfl : a = [] := List.eq_nil_of_length_eq_zero (by omega)
    obtain rfl : b = [] := List.eq_nil_of_length_eq_zero (by omega)
    refine ⟨out, Ev.succ (Ev.step (f := fun _ => some out) (fun k => ?_) (Ev.now _)), ho, fun x => by simp⟩
    rw [spec_l05Merge.l0, if_neg (by simp), decide_eq_false (by simp), spec_l05Merge.j1, if_neg (by decide)]
  | succ n ih =>
    intro a b out hn hb hz ha hb2 ho hle
    have asym : ∀ u v : List Int, lexC u v < 0 → ¬ lexC v u < 0 := fun u v h k => lexC_asymm u v h k
    -- the first of a
    have goA : ∀ x a', a = x :: a' → (∀ u, u ∈ a' ∨ u ∈ b → ¬ lexC u x < 0) → ∃ r, Ev (fun k => spec_l05Merge.j2 k a b out true) r ∧ Str r ∧ ∀ y, y ∈ r ↔ y ∈ out ∨ y ∈ a ∨ y ∈ b := by
      intro x a' e hm
      subst e
      have hox : ∀ u ∈ out, ¬ lexC x u < 0 := fun u hu => hle u hu x (.inl (by simp))
      have hil := insP_len out x
      obtain ⟨r, h1, h2, h3⟩ := ih a' b (insP out x) (by simp at hn; omega) (by omega) (fun u hu => by
        rcases hu with hu | hu | hu
        · exact hz u (.inl (List.mem_cons_of_mem _ hu))
        · exact hz u (.inr (.inl hu))
        · rcases (insP_mem out x u).mp hu with hu | hu
          · exact hz u (.inr (.inr hu))
          · rw [hu]; exact hz x (.inl (by simp))) (List.pairwise_cons.mp ha).2 hb2 (insP_str ho hox) (fun u hu y hy => by
        rcases (insP_mem out x u).mp hu with hu | hu
        · exact hle u hu y (hy.elim (fun h => .inl (List.mem_cons_of_mem _ h)) .inr)
        · rw [hu]; exact hm y hy)
      refine ⟨r, take_a x a' b out r ho hox (by omega) (fun u hu => hz u (.inr (.inr hu))) (hz x (.inl (by simp))) h1, h2, fun y => ?_⟩
      rw [h3, insP_mem, List.mem_cons]
      constructor
      · rintro ((h | h) | h | h)
        · exact .inl h
        · exact .inr (.inl (.inl h))
        · exact .inr (.inl (.inr h))
        · exact .inr (.inr h)
      · rintro (h | (h | h) | h)
        · exact .inl (.inl h)
        · exact .inl (.inr h)
        · exact .inr (.inl h)
        · exact .inr (.inr h)
    have goB : ∀ x b', b = x :: b' → (∀ u, u ∈ a ∨ u ∈ b' → ¬ lexC u x < 0) → ∃ r, Ev (fun k => spec_l05Merge.j2 k a b out false) r ∧ Str r ∧ ∀ y, y ∈ r ↔ y ∈ out ∨ y ∈ a ∨ y ∈ b := by
      intro x b' e hm
      subst e
      have hox : ∀ u ∈ out, ¬ lexC x u < 0 := fun u hu => hle u hu x (.inr (by simp))
      have hil := insP_len out x
      obtain ⟨r, h1, h2, h3⟩ := ih a b' (insP out x) (by simp at hn; omega) (by omega) (fun u hu => by
        rcases hu with hu | hu | hu
        · exact hz u (.inl hu)
        · exact hz u (.inr (.inl (List.mem_cons_of_mem _ hu)))
        · rcases (insP_mem out x u).mp hu with hu | hu
          · exact hz u (.inr (.inr hu))
          · rw [hu]; exact hz x (.inr (.inl (by simp)))) ha (List.pairwise_cons.mp hb2).2 (insP_str ho hox) (fun u hu y hy => by
        rcases (insP_mem out x u).mp hu with hu | hu
        · exact hle u hu y (hy.elim .inl (fun h => .inr (List.mem_cons_of_mem _ h)))
        · rw [hu]; exact hm y hy)
      refine ⟨r, take_b x a b' out r ho hox (by omega) (fun u hu => hz u (.inr (.inr hu))) (hz x (.inr (.inl (by simp)))) h1, h2, fun y => ?_⟩
      rw [h3, insP_mem, List.mem_cons]
      constructor
      · rintro ((h | h) | h | h)
        · exact .inl h
        · exact .inr (.inr (.inl h))
        · exact .inr (.inl h)
        · exact .inr (.inr (.inr h))
      · rintro (h | h | (h | h))
        · exact .inl (.inl h)
        · exact .inr (.inl h)
        · exact .inl (.inr h)
        · exact .inr (.inr h)
    cases a with
    | nil =>
      cases b with
      | nil => simp at hn
      | cons y b' =>
        obtain ⟨r, h1, h2⟩ := goB y b' rfl (fun u hu => by
          rcases hu with hu | hu
          · simp at hu
          · exact asym _ _ ((List.pairwise_cons.mp hb2).1 u hu))
        refine ⟨r, Ev.succ (Ev.step (fun k => ?_) h1), h2⟩
        rw [spec_l05Merge.l0, if_neg (by simp), decide_eq_true (by rw [List.length_cons]; omega), spec_l05Merge.j1, if_pos rfl, if_neg (by rw [List.length_cons]; omega), if_neg (by simp)]
    | cons x a' =>
      have hxa : ∀ u ∈ a', ¬ lexC u x < 0 := fun u hu => asym _ _ ((List.pairwise_cons.mp ha).1 u hu)
      have qa : ((x :: a').length : Int) > 0 := by rw [List.length_cons]; omega
      cases b with
      | nil =>
        obtain ⟨r, h1, h2⟩ := goA x a' rfl (fun u hu => by
          rcases hu with hu | hu
          · exact hxa u hu
          · simp at hu)
        refine ⟨r, Ev.succ (Ev.step (fun k => ?_) h1), h2⟩
        rw [spec_l05Merge.l0, if_pos qa, spec_l05Merge.j1, if_pos rfl, if_pos (by simp)]
      | cons y b' =>
        have hyb : ∀ u ∈ b', lexC y u < 0 := fun u hu => (List.pairwise_cons.mp hb2).1 u hu
        have qb : (0 : Int) < ((y :: b').length : Int) := by rw [List.length_cons]; omega
        have hl := less_ev y x (by have := hz y (.inr (.inl (by simp))); omega) (by have := hz x (.inl (by simp)); omega)
        rw [lessB_lex] at hl
        by_cases c : lexC y x < 0
        · obtain ⟨r, h1, h2⟩ := goB y b' rfl (fun u hu => by
            rcases hu with hu | hu
            · rcases List.mem_cons.mp hu with rfl | hu
              · exact asym _ _ c
              · exact asym _ _ (lexC_trans y x u c ((List.pairwise_cons.mp ha).1 u hu))
            · exact asym _ _ (hyb u hu))
          refine ⟨r, Ev.succ (Ev.stepb hl (fun k => by
            rw [spec_l05Merge.l0, if_pos qa, spec_l05Merge.j1, if_pos rfl, if_neg (by omega), if_pos qa, if_pos qb, if_pos qa]
            rfl) ?_), h2⟩
          simp only [decide_eq_true c, Bool.not_true]
          exact h1
        · obtain ⟨r, h1, h2⟩ := goA x a' rfl (fun u hu => by
            rcases hu with hu | hu
            · exact hxa u hu
            · rcases List.mem_cons.mp hu with rfl | hu
              · exact c
              · exact fun k => c (lexC_trans y u x (hyb u hu) k))
          refine ⟨r, Ev.succ (Ev.stepb hl (fun k => by
            rw [spec_l05Merge.l0, if_pos qa, spec_l05Merge.j1, if_pos rfl, if_neg (by omega), if_pos qa, if_pos qb, if_pos qa]
            rfl) ?_), h2⟩
          simp only [decide_eq_false c, Bool.not_false]
          exact h1
theorem merge_ev (a b l : List (List Int)) (hb : a.length + b.length ≤ 1000000) (hz : ∀ u, u ∈ a ∨ u ∈ b → u.length ≤ 1000) (ha : Str a) (hb2 : Str b) (hl : ∀ x, x ∈ l ↔ x ∈ a ∨ x ∈ b) : Ev (fun k => spec_l05Merge.f k a b) (sortP l) := by
  obtain ⟨r, h1, h2, h3⟩ := merge_at (a.length + b.length) a b [] rfl (by simpa using hb) (fun u hu => by
    rcases hu with hu | hu | hu
    · exact hz u (.inl hu)
    · exact hz u (.inr hu)
    · simp at hu) ha hb2 List.Pairwise.nil (fun u hu => by simp at hu)
  have e : r = sortP l := sortP_unique h2 (fun x => by rw [h3, hl]; simp)
  rw [← e]
  exact h1
theorem sortS_ev (n : Nat) : ∀ (l : List (List Int)), l.length ≤ n → l.length ≤ 1000000 → (∀ u ∈ l, u.length ≤ 1000) → Ev (fun k => spec_SortPackets.f k l) (sortP l) := by
  induction n with
  | zero =>
    intro l hn hb hz
    obtain rfl : l = [] := List.eq_nil_of_length_eq_zero (by omega)
    have h := merge_ev [] [] [] (by simp) (fun u hu => by simp at hu) List.Pairwise.nil List.Pairwise.nil (fun x => by simp)
    refine Ev.step (fun k => ?_) (Ev.bind h (Ev.now _))
    show spec_SortPackets.f (k + 1) [] = _
    rw [spec_SortPackets.f, if_pos (by simp)]
  | succ n ih =>
    intro l hn hb hz
    by_cases c : l.length < 2
    · have hs : Str l := by
        match l, c with
        | [], _ => exact List.Pairwise.nil
        | [x], _ => exact List.pairwise_singleton _ _
      have h := merge_ev l [] l (by simpa using hb) (fun u hu => hu.elim (hz u) (fun h => by simp at h)) hs List.Pairwise.nil (fun x => by simp)
      refine Ev.step (fun k => ?_) (Ev.bind h (Ev.now _))
      show spec_SortPackets.f (k + 1) l = _
      rw [spec_SortPackets.f, if_pos (by omega)]
    · have w : wrap64 ((l.length : Int) / 2) = ((l.length / 2 : Nat) : Int) := by rw [w64_id (by omega) (by omega)]; omega
      have h1 := ih (l.take (l.length / 2)) (by rw [List.length_take]; omega) (by rw [List.length_take]; omega) (fun u hu => hz u (List.mem_of_mem_take hu))
      have h2 := ih (l.drop (l.length / 2)) (by rw [List.length_drop]; omega) (by rw [List.length_drop]; omega) (fun u hu => hz u (List.mem_of_mem_drop hu))
      have l1 := sortP_length_le (l.take (l.length / 2))
      have l2 := sortP_length_le (l.drop (l.length / 2))
      rw [List.length_take] at l1
      rw [List.length_drop] at l2
      have h3 := merge_ev (sortP (l.take (l.length / 2))) (sortP (l.drop (l.length / 2))) l (by omega) (fun u hu => by
        rcases hu with hu | hu
        · exact hz u (List.mem_of_mem_take ((sortP_mem u _).mp hu))
        · exact hz u (List.mem_of_mem_drop ((sortP_mem u _).mp hu))) (sortP_sorted _) (sortP_sorted _) (fun x => by
        rw [sortP_mem, sortP_mem, ← List.mem_append, List.take_append_drop])
      refine Ev.stepb h1 (fun k => by
        rw [spec_SortPackets.f, if_neg (by omega), w, if_pos (by omega), if_pos (by omega), Int.toNat_natCast]) ?_
      exact Ev.bind h2 (Ev.bind h3 (Ev.now _))
theorem sortS (l : List (List Int)) (hb : l.length ≤ 1000000) (hz : ∀ u ∈ l, u.length ≤ 1000) : Ev (fun k => spec_SortPackets.f k l) (sortP l) := sortS_ev l.length l (Nat.le_refl _) hb hz
end Go.Proofs.Ytobncomimkmoeaa.F
end
section
/- The reference's look for a list among lists. -/
namespace Go.Proofs.Ytobncomimkmoeaa.F
open Go.RowKit Go.Proofs.YtobncomimkmoeaaW.PrintWords Go.Proofs.YtobncomimkmoeaaW.PrintLast Go.Proofs.YtobncomimkmoeaaW.PrintMore
set_option linter.unusedVariables false
set_option linter.unusedSimpArgs false
theorem rdLLf (pre : List (List Int)) (x : List Int) (rest : List (List Int)) : rd_L1 (pre ++ x :: rest) (pre.length : Int) = x := by
  unfold rd_L1
  simp
theorem find_at (y : List Int) (rest : List (List Int)) : ∀ (pre : List (List Int)), (pre ++ rest).length ≤ 4611686018427387904 → (∀ x ∈ rest, x.length ≤ 4611686018427387904) →
    Ev (fun k => spec_l05Find.l0 k y (pre ++ rest) ((pre ++ rest).length : Int) (pre.length : Int)) (decide (y ∈ rest)) := by
  induction rest with
  | nil =>
    intro pre hb hx
    refine Ev.step (f := fun _ => some false) (fun k => ?_) (by simpa using Ev.now false)
    show spec_l05Find.l0 (k + 1) _ _ _ _ = _
    rw [spec_l05Find.l0, if_neg (mid_nlt _)]
  | cons x rest ih =>
    intro pre hb hx
    have hs := same_ev x y (hx x (by simp))
    refine Ev.stepb hs (fun k => by rw [spec_l05Find.l0, if_pos (mid_lt _ _ _), if_pos (nn _), if_pos (mid_lt _ _ _), rdLLf]) ?_
    by_cases e : x = y
    · subst e
      simp only [decide_true, if_true, List.mem_cons, true_or]
      exact Ev.now _
    · have h := ih (pre ++ [x]) (by simpa using hb) (fun z hz => hx z (by simp [hz]))
      rw [← mid_cons, ← mid_succ pre x (by simp at hb; omega)] at h
      simp only [decide_eq_false e, Bool.false_eq_true, if_false]
      rw [show decide (y ∈ x :: rest) = decide (y ∈ rest) by simp [List.mem_cons, Ne.symm e]]
      exact h
theorem find_ev (l : List (List Int)) (y : List Int) (hb : l.length ≤ 4611686018427387904) (hx : ∀ x ∈ l, x.length ≤ 4611686018427387904) : Ev (fun k => spec_l05Find.f k l y) (decide (y ∈ l)) := find_at y l [] hb hx
end Go.Proofs.Ytobncomimkmoeaa.F
end
section
/- Packets that cuts and turned pairs reach. -/
namespace Go.Proofs.Ytobncomimkmoeaa.F
open Go.RowKit Go.Proofs.YtobncomimkmoeaaW.PrintWords Go.Proofs.YtobncomimkmoeaaW.PrintLast Go.Proofs.YtobncomimkmoeaaW.PrintMore
set_option linter.unusedVariables false
set_option linter.unusedSimpArgs false
def cutsFrom (p : List Int) : Nat → Nat → List (List Int)
  | _, 0 => []
  | i, m + 1 => (p.drop i ++ p.take i) :: cutsFrom p (i + 1) m
def cutsL (p : List Int) : List (List Int) := cutsFrom p 0 p.length
def flip2 (p : List Int) : List Int := (p.take 2).reverse.map turnC ++ p.drop 2
theorem cutsFrom_mem (p x : List Int) (m : Nat) : ∀ i, x ∈ cutsFrom p i m ↔ ∃ j, i ≤ j ∧ j < i + m ∧ x = p.drop j ++ p.take j := by
  induction m with
  | zero =>
    intro i
    constructor
    · intro h; simp [cutsFrom] at h
    · rintro ⟨j, h1, h2, _⟩; omega
  | succ m ih =>
    intro i
    simp only [cutsFrom, List.mem_cons, ih]
    constructor
    · rintro (h | ⟨j, h1, h2, h⟩)
      · exact ⟨i, Nat.le_refl _, by omega, h⟩
      · exact ⟨j, by omega, by omega, h⟩
    · rintro ⟨j, h1, h2, h⟩
      by_cases e : j = i
      · subst e; exact .inl h
      · exact .inr ⟨j, by omega, by omega, h⟩
theorem cutsFrom_length (p : List Int) (m : Nat) : ∀ i, (cutsFrom p i m).length = m := by
  induction m with
  | zero => intro i; rfl
  | succ m ih => intro i; simp only [cutsFrom, List.length_cons, ih]
theorem cuts_mem (p x : List Int) : x ∈ cutsL p ↔ ∃ j, j < p.length ∧ x = p.drop j ++ p.take j := by
  unfold cutsL
  rw [cutsFrom_mem]
  constructor
  · rintro ⟨j, _, h2, h⟩; exact ⟨j, by omega, h⟩
  · rintro ⟨j, h2, h⟩; exact ⟨j, by omega, by omega, h⟩
theorem cuts_length (p : List Int) : (cutsL p).length = p.length := cutsFrom_length _ _ _
theorem cut_perm (p : List Int) (j : Nat) : (p.drop j ++ p.take j).Perm p := by
  have h1 : (p.drop j ++ p.take j).Perm (p.take j ++ p.drop j) := List.perm_append_comm
  rwa [List.take_append_drop] at h1
theorem card_turnR {x : Int} (h : 0 ≤ cardOf x) : cardOf (turnC x) = cardOf x := by
  have hs := card_small h
  unfold turnC
  rw [if_neg (by omega)]
  unfold cardOf
  repeat' split
  all_goals omega
theorem flip2_length (p : List Int) : (flip2 p).length = p.length := by
  unfold flip2
  simp
  omega
theorem flip2_card {p : List Int} (hc : ∀ x ∈ p, 0 ≤ cardOf x) : ((flip2 p).map cardOf).Perm (p.map cardOf) := by
  unfold flip2
  rw [List.map_append, List.map_map]
  have e : (p.take 2).reverse.map (cardOf ∘ turnC) = (p.take 2).reverse.map cardOf := List.map_congr_left (fun x hx => card_turnR (hc x (List.mem_of_mem_take (List.mem_reverse.mp hx))))
  rw [e, ← List.map_append]
  have h := (List.reverse_perm (p.take 2)).append_right (p.drop 2)
  rw [List.take_append_drop] at h
  exact h.map _
/-- The same cards, each on some side. -/
def Gd (p q : List Int) : Prop := q.length = p.length ∧ (q.map cardOf).Perm (p.map cardOf)
theorem gd_refl (p : List Int) : Gd p p := ⟨rfl, List.Perm.refl _⟩
theorem gd_packet {p q : List Int} (h : Gd p q) (hp : packetB p = true) : packetB q = true := packetB_perm h.2 hp
theorem gd_cut {p q x : List Int} (h : Gd p q) (hx : x ∈ cutsL q) : Gd p x := by
  obtain ⟨j, _, rfl⟩ := (cuts_mem q x).mp hx
  have hp := cut_perm q j
  exact ⟨hp.length_eq.trans h.1, (hp.map _).trans h.2⟩
theorem gd_flip {p q : List Int} (h : Gd p q) (hp : packetB p = true) : Gd p (flip2 q) :=
  ⟨(flip2_length q).trans h.1, (flip2_card ((packetB_iff q).mp (gd_packet h hp)).1).trans h.2⟩
/-- Reached by cuts, and by turning over the first two and cutting. -/
def Rch (p q : List Int) : Prop := ∀ S : List Int → Prop, S p → (∀ x y, S x → (y ∈ cutsL x ∨ y ∈ cutsL (flip2 x)) → S y) → S q
theorem rch_refl (p : List Int) : Rch p p := fun _ h _ => h
theorem rch_step {p x y : List Int} (h : Rch p x) (hy : y ∈ cutsL x ∨ y ∈ cutsL (flip2 x)) : Rch p y := fun S h0 hc => hc x y (h S h0 hc) hy
theorem rch_good {p q : List Int} (hp : packetB p = true) (h : Rch p q) : Gd p q :=
  h (fun x => Gd p x) (gd_refl p) (fun x y hx hy => hy.elim (fun h1 => gd_cut hx h1) (fun h1 => gd_cut (gd_flip hx hp) h1))
/- How many there are. -/
def allOf : Nat → List Int → List (List Int)
  | 0, _ => [[]]
  | n + 1, cs => cs.flatMap fun c => (allOf n (cs.erase c)).flatMap fun q => [c :: q, (-1 - c) :: q]
def szN : Nat → Nat
  | 0 => 1
  | n + 1 => (n + 1) * (szN n * 2)
theorem flatMap_le {α β : Type} (g : α → List β) (b : Nat) (l : List α) : (∀ x ∈ l, (g x).length ≤ b) → (l.flatMap g).length ≤ l.length * b := by
  induction l with
  | nil => intro _; simp
  | cons x l ih =>
    intro h
    have h1 := h x List.mem_cons_self
    have h2 := ih (fun y hy => h y (List.mem_cons_of_mem _ hy))
    rw [List.flatMap_cons, List.length_append, List.length_cons, Nat.add_mul, Nat.one_mul]
    omega
theorem allOf_len (n : Nat) : ∀ cs : List Int, cs.length = n → (allOf n cs).length ≤ szN n := by
  induction n with
  | zero => intro cs _; exact Nat.le_refl _
  | succ n ih =>
    intro cs hl
    have h := flatMap_le (fun c => (allOf n (cs.erase c)).flatMap fun q => [c :: q, (-1 - c) :: q]) (szN n * 2) cs (fun c hc => by
      have h1 := ih (cs.erase c) (by rw [List.length_erase_of_mem hc]; omega)
      have h2 := flatMap_le (fun q => [c :: q, (-1 - c) :: q]) 2 (allOf n (cs.erase c)) (fun _ _ => Nat.le_refl _)
      exact Nat.le_trans h2 (Nat.mul_le_mul_right 2 h1))
    rw [hl] at h
    exact h
theorem allOf_mem (q : List Int) : ∀ cs : List Int, (q.map cardOf).Perm cs → (∀ x ∈ q, 0 ≤ cardOf x) → q ∈ allOf q.length cs := by
  induction q with
  | nil => intro cs _ _; simp [allOf]
  | cons x q ih =>
    intro cs hp hc
    have hm : cardOf x ∈ cs := hp.mem_iff.mp (by simp)
    have h1 := hp.erase (cardOf x)
    rw [List.map_cons, List.erase_cons_head] at h1
    have h2 := ih (cs.erase (cardOf x)) h1 (fun y hy => hc y (List.mem_cons_of_mem _ hy))
    have h3 : x = cardOf x ∨ x = -1 - cardOf x := by
      have h4 := hc x List.mem_cons_self
      unfold cardOf at h4 ⊢
      repeat' split
      all_goals omega
    rw [List.length_cons]
    unfold allOf
    refine List.mem_flatMap.mpr ⟨cardOf x, hm, List.mem_flatMap.mpr ⟨q, h2, ?_⟩⟩
    rcases h3 with h3 | h3
    · rw [← h3]; exact List.mem_cons_self
    · rw [← h3]; exact List.mem_cons_of_mem _ List.mem_cons_self
theorem nodup_leR {α : Type} [DecidableEq α] (l : List α) : ∀ A : List α, l.Nodup → (∀ x ∈ l, x ∈ A) → l.length ≤ A.length := by
  induction l with
  | nil => intro A _ _; simp
  | cons x l ih =>
    intro A hn hs
    rw [List.nodup_cons] at hn
    have hx := hs x List.mem_cons_self
    have h1 := ih (A.erase x) hn.2 (fun y hy => (List.mem_erase_of_ne (fun e => hn.1 (by rw [← e]; exact hy))).mpr (hs y (List.mem_cons_of_mem _ hy)))
    rw [List.length_erase_of_mem hx] at h1
    have h2 := List.length_pos_of_mem hx
    rw [List.length_cons]
    omega
theorem good_count {p : List Int} (hp : packetB p = true) (h4 : p.length ≤ 4) (l : List (List Int)) (hn : l.Nodup) (h : ∀ x ∈ l, Gd p x) : l.length ≤ 384 := by
  have h1 := nodup_leR l (allOf p.length (p.map cardOf)) hn (fun x hx => by
    have g := h x hx
    rw [← g.1]
    exact allOf_mem x _ g.2 ((packetB_iff x).mp (gd_packet g hp)).1)
  have h2 := allOf_len p.length (p.map cardOf) (List.length_map _)
  have h3 : szN p.length ≤ 384 := by
    rcases (show p.length = 0 ∨ p.length = 1 ∨ p.length = 2 ∨ p.length = 3 ∨ p.length = 4 by omega) with e | e | e | e | e <;> rw [e] <;> decide
  omega
theorem strict_same {a b : List (List Int)} (ha : a.Pairwise (fun a b => lexC a b < 0)) (hb : b.Pairwise (fun a b => lexC a b < 0)) (hs : ∀ x ∈ a, x ∈ b) (hl : a.length = b.length) : a = b := by
  refine strict_unique ha hb (fun x => ⟨hs x, fun hx => ?_⟩)
  apply Classical.byContradiction
  intro hn
  have h1 := nodup_leR (x :: a) b (List.nodup_cons.mpr ⟨hn, strict_nodup ha⟩) (fun y hy => by
    rcases List.mem_cons.mp hy with rfl | hy
    · exact hx
    · exact hs y hy)
  rw [List.length_cons] at h1
  omega
/-- What is closed and holds p holds all that p reaches. -/
theorem rch_of_closed {p q : List Int} (S : List (List Int)) (h0 : p ∈ S) (hc : ∀ x ∈ S, ∀ y, (y ∈ cutsL x ∨ y ∈ cutsL (flip2 x)) → y ∈ S) (h : Rch p q) : q ∈ S :=
  h (fun x => x ∈ S) h0 (fun x y hx hy => hc x hx y hy)
end Go.Proofs.Ytobncomimkmoeaa.F
end
section
/- Lists put together, and lists in reverse order. -/
namespace Go.Proofs.Ytobncomimkmoeaa.F
open Go.RowKit Go.Proofs.YtobncomimkmoeaaW.PrintWords Go.Proofs.YtobncomimkmoeaaW.PrintLast Go.Proofs.YtobncomimkmoeaaW.PrintMore
set_option linter.unusedVariables false
set_option linter.unusedSimpArgs false
def lens (l : List (List Int)) : Nat := (l.map List.length).sum
theorem lens_cons (x : List Int) (l : List (List Int)) : lens (x :: l) = x.length + lens l := by simp [lens]
theorem mid_rdLL (pre : List (List Int)) (x : List Int) (rest : List (List Int)) : rd_L1 (pre ++ x :: rest) (pre.length : Int) = x := by
  unfold rd_L1
  simp
theorem concat_l1 (rest : List (List Int)) : ∀ (pre : List (List Int)) (acc : List Int), (pre ++ rest).length ≤ 4611686018427387904 → acc.length + lens rest < 17592186044416 →
    Ev (fun k => slices_Concat_Lint_int.l1 k acc (pre ++ rest) ((pre ++ rest).length : Int) (pre.length : Int)) (acc ++ rest.flatten) := by
  induction rest with
  | nil =>
    intro pre acc hb hl
    rw [show acc ++ ([] : List (List Int)).flatten = acc by simp]
    refine Ev.step (f := fun _ => some acc) (fun k => ?_) (Ev.now _)
    show slices_Concat_Lint_int.l1 (k + 1) _ _ _ _ = _
    rw [slices_Concat_Lint_int.l1, if_neg (mid_nlt _)]
  | cons x rest ih =>
    intro pre acc hb hl
    rw [lens_cons] at hl
    have h := ih (pre ++ [x]) (acc ++ x) (by simpa using hb) (by rw [List.length_append]; omega)
    rw [← mid_cons, ← mid_succ pre x (by simp at hb; omega)] at h
    rw [show acc ++ (x :: rest).flatten = acc ++ x ++ rest.flatten by simp]
    refine Ev.step (fun k => ?_) h
    show slices_Concat_Lint_int.l1 (k + 1) _ _ _ _ = _
    rw [slices_Concat_Lint_int.l1, if_pos (mid_lt _ _ _), if_pos (nn _), if_pos (mid_lt _ _ _), mid_rdLL, if_pos (by omega)]
theorem concat_l0 (X : List (List Int)) (hX : X.length ≤ 4611686018427387904) (hl : lens X < 17592186044416) (rest : List (List Int)) : ∀ (pre : List (List Int)) (s : Nat), (pre ++ rest).length ≤ 4611686018427387904 → s + lens rest < 17592186044416 →
    Ev (fun k => slices_Concat_Lint_int.l0 k X (s : Int) (pre ++ rest) ((pre ++ rest).length : Int) (pre.length : Int)) X.flatten := by
  induction rest with
  | nil =>
    intro pre s hb hs
    have h := concat_l1 X [] [] hX (by simpa using hl)
    have hg : slices_Grow_Lint_int__nil.f (s : Int) = some [] := by
      unfold slices_Grow_Lint_int__nil.f
      rw [if_pos (nn _), if_pos (by omega)]
    refine Ev.step (fun k => ?_) h
    show slices_Concat_Lint_int.l0 (k + 1) _ _ _ _ _ = _
    rw [slices_Concat_Lint_int.l0, if_neg (mid_nlt _), hg]
    rfl
  | cons x rest ih =>
    intro pre s hb hs
    rw [lens_cons] at hs
    have h := ih (pre ++ [x]) (s + x.length) (by simpa using hb) (by omega)
    rw [← mid_cons, ← mid_succ pre x (by simp at hb; omega)] at h
    have hw : wrap64 ((s : Int) + (x.length : Int)) = ((s + x.length : Nat) : Int) := by rw [w64_id (by omega) (by omega)]; omega
    refine Ev.step (fun k => ?_) h
    show slices_Concat_Lint_int.l0 (k + 1) _ _ _ _ _ = _
    rw [slices_Concat_Lint_int.l0, if_pos (mid_lt _ _ _), if_pos (nn _), if_pos (mid_lt _ _ _), mid_rdLL, hw, if_neg (by omega)]
theorem concat_ev (X : List (List Int)) (hX : X.length ≤ 4611686018427387904) (hl : lens X < 17592186044416) : Ev (fun k => slices_Concat_Lint_int.f k X) X.flatten := concat_l0 X hX hl X [] 0 hX (by omega)
theorem clone_ev (l : List Int) (hl : l.length < 17592186044416) : slices_Clone_Lint_int.f l = some l := by
  unfold slices_Clone_Lint_int.f
  rw [if_pos hl]
theorem rev_at (n : Nat) : ∀ (a mid b : List Int), mid.length ≤ n → (a ++ mid ++ b).length ≤ 4611686018427387904 → 
    Ev (fun k => slices_Reverse_Lint_int.l0 k (a ++ mid ++ b) (a.length : Int) ((a.length : Int) + (mid.length : Int) - 1)) (a ++ mid.reverse ++ b) := by
  induction n using Nat.strongRecOn with
  | ind n ih =>
    intro a mid b hn hb
    have hend : mid.length ≤ 1 → Ev (fun k => slices_Reverse_Lint_int.l0 k (a ++ mid ++ b) (a.length : Int) ((a.length : Int) + (mid.length : Int) - 1)) (a ++ mid.reverse ++ b) := by
      intro h1
      have e : mid.reverse = mid := by
        match mid, h1 with
        | [], _ => rfl
        | [x], _ => rfl
      rw [e]
      refine Ev.step (f := fun _ => some (a ++ mid ++ b)) (fun k => ?_) (Ev.now _)
      show slices_Reverse_Lint_int.l0 (k + 1) _ _ _ = _
      rw [slices_Reverse_Lint_int.l0, if_neg (by omega)]
    by_cases h1 : mid.length ≤ 1
    · exact hend h1
    · obtain ⟨x, t, rfl⟩ : ∃ x t, mid = x :: t := by
        cases mid with
        | nil => simp at h1
        | cons x t => exact ⟨x, t, rfl⟩
      rcases List.eq_nil_or_concat t with rfl | ⟨m, y, rfl⟩
      · simp at h1
      · rw [List.concat_eq_append] at *
        simp only [List.length_cons, List.length_append, List.length_nil] at hn h1 hb
        have h := ih m.length (by omega) (a ++ [y]) m ([x] ++ b) (Nat.le_refl _) (by simp; omega)
        have e1 : a ++ x :: (m ++ [y]) ++ b = a ++ x :: (m ++ y :: b) := by simp
        have e2 : a ++ x :: (m ++ y :: b) = (a ++ x :: m) ++ y :: b := by simp
        have r1 : rd (a ++ x :: (m ++ y :: b)) (a.length : Int) = x := mid_rd _ _ _
        have r2 : rd (a ++ x :: (m ++ y :: b)) ((a.length : Int) + ((m.length + 1 + 1 : Nat) : Int) - 1) = y := by
          rw [e2, show (a.length : Int) + ((m.length + 1 + 1 : Nat) : Int) - 1 = ((a ++ x :: m).length : Int) by simp; omega]
          exact mid_rd _ _ _
        have s1 : (a ++ x :: (m ++ y :: b)).set ((a.length : Int)).toNat y = (a ++ [y] ++ m) ++ y :: b := by
          rw [mid_set]; simp
        have s2 : ((a ++ [y] ++ m) ++ y :: b).set ((a.length : Int) + ((m.length + 1 + 1 : Nat) : Int) - 1).toNat x = a ++ [y] ++ m ++ ([x] ++ b) := by
          rw [show ((a.length : Int) + ((m.length + 1 + 1 : Nat) : Int) - 1) = ((a ++ [y] ++ m).length : Int) by simp; omega, mid_set]
          simp
        rw [show a ++ (x :: (m ++ [y])).reverse ++ b = a ++ [y] ++ m.reverse ++ ([x] ++ b) by simp]
        rw [e1, show (x :: (m ++ [y])).length = m.length + 1 + 1 by simp]
        refine Ev.step (fun k => ?_) h
        show slices_Reverse_Lint_int.l0 (k + 1) _ _ _ = _
        have hlen : ((a ++ x :: (m ++ y :: b)).length : Int) = (a.length : Int) + (m.length : Int) + 2 + (b.length : Int) := by simp; omega
        rw [slices_Reverse_Lint_int.l0, if_pos (by omega), if_pos (by omega), if_pos (by omega), if_pos (by omega), if_pos (by omega), r1, r2, s1, s2]
        rw [w64_id (by omega) (by omega), w64_id (by omega) (by omega)]
        congr 1
        · simp
        · simp; omega
theorem rev_ev (l : List Int) (hb : l.length ≤ 4611686018427387904) : Ev (fun k => slices_Reverse_Lint_int.f k l) l.reverse := by
  have h := rev_at l.length [] l [] (Nat.le_refl _) (by simpa using hb)
  unfold slices_Reverse_Lint_int.f
  rw [w64_id (by omega) (by omega)]
  simpa using h
theorem reversed_ev (l : List Int) (hb : l.length < 17592186044416) : Ev (fun k => impl_reversed.f k l) l.reverse := by
  unfold impl_reversed.f
  rw [clone_ev l hb]
  exact Ev.bind (a := l) (Ev.now l) (Ev.bind (rev_ev l (by omega)) (Ev.now _))
end Go.Proofs.Ytobncomimkmoeaa.F
end
section
/- Moves of the program, kind by kind: cut, deal, flip, turn, under. -/
namespace Go.Proofs.Ytobncomimkmoeaa.F
open Go.RowKit Go.Proofs.YtobncomimkmoeaaW.PrintWords Go.Proofs.YtobncomimkmoeaaW.PrintLast Go.Proofs.YtobncomimkmoeaaW.PrintMore
set_option linter.unusedVariables false
set_option linter.unusedSimpArgs false
theorem cut_ev (l : List Int) (k : Int) (hb : l.length ≤ 1048576) (h0 : 0 ≤ k) (h1 : k ≤ (l.length : Int)) : Ev (fun n => impl_moved.f n l 1 k) (l.drop k.toNat ++ l.take k.toNat) := by
  unfold impl_moved.f
  simp only [if_true, if_pos h0, if_pos h1]
  have h := concat_ev [l.drop k.toNat, l.take k.toNat] (by simp) (by simp [lens]; omega)
  rw [show [l.drop k.toNat, l.take k.toNat].flatten = l.drop k.toNat ++ l.take k.toNat by simp] at h
  exact Ev.bind h (Ev.now _)
theorem flip_at (rest : List Int) : ∀ (pre b : List Int), (pre ++ rest ++ b).length ≤ 1048576 → (∀ x ∈ rest, -9223372036854775808 ≤ x) →
    Ev (fun n => impl_moved.l0 n (((pre ++ rest).length : Nat) : Int) (pre ++ rest ++ b) (pre.length : Int)) (pre ++ rest.map turnC ++ b) := by
  induction rest with
  | nil =>
    intro pre b hb hw
    refine Ev.step (f := fun _ => some (pre ++ [] ++ b)) (fun k => ?_) (Ev.now _)
    show impl_moved.l0 (k + 1) _ _ _ = _
    rw [impl_moved.l0, if_neg (mid_nlt _)]
  | cons x rest ih =>
    intro pre b hb hw
    have h := ih (pre ++ [turnC x]) b (by simpa using hb) (fun y hy => hw y (by simp [hy]))
    have e1 : pre ++ x :: rest ++ b = pre ++ x :: (rest ++ b) := by simp
    have hlt : (pre.length : Int) < ((pre ++ x :: (rest ++ b)).length : Int) := mid_lt _ _ _
    have hb2 : pre.length ≤ 4611686018427387904 := by simp at hb; omega
    rw [show ((pre ++ [turnC x] ++ rest).length : Nat) = (pre ++ x :: rest).length by simp, ← mid_succ pre (turnC x) hb2] at h
    rw [show pre ++ (x :: rest).map turnC ++ b = pre ++ [turnC x] ++ rest.map turnC ++ b by simp]
    refine Ev.step (fun k => ?_) h
    show impl_moved.l0 (k + 1) _ _ _ = _
    rw [impl_moved.l0, if_pos (mid_lt _ _ _), if_pos (nn _), e1, if_pos hlt, mid_rd, impl_turn x (hw x (by simp)), Option.bind_some, mid_set]
    simp
theorem flip_ev (l : List Int) (k : Int) (hb : l.length ≤ 1048576) (h0 : 0 ≤ k) (h1 : k ≤ (l.length : Int)) (hw : ∀ x ∈ l, -9223372036854775808 ≤ x) : Ev (fun n => impl_moved.f n l 3 k) ((l.take k.toNat).reverse.map turnC ++ l.drop k.toNat) := by
  unfold impl_moved.f
  simp only [if_neg (show ¬ (3 : Int) = 1 by omega), if_neg (show ¬ (3 : Int) = 2 by omega), if_true, if_pos h0, if_pos h1]
  have h := concat_ev [(l.take k.toNat).reverse, l.drop k.toNat] (by simp) (by simp [lens]; omega)
  rw [show [(l.take k.toNat).reverse, l.drop k.toNat].flatten = (l.take k.toNat).reverse ++ l.drop k.toNat by simp] at h
  refine Ev.bind (reversed_ev _ (by simp; omega)) (Ev.bind h ?_)
  have hf := flip_at (l.take k.toNat).reverse [] (l.drop k.toNat) (by simp; omega) (fun x hx => hw x (List.mem_of_mem_take (List.mem_reverse.mp hx)))
  have e : ((([] ++ (l.take k.toNat).reverse).length : Nat) : Int) = k := by simp; omega
  rw [e] at hf
  simpa using hf
end Go.Proofs.Ytobncomimkmoeaa.F
end
section
/- SortPackets of the program: sorted, each list once. -/
namespace Go.Proofs.Ytobncomimkmoeaa.F
open Go.RowKit Go.Proofs.YtobncomimkmoeaaW.PrintWords Go.Proofs.YtobncomimkmoeaaW.PrintLast Go.Proofs.YtobncomimkmoeaaW.PrintMore
set_option linter.unusedVariables false
set_option linter.unusedSimpArgs false
theorem rdLLs (pre : List (List Int)) (x : List Int) (rest : List (List Int)) : rd_L1 (pre ++ x :: rest) (pre.length : Int) = x := by
  unfold rd_L1
  simp
theorem sortPk_at (rest : List (List Int)) : ∀ (pre : List (List Int)), (pre ++ rest).length < 5864062014805 → (∀ x ∈ rest, x.length < 17592186044416) →
    Ev (fun k => impl_SortPackets.l0 k pre (pre ++ rest) ((pre ++ rest).length : Int) (pre.length : Int)) (sortP (pre ++ rest)) := by
  induction rest with
  | nil =>
    intro pre hb hx
    refine Ev.step (f := fun _ => some (sortP (pre ++ []))) (fun k => ?_) (Ev.now _)
    show impl_SortPackets.l0 (k + 1) _ _ _ _ = _
    rw [List.append_nil] at hb ⊢
    rw [impl_SortPackets.l0, if_neg (by omega), if_pos (by omega)]
  | cons x rest ih =>
    intro pre hb hx
    have h := ih (pre ++ [x]) (by simpa using hb) (fun y hy => hx y (by simp [hy]))
    have hp : pre.length < 5864062014805 := by simp at hb; omega
    have hc : slices_Clone_Lint_int.f x = some x := by
      unfold slices_Clone_Lint_int.f
      rw [if_pos (hx x (by simp))]
    rw [← mid_cons, ← mid_succ pre x (by omega)] at h
    refine Ev.step (fun k => ?_) h
    show impl_SortPackets.l0 (k + 1) _ _ _ _ = _
    rw [impl_SortPackets.l0, if_pos (mid_lt _ _ _), if_pos (nn _), if_pos (mid_lt _ _ _), rdLLs, hc, Option.bind_some, if_pos hp]
theorem sortPk_ev (l : List (List Int)) (hb : l.length < 5864062014805) (hx : ∀ x ∈ l, x.length < 17592186044416) : Ev (fun k => impl_SortPackets.f k l) (sortP l) := sortPk_at l [] hb hx
end Go.Proofs.Ytobncomimkmoeaa.F
end
section
/- ReachedFrom of the program: the sorted list of all packets that are reached. -/
namespace Go.Proofs.Ytobncomimkmoeaa.F
open Go.RowKit Go.Proofs.YtobncomimkmoeaaW.PrintWords Go.Proofs.YtobncomimkmoeaaW.PrintLast Go.Proofs.YtobncomimkmoeaaW.PrintMore
set_option linter.unusedVariables false
set_option linter.unusedSimpArgs false
theorem rdLLr (pre : List (List Int)) (x : List Int) (rest : List (List Int)) : rd_L1 (pre ++ x :: rest) (pre.length : Int) = x := by
  unfold rd_L1
  simp
theorem cuts_at (p : List Int) (hb : p.length ≤ 100) (m : Nat) : ∀ (i : Nat) (out : List (List Int)), i + m = p.length → out.length = i →
    Ev (fun k => impl_cuts.l0 k p out (p.length : Int) (i : Int)) (out ++ cutsFrom p i m) := by
  induction m with
  | zero =>
    intro i out hi ho
    refine Ev.step (f := fun _ => some (out ++ [])) (fun k => ?_) (Ev.now _)
    show impl_cuts.l0 (k + 1) _ _ _ _ = _
    rw [impl_cuts.l0, if_neg (by omega), List.append_nil]
  | succ m ih =>
    intro i out hi ho
    have h := ih (i + 1) (out ++ [p.drop i ++ p.take i]) (by omega) (by simp [ho])
    rw [List.append_assoc] at h
    have w : wrap64 ((i : Int) + 1) = ((i + 1 : Nat) : Int) := by rw [w64_id (by omega) (by omega)]; omega
    have hc := cut_ev p (i : Int) (by omega) (by omega) (by omega)
    rw [Int.toNat_natCast] at hc
    refine Ev.stepb hc (fun k => by rw [impl_cuts.l0, if_pos (by omega), w]) ?_
    simp only [if_pos (show out.length < 5864062014805 by omega)]
    exact h
theorem cuts_ev (p : List Int) (hb : p.length ≤ 100) : Ev (fun k => impl_cuts.f k p) (cutsL p) := cuts_at p hb p.length 0 [] (by omega) rfl
def stepL (c : Int) (p : List Int) : List (List Int) := if c = 3 then cutsL (flip2 p) else cutsL p
theorem stepL_length (c : Int) (p : List Int) : (stepL c p).length = p.length := by
  unfold stepL
  split
  · rw [cuts_length, flip2_length]
  · rw [cuts_length]
theorem all_ev (p : List Int) (c : Int) (hc : c = 1 ∨ c = 3) (hp : packetB p = true) (h2 : 2 ≤ p.length) : Ev (fun k => impl_all.f k p c) (stepL c p, true) := by
  have hlen := packetB_len hp
  unfold impl_all.f stepL
  rcases hc with rfl | rfl
  · simp only [if_neg (show ¬ (1 : Int) = 0 by omega), if_neg (show ¬ (1 : Int) = 3 by omega), if_true]
    exact Ev.bind (cuts_ev p (by omega)) (Ev.now _)
  · simp only [if_neg (show ¬ (3 : Int) = 0 by omega), if_neg (show ¬ (3 : Int) = 1 by omega), if_neg (show ¬ (3 : Int) = 2 by omega), if_true, if_neg (show ¬ (p.length : Int) < 2 by omega)]
    have hf := flip_ev p 2 (by omega) (by omega) (by omega) (fun x hx => by have := card_small (((packetB_iff p).mp hp).1 x hx); omega)
    refine Ev.bind (a := flip2 p) hf (Ev.bind (cuts_ev (flip2 p) (by rw [flip2_length]; omega)) (Ev.now _))
theorem results_ev (p : List Int) (c : Int) (hc : c = 1 ∨ c = 3) (hp : packetB p = true) (h2 : 2 ≤ p.length) : Ev (fun k => impl_ResultsOf.f k p c) (sortP (stepL c p), true) := by
  have hlen := packetB_len hp
  have hsl := stepL_length c p
  have hle := sortP_length_le (stepL c p)
  unfold impl_ResultsOf.f
  refine Ev.bind (impl_PacketOk_ev p (by omega) (fun x hx => by have := card_small (((packetB_iff p).mp hp).1 x hx); omega)) ?_
  simp only [hp, if_true]
  have hs := sortPk_ev (stepL c p) (by omega) (fun x hx => by
    have h3 : x.length = p.length := by
      unfold stepL at hx
      split at hx
      · obtain ⟨j, _, rfl⟩ := (cuts_mem _ _).mp hx
        rw [(cut_perm _ j).length_eq, flip2_length]
      · obtain ⟨j, _, rfl⟩ := (cuts_mem _ _).mp hx
        rw [(cut_perm _ j).length_eq]
    omega)
  refine Ev.step (fun k => by
    show impl_ResultsOf.j0 (k + 1) p c ((p.length : Int) == 0) = _
    rw [show ((p.length : Int) == 0) = false from beq_eq_false_iff_ne.mpr (by omega), impl_ResultsOf.j0, if_neg (by decide)]) (Ev.bind (all_ev p c hc hp h2) (Ev.bind hs ?_))
  simp only [if_true, if_neg (show ¬ ((sortP (stepL c p)).length : Int) > 3000 by omega)]
  exact Ev.now _
def aftL (c : Int) : List (List Int) → List (List Int)
  | [] => []
  | p :: ps => sortP (stepL c p) ++ aftL c ps
theorem aftL_mem (c : Int) (x : List Int) (l : List (List Int)) : x ∈ aftL c l ↔ ∃ p ∈ l, x ∈ stepL c p := by
  induction l with
  | nil => simp [aftL]
  | cons p ps ih =>
    simp only [aftL, List.mem_append, sortP_mem, ih, List.mem_cons]
    constructor
    · rintro (h | ⟨q, hq, h⟩)
      · exact ⟨p, .inl rfl, h⟩
      · exact ⟨q, .inr hq, h⟩
    · rintro ⟨q, rfl | hq, h⟩
      · exact .inl h
      · exact .inr ⟨q, hq, h⟩
theorem aftL_len (c : Int) (l : List (List Int)) : (∀ p ∈ l, p.length ≤ 4) → (aftL c l).length ≤ 4 * l.length := by
  induction l with
  | nil => intro _; simp [aftL]
  | cons p ps ih =>
    intro h
    have h1 := h p List.mem_cons_self
    have h2 := ih (fun q hq => h q (List.mem_cons_of_mem _ hq))
    have h3 := sortP_length_le (stepL c p)
    rw [stepL_length] at h3
    simp only [aftL, List.length_append, List.length_cons]
    omega
def okL (l : List (List Int)) : Prop := ∀ p ∈ l, packetB p = true ∧ 2 ≤ p.length ∧ p.length ≤ 4
theorem after_at (c : Int) (hc : c = 1 ∨ c = 3) (rest : List (List Int)) : ∀ (pre out : List (List Int)), okL (pre ++ rest) → (pre ++ rest).length ≤ 700 → out.length ≤ 4 * pre.length → (∀ x ∈ out, x.length ≤ 4) →
    Ev (fun k => impl_ResultsAfter.l0 k c out (pre ++ rest) ((pre ++ rest).length : Int) (pre.length : Int)) (sortP (out ++ aftL c rest), true) := by
  induction rest with
  | nil =>
    intro pre out hk hb ho hx
    rw [List.append_nil] at hb ⊢
    have hs := sortPk_ev out (by omega) (fun x h => by have := hx x h; omega)
    have hle := sortP_length_le out
    refine Ev.stepb hs (fun k => by rw [impl_ResultsAfter.l0, if_neg (by omega)]) ?_
    simp only [if_neg (show ¬ ((sortP out).length : Int) > 3000 by omega), aftL, List.append_nil]
    exact Ev.now _
  | cons p ps ih =>
    intro pre out hk hb ho hx
    have hp := hk p (by simp)
    have hle := sortP_length_le (stepL c p)
    rw [stepL_length] at hle
    have hsx : ∀ x ∈ sortP (stepL c p), x.length ≤ 4 := fun x h => by
      have h := (sortP_mem x _).mp h
      unfold stepL at h
      split at h
      · obtain ⟨j, _, rfl⟩ := (cuts_mem _ _).mp h
        rw [(cut_perm _ j).length_eq, flip2_length]; exact hp.2.2
      · obtain ⟨j, _, rfl⟩ := (cuts_mem _ _).mp h
        rw [(cut_perm _ j).length_eq]; exact hp.2.2
    have hb2 : pre.length ≤ 700 := by simp at hb; omega
    have h := ih (pre ++ [p]) (out ++ sortP (stepL c p)) (by simpa using hk) (by simpa using hb) (by simp; omega) (fun x h => by
      rcases List.mem_append.mp h with h | h
      · exact hx x h
      · exact hsx x h)
    rw [List.append_assoc out] at h
    rw [← mid_cons, ← mid_succ pre p (by omega)] at h
    refine Ev.stepb (results_ev p c hc hp.1 hp.2.1) (fun k => by rw [impl_ResultsAfter.l0, if_pos (mid_lt _ _ _), if_pos (nn _), if_pos (mid_lt _ _ _), rdLLr]) ?_
    simp only [if_true, if_pos (show out.length + (sortP (stepL c p)).length < 5864062014805 by omega), Option.bind_some, if_neg (show ¬ ((out ++ sortP (stepL c p)).length : Int) > 12000 by rw [List.length_append]; omega)]
    exact h
theorem after_ev (c : Int) (hc : c = 1 ∨ c = 3) (l : List (List Int)) (hk : okL l) (hb : l.length ≤ 700) : Ev (fun k => impl_ResultsAfter.f k l c) (sortP (aftL c l), true) := after_at c hc l [] [] hk hb (by simp) (by simp)
theorem concat3_ev (a b c : List (List Int)) (ha : a.length ≤ 3000) (hb : b.length ≤ 3000) (hc : c.length ≤ 3000) : Ev (fun k => slices_Concat_LLint_Lint.f k [a, b, c]) (a ++ (b ++ c)) := by
  have w0 : wrap64 (0 + (a.length : Int)) = (a.length : Int) := by rw [Int.zero_add]; exact w64_id (by omega) (by omega)
  have w1 : wrap64 ((a.length : Int) + (b.length : Int)) = (a.length : Int) + (b.length : Int) := w64_id (by omega) (by omega)
  have w2 : wrap64 ((a.length : Int) + (b.length : Int) + (c.length : Int)) = (a.length : Int) + (b.length : Int) + (c.length : Int) := w64_id (by omega) (by omega)
  have i1 : wrap64 ((0 : Int) + 1) = 1 := w64_id (by omega) (by omega)
  have i2 : wrap64 ((1 : Int) + 1) = 2 := w64_id (by omega) (by omega)
  have i3 : wrap64 ((2 : Int) + 1) = 3 := w64_id (by omega) (by omega)
  have hl : (([a, b, c] : List (List (List Int))).length : Int) = 3 := rfl
  have r0 : rd_L2 [a, b, c] 0 = a := rfl
  have r1 : rd_L2 [a, b, c] 1 = b := rfl
  have r2 : rd_L2 [a, b, c] 2 = c := rfl
  refine Ev.at_ 20 (fun k hk => ?_)
  obtain ⟨m, rfl⟩ := Nat.exists_eq_add_of_le' hk
  have t1 : ∀ n, slices_Concat_LLint_Lint.l1 (n + 4) [] [a, b, c] 3 0 = some (a ++ (b ++ c)) := by
    intro n
    rw [show n + 4 = (n + 3) + 1 from rfl, slices_Concat_LLint_Lint.l1, if_pos (by decide), if_pos (by decide), hl, if_pos (by decide), r0, if_pos (by simp; omega), List.nil_append, i1]
    rw [show n + 3 = (n + 2) + 1 from rfl, slices_Concat_LLint_Lint.l1, if_pos (by decide), if_pos (by decide), hl, if_pos (by decide), r1, if_pos (by omega), i2]
    rw [show n + 2 = (n + 1) + 1 from rfl, slices_Concat_LLint_Lint.l1, if_pos (by decide), if_pos (by decide), hl, if_pos (by decide), r2, if_pos (by simp; omega), i3]
    rw [slices_Concat_LLint_Lint.l1, if_neg (by decide), List.append_assoc]
  unfold slices_Concat_LLint_Lint.f
  rw [hl]
  rw [show m + 20 = (m + 19) + 1 from rfl, slices_Concat_LLint_Lint.l0, if_pos (by decide), if_pos (by decide), hl, if_pos (by decide), r0, w0, if_neg (by omega), i1]
  rw [show m + 19 = (m + 18) + 1 from rfl, slices_Concat_LLint_Lint.l0, if_pos (by decide), if_pos (by decide), hl, if_pos (by decide), r1, w1, if_neg (by omega), i2]
  rw [show m + 18 = (m + 17) + 1 from rfl, slices_Concat_LLint_Lint.l0, if_pos (by decide), if_pos (by decide), hl, if_pos (by decide), r2, w2, if_neg (by omega), i3]
  rw [show m + 17 = (m + 16) + 1 from rfl, slices_Concat_LLint_Lint.l0, if_neg (by decide)]
  unfold slices_Grow_LLint_Lint__nil.f
  rw [if_pos (by omega), if_pos (by omega), Option.bind_some, hl]
  exact t1 (m + 12)
/-- One round more. -/
def nextL (l : List (List Int)) : List (List Int) := sortP (l ++ (sortP (aftL 3 l) ++ sortP (aftL 1 l)))
theorem nextL_mem (x : List Int) (l : List (List Int)) : x ∈ nextL l ↔ x ∈ l ∨ ∃ p ∈ l, x ∈ cutsL p ∨ x ∈ cutsL (flip2 p) := by
  unfold nextL
  simp only [sortP_mem, List.mem_append, aftL_mem]
  have e3 : ∀ p, stepL 3 p = cutsL (flip2 p) := fun p => if_pos rfl
  have e1 : ∀ p, stepL 1 p = cutsL p := fun p => if_neg (by decide)
  simp only [e3, e1]
  constructor
  · rintro (h | ⟨p, hp, h⟩ | ⟨p, hp, h⟩)
    · exact .inl h
    · exact .inr ⟨p, hp, .inr h⟩
    · exact .inr ⟨p, hp, .inl h⟩
  · rintro (h | ⟨p, hp, h | h⟩)
    · exact .inl h
    · exact .inr (.inr ⟨p, hp, h⟩)
    · exact .inr (.inl ⟨p, hp, h⟩)
theorem good_ok {p : List Int} (hp : packetB p = true) (h2 : 2 ≤ p.length) (h4 : p.length ≤ 4) {l : List (List Int)} (h : ∀ x ∈ l, Gd p x) : okL l := fun x hx => by
  have g := h x hx
  exact ⟨gd_packet g hp, by rw [g.1]; exact h2, by rw [g.1]; exact h4⟩
theorem next_ev (p : List Int) (hp : packetB p = true) (h2 : 2 ≤ p.length) (h4 : p.length ≤ 4) (l : List (List Int)) (hn : l.Nodup) (hr : ∀ x ∈ l, Rch p x) (n : Int) (hne : ¬ n = (l.length : Int)) (r : List (List Int) × Bool)
    (h : Ev (fun k => impl_ReachedFrom.l0 k (nextL l) (l.length : Int)) r) : Ev (fun k => impl_ReachedFrom.l0 k l n) r := by
  have hg : ∀ x ∈ l, Gd p x := fun x hx => rch_good hp (hr x hx)
  have hk := good_ok hp h2 h4 hg
  have hlen := good_count hp h4 l hn hg
  have l3 := aftL_len 3 l (fun x hx => (hk x hx).2.2)
  have l1 := aftL_len 1 l (fun x hx => (hk x hx).2.2)
  have s3 := sortP_length_le (aftL 3 l)
  have s1 := sortP_length_le (aftL 1 l)
  refine Ev.stepb (after_ev 3 (.inr rfl) l hk (by omega)) (fun k => by rw [impl_ReachedFrom.l0, if_neg hne]) ?_
  refine Ev.bind (after_ev 1 (.inl rfl) l hk (by omega)) (Ev.bind (concat3_ev l (sortP (aftL 3 l)) (sortP (aftL 1 l)) (by omega) (by omega) (by omega)) ?_)
  have hsl : ∀ c, c = 1 ∨ c = 3 → ∀ x ∈ sortP (aftL c l), x.length ≤ 4 := fun c _ x hx => by
    obtain ⟨q, hq, h⟩ := (aftL_mem c x l).mp ((sortP_mem x _).mp hx)
    unfold stepL at h
    split at h
    · obtain ⟨j, _, rfl⟩ := (cuts_mem _ _).mp h
      rw [(cut_perm _ j).length_eq, flip2_length]; exact (hk q hq).2.2
    · obtain ⟨j, _, rfl⟩ := (cuts_mem _ _).mp h
      rw [(cut_perm _ j).length_eq]; exact (hk q hq).2.2
  refine Ev.bind (sortPk_ev (l ++ (sortP (aftL 3 l) ++ sortP (aftL 1 l))) (by simp only [List.length_append]; omega) (fun x hx => ?_)) h
  rcases List.mem_append.mp hx with hx | hx
  · have := (hk x hx).2.2; omega
  · rcases List.mem_append.mp hx with hx | hx
    · have := hsl 3 (.inr rfl) x hx; omega
    · have := hsl 1 (.inl rfl) x hx; omega
theorem reach_loop (p : List Int) (hp : packetB p = true) (h2 : 2 ≤ p.length) (h4 : p.length ≤ 4) (m : Nat) : ∀ (l : List (List Int)) (n : Nat), l.Pairwise (fun a b => lexC a b < 0) → p ∈ l → (∀ x ∈ l, Rch p x) →
    (n = l.length → ∀ x ∈ l, ∀ y, (y ∈ cutsL x ∨ y ∈ cutsL (flip2 x)) → y ∈ l) → 385 ≤ l.length + m →
    ∃ L, Ev (fun k => impl_ReachedFrom.l0 k l (n : Int)) (L, true) ∧ L.Pairwise (fun a b => lexC a b < 0) ∧ ∀ x, x ∈ L ↔ Rch p x := by
  induction m with
  | zero =>
    intro l n hs h0 hr hc hm
    have := good_count hp h4 l (strict_nodup hs) (fun x hx => rch_good hp (hr x hx))
    omega
  | succ m ih =>
    intro l n hs h0 hr hc hm
    by_cases e : n = l.length
    · refine ⟨l, Ev.step (f := fun _ => some (l, true)) (fun k => ?_) (Ev.now _), hs, fun x => ⟨hr x, fun h => rch_of_closed l h0 (hc e) h⟩⟩
      show impl_ReachedFrom.l0 (k + 1) l (n : Int) = _
      rw [impl_ReachedFrom.l0, if_pos (by omega)]
    · have hsn : (nextL l).Pairwise (fun a b => lexC a b < 0) := sortP_sorted _
      have hsub : ∀ x ∈ l, x ∈ nextL l := fun x hx => (nextL_mem x l).mpr (.inl hx)
      have hrn : ∀ x ∈ nextL l, Rch p x := fun x hx => by
        rcases (nextL_mem x l).mp hx with h | ⟨q, hq, h⟩
        · exact hr x h
        · exact rch_step (hr q hq) h
      have hle : l.length ≤ (nextL l).length := nodup_leR l _ (strict_nodup hs) hsub
      by_cases e2 : l.length = (nextL l).length
      · have he := strict_same hs hsn hsub e2
        have hcl : ∀ x ∈ l, ∀ y, (y ∈ cutsL x ∨ y ∈ cutsL (flip2 x)) → y ∈ l := fun x hx y hy => by
          have h1 : y ∈ nextL l := (nextL_mem y l).mpr (.inr ⟨x, hx, hy⟩)
          rwa [← he] at h1
        refine ⟨l, next_ev p hp h2 h4 l (strict_nodup hs) hr (n : Int) (by omega) (l, true) ?_, hs, fun x => ⟨hr x, fun h => rch_of_closed l h0 hcl h⟩⟩
        rw [← he]
        refine Ev.step (f := fun _ => some (l, true)) (fun k => ?_) (Ev.now _)
        show impl_ReachedFrom.l0 (k + 1) l (l.length : Int) = _
        rw [impl_ReachedFrom.l0, if_pos rfl]
      · obtain ⟨L, h3, h5, h6⟩ := ih (nextL l) l.length hsn (hsub p h0) hrn (fun e3 => absurd e3 e2) (by omega)
        exact ⟨L, next_ev p hp h2 h4 l (strict_nodup hs) hr (n : Int) (by omega) (L, true) h3, h5, h6⟩
theorem reached_ev (p : List Int) (hp : packetB p = true) (hn : p.length = 2 ∨ p.length = 4) : ∃ L, Ev (fun k => impl_ReachedFrom.f k p) (L, true) ∧ L.Pairwise (fun a b => lexC a b < 0) ∧ ∀ x, x ∈ L ↔ Rch p x := by
  obtain ⟨L, h1, h2, h3⟩ := reach_loop p hp (by omega) (by omega) 385 [p] 0 (List.pairwise_singleton _ _) (by simp) (fun x hx => by rw [List.mem_singleton.mp hx]; exact rch_refl p) (fun e => by simp at e) (by omega)
  refine ⟨L, ?_, h2, h3⟩
  have hlen := packetB_len hp
  have hcl : slices_Clone_Lint_int.f p = some p := by
    unfold slices_Clone_Lint_int.f
    rw [if_pos (by omega)]
  unfold impl_ReachedFrom.f
  refine Ev.bind (impl_PacketOk_ev p (by omega) (fun x hx => by have := card_small (((packetB_iff p).mp hp).1 x hx); omega)) ?_
  simp only [hp, if_true]
  have hj : Ev (fun k => impl_ReachedFrom.j0 k p false) (L, true) := by
    refine Ev.step (fun k => ?_) h1
    show impl_ReachedFrom.j0 (k + 1) p false = _
    rw [impl_ReachedFrom.j0, if_neg (by decide), hcl, Option.bind_some]
    rfl
  rcases hn with hn | hn
  · simp only [if_pos (show (p.length : Int) = 2 by omega)]
    exact hj
  · simp only [if_neg (show ¬ (p.length : Int) = 2 by omega), show ((p.length : Int) != 4) = false from by rw [hn]; rfl]
    exact hj
theorem reached_no (p : List Int) (hb : p.length ≤ 1048576) (hw : ∀ x ∈ p, -9223372036854775808 ≤ x) (h : ¬ (packetB p = true ∧ (p.length = 2 ∨ p.length = 4))) : Ev (fun k => impl_ReachedFrom.f k p) ([], false) := by
  have hj : Ev (fun k => impl_ReachedFrom.j0 k p true) ([], false) := Ev.step (f := fun _ => some ([], false)) (fun k => by rw [impl_ReachedFrom.j0, if_pos rfl]) (Ev.now _)
  unfold impl_ReachedFrom.f
  refine Ev.bind (impl_PacketOk_ev p (by omega) hw) ?_
  by_cases hp : packetB p = true
  · have h2 : ¬ p.length = 2 := fun e => h ⟨hp, .inl e⟩
    have h4 : ¬ p.length = 4 := fun e => h ⟨hp, .inr e⟩
    simp only [hp, if_true, if_neg (show ¬ (p.length : Int) = 2 by omega), show ((p.length : Int) != 4) = true from bne_iff_ne.mpr (by omega)]
    exact hj
  · simp only [if_neg hp]
    exact hj
end Go.Proofs.Ytobncomimkmoeaa.F
end
section
/- ReachedFrom of the reference: the same list. -/
namespace Go.Proofs.Ytobncomimkmoeaa.F
open Go.RowKit Go.Proofs.YtobncomimkmoeaaW.PrintWords Go.Proofs.YtobncomimkmoeaaW.PrintLast Go.Proofs.YtobncomimkmoeaaW.PrintMore
set_option linter.unusedVariables false
set_option linter.unusedSimpArgs false
theorem cutsS_at (p : List Int) (hb : p.length ≤ 100) (m : Nat) : ∀ (i : Nat) (out : List (List Int)), i + m = p.length → out.length = i →
    Ev (fun k => spec_l05Cuts.l0 k p out (p.length : Int) (i : Int)) (out ++ cutsFrom p i m) := by
  induction m with
  | zero =>
    intro i out hi ho
    refine Ev.step (f := fun _ => some (out ++ [])) (fun k => ?_) (Ev.now _)
    show spec_l05Cuts.l0 (k + 1) _ _ _ _ = _
    rw [spec_l05Cuts.l0, if_neg (by omega), List.append_nil]
  | succ m ih =>
    intro i out hi ho
    have h := ih (i + 1) (out ++ [p.drop i ++ p.take i]) (by omega) (by simp [ho])
    rw [List.append_assoc] at h
    have w : wrap64 ((i : Int) + 1) = ((i + 1 : Nat) : Int) := by rw [w64_id (by omega) (by omega)]; omega
    have hc := spec_cut_ev p (i : Int) (by omega) (by omega) (by omega)
    rw [Int.toNat_natCast] at hc
    refine Ev.stepb hc (fun k => by rw [spec_l05Cuts.l0, if_pos (by omega), w]) ?_
    simp only [if_pos (show out.length < 5864062014805 by omega)]
    exact h
theorem cutsS_ev (p : List Int) (hb : p.length ≤ 100) : Ev (fun k => spec_l05Cuts.f k p) (cutsL p) := cutsS_at p hb p.length 0 [] (by omega) rfl
theorem of_ev (p : List Int) (c : Int) (hc : c = 1 ∨ c = 3) (h2 : 2 ≤ p.length) (hb : p.length ≤ 100) : Ev (fun k => spec_l05Of.f k p c) (stepL c p) := by
  unfold spec_l05Of.f stepL
  rcases hc with rfl | rfl
  · simp only [Option.bind_some, if_neg (show ¬ (1 : Int) = 3 by omega), if_true]
    exact Ev.bind (cutsS_ev p hb) (Ev.now _)
  · simp only [Option.bind_some, if_neg (show ¬ (3 : Int) = 1 by omega), if_neg (show ¬ (3 : Int) = 2 by omega), if_true]
    have hf := spec_back_ev p 2 true (by omega) (by omega) (by omega)
    simp only [if_true] at hf
    exact Ev.bind (a := flip2 p) hf (Ev.bind (cutsS_ev (flip2 p) (by rw [flip2_length]; omega)) (Ev.now _))
def addS : List (List Int) → List (List Int) → List (List Int)
  | l, [] => l
  | l, x :: xs => addS (insP l x) xs
theorem addS_mem (y : List Int) (xs : List (List Int)) : ∀ l, y ∈ addS l xs ↔ y ∈ l ∨ y ∈ xs := by
  induction xs with
  | nil => intro l; simp [addS]
  | cons x xs ih =>
    intro l
    simp only [addS, ih, insP_mem, List.mem_cons]
    constructor
    · rintro ((h | h) | h)
      · exact .inl h
      · exact .inr (.inl h)
      · exact .inr (.inr h)
    · rintro (h | h | h)
      · exact .inl (.inl h)
      · exact .inl (.inr h)
      · exact .inr h
theorem insP_nodup (l : List (List Int)) (x : List Int) (h : l.Nodup) : (insP l x).Nodup := by
  unfold insP
  split
  · exact h
  · rename_i hn
    refine List.pairwise_append.mpr ⟨h, List.pairwise_singleton _ _, fun u hu v hv e => hn ?_⟩
    rw [← List.mem_singleton.mp hv, ← e]
    exact hu
theorem addS_nodup (xs : List (List Int)) : ∀ l, l.Nodup → (addS l xs).Nodup := by
  induction xs with
  | nil => intro l h; exact h
  | cons x xs ih => intro l h; exact ih _ (insP_nodup l x h)
theorem addS_pre (xs : List (List Int)) : ∀ l, ∃ new, addS l xs = l ++ new := by
  induction xs with
  | nil => intro l; exact ⟨[], by simp [addS]⟩
  | cons x xs ih =>
    intro l
    obtain ⟨new, h⟩ := ih (insP l x)
    rw [addS, h]
    unfold insP
    split
    · exact ⟨new, rfl⟩
    · exact ⟨x :: new, by simp⟩
theorem l2_ev (at_ : Int) (ks : List Int) (n i : Int) (r : List (List Int) × Bool) (rest : List (List Int)) : ∀ (pre l : List (List Int)), (pre ++ rest).length ≤ 1000 → l.length + rest.length ≤ 100000 → (∀ x, x ∈ l ∨ x ∈ rest → x.length ≤ 1000) →
    Ev (fun k => spec_ReachedFrom.l1 k (addS l rest) at_ ks n (wrap64 (i + 1))) r → Ev (fun k => spec_ReachedFrom.l2 k l at_ ks n i (pre ++ rest) ((pre ++ rest).length : Int) (pre.length : Int)) r := by
  induction rest with
  | nil =>
    intro pre l hb hl hx h
    refine Ev.step (fun k => ?_) h
    show spec_ReachedFrom.l2 (k + 1) _ _ _ _ _ _ _ _ = _
    rw [spec_ReachedFrom.l2, if_neg (mid_nlt _)]
    rfl
  | cons x rest ih =>
    intro pre l hb hl hx h
    have hil := insP_len l x
    have h2 := ih (pre ++ [x]) (insP l x) (by simpa using hb) (by simp at hl; omega) (fun y hy => by
      rcases hy with hy | hy
      · rcases (insP_mem l x y).mp hy with hy | hy
        · exact hx y (.inl hy)
        · rw [hy]; exact hx x (.inr (by simp))
      · exact hx y (.inr (List.mem_cons_of_mem _ hy))) h
    rw [← mid_cons, ← mid_succ pre x (by simp at hb; omega)] at h2
    have hf := find_ev l x (by omega) (fun y hy => by have := hx y (.inl hy); omega)
    refine Ev.stepb hf (fun k => by rw [spec_ReachedFrom.l2, if_pos (mid_lt _ _ _), if_pos (nn _), if_pos (mid_lt _ _ _), rdLLr]) ?_
    unfold insP at h2
    by_cases c : x ∈ l
    · rw [if_pos c] at h2
      simp only [decide_eq_true c, if_true]
      exact h2
    · rw [if_neg c] at h2
      simp only [decide_eq_false c, Bool.false_eq_true, if_false, if_pos (show l.length < 5864062014805 by omega)]
      exact h2
/-- What one packet adds. -/
def addQ (l : List (List Int)) (q : List Int) : List (List Int) := addS (addS l (stepL 1 q)) (stepL 3 q)
theorem addQ_mem (l : List (List Int)) (q y : List Int) : y ∈ addQ l q ↔ y ∈ l ∨ (y ∈ cutsL q ∨ y ∈ cutsL (flip2 q)) := by
  unfold addQ
  rw [addS_mem, addS_mem, show stepL 1 q = cutsL q from if_neg (by decide), show stepL 3 q = cutsL (flip2 q) from if_pos rfl]
  constructor
  · rintro ((h | h) | h)
    · exact .inl h
    · exact .inr (.inl h)
    · exact .inr (.inr h)
  · rintro (h | h | h)
    · exact .inl (.inl h)
    · exact .inl (.inr h)
    · exact .inr h
theorem step_len {c : Int} {q x : List Int} (hx : x ∈ stepL c q) : x.length = q.length := by
  unfold stepL at hx
  split at hx
  · obtain ⟨j, _, rfl⟩ := (cuts_mem _ _).mp hx
    rw [(cut_perm _ j).length_eq, flip2_length]
  · obtain ⟨j, _, rfl⟩ := (cuts_mem _ _).mp hx
    rw [(cut_perm _ j).length_eq]
theorem one_ev (q : List Int) (pre rest : List (List Int)) (r : List (List Int) × Bool) (hb : (pre ++ q :: rest).length ≤ 400) (hx : ∀ x ∈ pre ++ q :: rest, x.length ≤ 4) (h2 : 2 ≤ q.length)
    (h : Ev (fun k => spec_ReachedFrom.l0 k (addQ (pre ++ q :: rest) q) ((pre.length + 1 : Nat) : Int)) r) : Ev (fun k => spec_ReachedFrom.l0 k (pre ++ q :: rest) (pre.length : Int)) r := by
  have hq := hx q (by simp)
  have w1 : wrap64 ((0 : Int) + 1) = 1 := w64_id (by omega) (by omega)
  have w2 : wrap64 ((1 : Int) + 1) = 2 := w64_id (by omega) (by omega)
  have hpl : pre.length ≤ 400 := by simp at hb; omega
  have w3 : wrap64 ((pre.length : Int) + 1) = ((pre.length + 1 : Nat) : Int) := by rw [w64_id (by omega) (by omega)]; omega
  have e1 := of_ev q 1 (.inl rfl) h2 (by omega)
  have e3 := of_ev q 3 (.inr rfl) h2 (by omega)
  have n1 := stepL_length 1 q
  have n3 := stepL_length 3 q
  obtain ⟨new, hnew⟩ := addS_pre (stepL 1 q) (pre ++ q :: rest)
  have hl1 : ∀ x ∈ addS (pre ++ q :: rest) (stepL 1 q), x.length ≤ 4 := fun x hx1 => by
    rcases (addS_mem x _ _).mp hx1 with h4 | h4
    · exact hx x h4
    · rw [step_len h4]; exact hq
  have hlen1 : (addS (pre ++ q :: rest) (stepL 1 q)).length ≤ 404 := by
    have gen : ∀ (xs l : List (List Int)), (addS l xs).length ≤ l.length + xs.length := by
      intro xs
      induction xs with
      | nil => intro l; simp [addS]
      | cons x xs ih =>
        intro l
        have h5 := ih (insP l x)
        have h6 := insP_len l x
        rw [addS, List.length_cons]
        omega
    have h7 := gen (stepL 1 q) (pre ++ q :: rest)
    omega
  -- the third round of the kinds
  have t2 : Ev (fun k => spec_ReachedFrom.l1 k (addQ (pre ++ q :: rest) q) (pre.length : Int) [1, 3] 2 2) r := by
    refine Ev.step (fun k => ?_) h
    show spec_ReachedFrom.l1 (k + 1) _ _ _ _ _ = _
    rw [spec_ReachedFrom.l1, if_neg (by omega), w3]
  have t1 : Ev (fun k => spec_ReachedFrom.l1 k (addS (pre ++ q :: rest) (stepL 1 q)) (pre.length : Int) [1, 3] 2 1) r := by
    have hr : rd_L1 (addS (pre ++ q :: rest) (stepL 1 q)) (pre.length : Int) = q := by
      rw [hnew, List.append_assoc, List.cons_append]; exact rdLLr _ _ _
    have hlt : (pre.length : Int) < ((addS (pre ++ q :: rest) (stepL 1 q)).length : Int) := by
      rw [hnew, List.append_assoc, List.cons_append]; exact mid_lt _ _ _
    refine Ev.stepb e3 (fun k => by rw [spec_ReachedFrom.l1, if_pos (by omega), if_pos (by omega), if_pos (by simp), if_pos (nn _), if_pos hlt, hr, show rd [1, 3] 1 = 3 from rfl]) ?_
    have h8 := l2_ev (pre.length : Int) [1, 3] 2 1 r (stepL 3 q) [] (addS (pre ++ q :: rest) (stepL 1 q)) (by simp; omega) (by omega) (fun x hx1 => by
      rcases hx1 with hx1 | hx1
      · have := hl1 x hx1; omega
      · rw [step_len hx1]; omega) (by rw [w2]; exact t2)
    exact h8
  have t0 : Ev (fun k => spec_ReachedFrom.l1 k (pre ++ q :: rest) (pre.length : Int) [1, 3] 2 0) r := by
    refine Ev.stepb e1 (fun k => by rw [spec_ReachedFrom.l1, if_pos (by omega), if_pos (by omega), if_pos (by simp), if_pos (nn _), if_pos (mid_lt _ _ _), rdLLr, show rd [1, 3] 0 = 1 from rfl]) ?_
    have h8 := l2_ev (pre.length : Int) [1, 3] 2 0 r (stepL 1 q) [] (pre ++ q :: rest) (by simp; omega) (by omega) (fun x hx1 => by
      rcases hx1 with hx1 | hx1
      · have := hx x hx1; omega
      · rw [step_len hx1]; omega) (by rw [w1]; exact t1)
    exact h8
  refine Ev.step (fun k => ?_) t0
  show spec_ReachedFrom.l0 (k + 1) _ _ = _
  rw [spec_ReachedFrom.l0, if_pos (mid_lt _ _ _), Option.bind_some]
  rfl
theorem reachS_loop (p : List Int) (hp : packetB p = true) (h2 : 2 ≤ p.length) (h4 : p.length ≤ 4) (m : Nat) : ∀ (pre rest : List (List Int)), (pre ++ rest).Nodup → p ∈ pre ++ rest → (∀ x ∈ pre ++ rest, Rch p x) →
    (∀ x ∈ pre, ∀ y, (y ∈ cutsL x ∨ y ∈ cutsL (flip2 x)) → y ∈ pre ++ rest) → 385 ≤ pre.length + m →
    ∃ l : List (List Int), Ev (fun k => spec_ReachedFrom.l0 k (pre ++ rest) (pre.length : Int)) (sortP l, true) ∧ ∀ x, x ∈ l ↔ Rch p x := by
  induction m with
  | zero =>
    intro pre rest hn h0 hr hc hm
    have h5 := good_count hp h4 (pre ++ rest) hn (fun x hx => rch_good hp (hr x hx))
    rw [List.length_append] at h5
    omega
  | succ m ih =>
    intro pre rest hn h0 hr hc hm
    have hg : ∀ x ∈ pre ++ rest, Gd p x := fun x hx => rch_good hp (hr x hx)
    have h5 := good_count hp h4 (pre ++ rest) hn hg
    cases rest with
    | nil =>
      rw [List.append_nil] at hn h0 hr hc hg h5 ⊢
      have hs := sortS pre (by omega) (fun u hu => by rw [(hg u hu).1]; omega)
      refine ⟨pre, Ev.step (fun k => ?_) (Ev.bind (f := fun _ t => some (t, true)) hs (Ev.now _)), fun x => ⟨hr x, fun h => rch_of_closed pre h0 hc h⟩⟩
      show spec_ReachedFrom.l0 (k + 1) _ _ = _
      rw [spec_ReachedFrom.l0, if_neg (by omega)]
    | cons q rest =>
      have hqg := hg q (by simp)
      obtain ⟨n1, hn1⟩ := addS_pre (stepL 1 q) (pre ++ q :: rest)
      obtain ⟨n2, hn2⟩ := addS_pre (stepL 3 q) (addS (pre ++ q :: rest) (stepL 1 q))
      have e : addQ (pre ++ q :: rest) q = (pre ++ [q]) ++ (rest ++ (n1 ++ n2)) := by
        unfold addQ
        rw [hn2, hn1]
        simp
      have hmem : ∀ x, x ∈ (pre ++ [q]) ++ (rest ++ (n1 ++ n2)) ↔ x ∈ pre ++ q :: rest ∨ (x ∈ cutsL q ∨ x ∈ cutsL (flip2 q)) := fun x => by rw [← e]; exact addQ_mem _ _ _
      obtain ⟨l, h6, h7⟩ := ih (pre ++ [q]) (rest ++ (n1 ++ n2)) (by rw [← e]; exact addS_nodup _ _ (addS_nodup _ _ hn)) ((hmem p).mpr (.inl h0)) (fun x hx => by
        rcases (hmem x).mp hx with hx | hx
        · exact hr x hx
        · exact rch_step (hr q (by simp)) hx) (fun x hx y hy => by
        rcases List.mem_append.mp hx with hx | hx
        · exact (hmem y).mpr (.inl (hc x hx y hy))
        · rw [List.mem_singleton.mp hx] at hy
          exact (hmem y).mpr (.inr hy)) (by simp; omega)
      rw [← e] at h6
      refine ⟨l, one_ev q pre rest _ (by omega) (fun x hx => by rw [(hg x hx).1]; exact h4) (by rw [hqg.1]; exact h2) ?_, h7⟩
      rw [List.length_append, List.length_singleton] at h6
      exact h6
theorem reachedS_ev (p : List Int) (hp : packetB p = true) (hn : p.length = 2 ∨ p.length = 4) : ∃ l : List (List Int), Ev (fun k => spec_ReachedFrom.f k p) (sortP l, true) ∧ ∀ x, x ∈ l ↔ Rch p x := by
  obtain ⟨l, h1, h2⟩ := reachS_loop p hp (by omega) (by omega) 385 [] [p] (by simp) (by simp) (fun x hx => by rw [List.mem_singleton.mp hx]; exact rch_refl p) (fun x hx => by simp at hx) (by omega)
  refine ⟨l, ?_, h2⟩
  have hlen := packetB_len hp
  unfold spec_ReachedFrom.f
  refine Ev.bind (spec_PacketOk_ev p) ?_
  simp only [hp, if_true]
  have hj : Ev (fun k => spec_ReachedFrom.j0 k p false) (sortP l, true) := by
    refine Ev.step (fun k => ?_) h1
    show spec_ReachedFrom.j0 (k + 1) p false = _
    rw [spec_ReachedFrom.j0, if_neg (by decide), Option.bind_some, if_pos (by simp; omega)]
    rfl
  rcases hn with hn | hn
  · simp only [if_pos (show (p.length : Int) = 2 by omega)]
    exact hj
  · simp only [if_neg (show ¬ (p.length : Int) = 2 by omega), show ((p.length : Int) != 4) = false from by rw [hn]; rfl]
    exact hj
theorem reachedS_no (p : List Int) (h : ¬ (packetB p = true ∧ (p.length = 2 ∨ p.length = 4))) : Ev (fun k => spec_ReachedFrom.f k p) ([], false) := by
  have hj : Ev (fun k => spec_ReachedFrom.j0 k p true) ([], false) := Ev.step (f := fun _ => some ([], false)) (fun k => by rw [spec_ReachedFrom.j0, if_pos rfl]) (Ev.now _)
  unfold spec_ReachedFrom.f
  refine Ev.bind (spec_PacketOk_ev p) ?_
  by_cases hp : packetB p = true
  · have h2 : ¬ p.length = 2 := fun e => h ⟨hp, .inl e⟩
    have h4 : ¬ p.length = 4 := fun e => h ⟨hp, .inr e⟩
    simp only [hp, if_true, if_neg (show ¬ (p.length : Int) = 2 by omega), show ((p.length : Int) != 4) = true from bne_iff_ne.mpr (by omega)]
    exact hj
  · simp only [if_neg hp]
    exact hj
/-- Both functions answer the same. -/
theorem reach_both (p : List Int) (hb : p.length ≤ 1048576) (hw : ∀ x ∈ p, -9223372036854775808 ≤ x) : ∃ (L : List (List Int)) (b : Bool), Ev (fun k => spec_ReachedFrom.f k p) (L, b) ∧ Ev (fun k => impl_ReachedFrom.f k p) (L, b) ∧ L.length ≤ 384 ∧ (∀ x ∈ L, x.length ≤ 4) ∧ (b = false → L = []) := by
  by_cases c : packetB p = true ∧ (p.length = 2 ∨ p.length = 4)
  · obtain ⟨L, h1, h2, h3⟩ := reached_ev p c.1 c.2
    obtain ⟨l, h4, h5⟩ := reachedS_ev p c.1 c.2
    have e : L = sortP l := sortP_unique h2 (fun x => by rw [h3, h5])
    rw [← e] at h4
    have hg : ∀ x ∈ L, Gd p x := fun x hx => rch_good c.1 ((h3 x).mp hx)
    refine ⟨L, true, h4, h1, good_count c.1 (by rcases c.2 with e | e <;> omega) L (strict_nodup h2) hg, fun x hx => ?_, fun e => by cases e⟩
    have := (hg x hx).1
    rcases c.2 with e | e <;> omega
  · exact ⟨[], false, reachedS_no p c, reached_no p hb hw c, by simp, fun x hx => by simp at hx, fun _ => rfl⟩
end Go.Proofs.Ytobncomimkmoeaa.F
end
