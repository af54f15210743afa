import Derived.Test.YtclmicogljidkaaF0
import Derived.Test.YtclmicogljidkaaZFnExactDepthOfForce3
import Derived.Test.YtclmicogljidkaaZFnExactDepthOfForce6
import Derived.Test.YtclmicogljidkaaM
import Derived.Test.YtclmicogljidkaaZFnExactDepthOfForce4
/- Laid by a program of this claim's own. What the Go function does, as a Lean function, and the proof that the Go code does just that; Lean checks it. -/
namespace Go.Proofs.Ytclmicogljidkaa.F
open Go.RowKit Go.Proofs.YtclmicogljidkaaW.PrintWords Go.Proofs.YtclmicogljidkaaW.PrintLast Go.Proofs.YtclmicogljidkaaW.PrintMore
attribute [local go_sem] max2_int min2_int max_two min_two max_three min_three max_four min_four   -- for this text's walks alone
set_option linter.unusedVariables false
set_option linter.unusedSimpArgs false

/-! ### impl_CardOf: function 102 -/
def impl_CardOf.f (a0 : Int) : Option (Int) := if a0 < 0 then (if (wrap64 ((-1) - a0)) ≥ 12 then (some (-1)) else (some (wrap64 ((-1) - a0)))) else (if a0 ≥ 12 then (some (-1)) else (some a0))
set_option maxHeartbeats 8000000 in
set_option maxRecDepth 100000 in
theorem impl_CardOf.calls (a0 : Int) (r : Int) (w : World) (h : impl_CardOf.f a0 = some r) :
    Calls Try.prog 102 #[.int .i64 a0] w fun e w' => e = .returned (.int .i64 r) ∧ Drawn0 w w' := by
  have H : (if a0 < 0 then (if (wrap64 ((-1) - a0)) ≥ 12 then (some (-1)) else (some (wrap64 ((-1) - a0)))) else (if a0 ≥ 12 then (some (-1)) else (some a0))) = some r := h
  clear h
  by_cases c2 : a0 < 0
  · rw [if_pos c2] at H
    have c2b0 : decide (a0 < 0) = true := decide_eq_true c2
    clear c2
    by_cases c3 : (wrap64 ((-1) - a0)) ≥ 12
    · rw [if_pos c3] at H
      have c3b0 : decide (12 ≤ (wrap64 ((-1) - a0))) = true := decide_eq_true c3
      clear c3
      obtain rfl := Option.some.inj H
      go_enter Try.func102, Try.ntmps102
      go_wp2
      go_ret
      exact ⟨by first | rfl | (simp; done) | (simp [*]; done), by repeat (first | exact Drawn0.refl _ | apply Drawn0.step)⟩
    · rw [if_neg c3] at H
      have c3b0 : decide (12 ≤ (wrap64 ((-1) - a0))) = false := decide_eq_false c3
      clear c3
      obtain rfl := Option.some.inj H
      go_enter Try.func102, Try.ntmps102
      go_wp2
      go_ret
      exact ⟨by first | rfl | (simp; done) | (simp [*]; done), by repeat (first | exact Drawn0.refl _ | apply Drawn0.step)⟩
  · rw [if_neg c2] at H
    have c2b0 : decide (a0 < 0) = false := decide_eq_false c2
    clear c2
    by_cases c4 : a0 ≥ 12
    · rw [if_pos c4] at H
      have c4b0 : decide (12 ≤ a0) = true := decide_eq_true c4
      clear c4
      obtain rfl := Option.some.inj H
      go_enter Try.func102, Try.ntmps102
      go_wp2
      go_ret
      exact ⟨by first | rfl | (simp; done) | (simp [*]; done), by repeat (first | exact Drawn0.refl _ | apply Drawn0.step)⟩
    · rw [if_neg c4] at H
      have c4b0 : decide (12 ≤ a0) = false := decide_eq_false c4
      clear c4
      obtain rfl := Option.some.inj H
      go_enter Try.func102, Try.ntmps102
      go_wp2
      go_ret
      exact ⟨by first | rfl | (simp; done) | (simp [*]; done), by repeat (first | exact Drawn0.refl _ | apply Drawn0.step)⟩

end Go.Proofs.Ytclmicogljidkaa.F
/- Laid by a program of this claim's own. What the Go function does, as a Lean function, and the proof that the Go code does just that; Lean checks it. -/
namespace Go.Proofs.Ytclmicogljidkaa.F
open Go.RowKit Go.Proofs.YtclmicogljidkaaW.PrintWords Go.Proofs.YtclmicogljidkaaW.PrintLast Go.Proofs.YtclmicogljidkaaW.PrintMore
attribute [local go_sem] max2_int min2_int max_two min_two max_three min_three max_four min_four   -- for this text's walks alone
set_option linter.unusedVariables false
set_option linter.unusedSimpArgs false

/-! ### impl_PacketOk: function 74 -/
def impl_PacketOk.l0 : Nat → List Int → List Bool → Int → Option (Bool)
  | 0, _, _, _ => none
  | k + 1, l, met, x => if x < (l.length : Int) then (if 0 ≤ x then ((impl_CardOf.f (rd l x)).bind fun c => (if c < 0 then (some false) else (if c < 12 then (if met.getD c.toNat false = true then (some false) else (impl_PacketOk.l0 k l (met.set c.toNat true) (wrap64 (x + 1)))) else (none)))) else (none)) else (some true)
def impl_PacketOk.f (k : Nat) (l0 : List Int) : Option (Bool) := impl_PacketOk.l0 k l0 (List.replicate 12 false) 0
theorem impl_PacketOk.mono_l : ∀ k y0 y1 y2, LeO (impl_PacketOk.l0 k y0 y1 y2) (impl_PacketOk.l0 (k + 1) y0 y1 y2)
  | 0, _, _, _ => fun r h => by simp [impl_PacketOk.l0] at h
  | k + 1, y0, y1, y2 => by
    have ih0 := impl_PacketOk.mono_l k
    unfold impl_PacketOk.l0
    repeat' first
      | (with_reducible exact ih0 _ _ _)
      | (with_reducible exact LeO.refl _)
      | (with_reducible exact LeO.none _)
      | (with_reducible refine LeO.ite ?_ ?_)
      | (with_reducible refine LeO.bind ?_ (fun _ => ?_))
      | exact ih0 _ _ _
      | refine LeO.ite ?_ ?_
theorem impl_PacketOk.mono : ∀ a0 k, LeO (impl_PacketOk.f k a0) (impl_PacketOk.f (k + 1) a0) := fun a0 k => impl_PacketOk.mono_l k _ _ _
set_option maxHeartbeats 8000000 in
set_option maxRecDepth 100000 in
theorem impl_PacketOk.calls (k : Nat) (A0 : Option Addr) (c0 : Nat) (l0 : List Int) (r : Bool) (w : World) (hr0 : Kd.C (Kd.int .i64) w A0 l0.length l0) (hc0 : l0.length ≤ c0) (h : impl_PacketOk.f k l0 = some r) :
    Calls Try.prog 74 #[.slice A0 l0.length c0] w fun e w' => e = .returned (.bool r) ∧ Below w.heap.size w w' := by
  have HR0 := Aside0.mk hr0
  have HC0 := Aside0.mk hc0
  clear hr0 hc0
  have H' := Aside0.mk h
  clear h
  go_enter Try.func74, Try.ntmps74
  go_wp2
  go_loopg [9] k (fun kq v9 w' => ∃ (x9 : Int) (met : List Bool), v9 = .int .i64 x9 ∧ Aside0 (impl_PacketOk.l0 kq l0 met x9 = some r) ∧ Aside0 (kq ≤ k) ∧ Aside0 (met.length = 12) ∧ Aside0 (Whole w' w.heap.size 84 (boolRow met)) ∧ Aside0 (Below w.heap.size w w'))
  case atStart => exact ⟨0, List.replicate 12 false, rfl, H', ⟨Nat.le_refl _⟩, ⟨rfl⟩, ⟨Whole.new w 84 _⟩, ⟨(Below.refl _ _).alloc (Nat.le_refl _) _⟩⟩
  case round =>
    clear H'
    obtain ⟨x9, met, rfl, HA, HK1, HL, HW, HB⟩ := hrel
    cases gk with
    | zero => exact absurd HA.out (by simp [impl_PacketOk.l0])
    | succ k1 =>
      have H := HA.out
      clear HA
      simp only [impl_PacketOk.l0] at H
      by_cases c4 : x9 < (l0.length : Int)
      · rw [if_pos c4] at H
        have c4b0 : decide (x9 < (l0.length : Int)) = true := decide_eq_true c4
        by_cases c5 : 0 ≤ x9
        · rw [if_pos c5] at H
          have c5b0 : decide (0 ≤ x9) = true := decide_eq_true c5
          obtain ⟨ad, ead, hx0⟩ := Kd.at_int (Kd.C_below HR0.out HB.out) x9 c5 c4
          cases ead
          replace c4 := eq_true c4
          replace c5 := eq_true c5
          replace H := Option.bind_eq_some_iff.mp H
          obtain ⟨c, A7, H⟩ := H
          have A8 := Aside0.mk A7
          clear A7
          by_cases c6 : c < 0
          · rw [if_pos c6] at H
            have c6b0 : decide (c < 0) = true := decide_eq_true c6
            clear c6
            obtain rfl := Option.some.inj H
            go_wp2_with (go_at_call 102; (with_reducible refine (impl_CardOf.calls (rd l0 x9) c _ A8.out).mono ?_); rintro e w' ⟨rfl, ⟨nd, rfl⟩⟩)
            go_ret
            exact ⟨rfl, by repeat (first | (with_reducible first | exact HB.out | apply below_alloc | apply pw_below_drewN | apply below_drew1) | exact HB.out)⟩
          · rw [if_neg c6] at H
            have c6b0 : decide (c < 0) = false := decide_eq_false c6
            have c6b1 : decide (0 ≤ c) = true := decide_eq_true (by omega)
            by_cases c7 : c < 12
            · rw [if_pos c7] at H
              have c7b0 : decide (c < 12) = true := decide_eq_true c7
              have hcl : c.toNat < met.length := by have := HL.out; omega
              have hcell := HW.out.cell c.toNat
              rw [boolRow_at met c.toNat hcl] at hcell
              have hfr := HW.out.free c.toNat
              have p7 := eq_true (show 0 ≤ c by omega)
              have q7 := eq_true c7
              clear c6 c7
              by_cases c8 : met.getD c.toNat false = true
              · rw [if_pos c8] at H
                rw [c8] at hcell
                obtain rfl := Option.some.inj H
                go_wp2_with (go_at_call 102; (with_reducible refine (impl_CardOf.calls (rd l0 x9) c _ A8.out).mono ?_); rintro e w' ⟨rfl, ⟨nd, rfl⟩⟩)
                go_ret
                exact ⟨rfl, by repeat (first | (with_reducible first | exact HB.out | apply below_alloc | apply pw_below_drewN | apply below_drew1) | exact HB.out)⟩
              · rw [if_neg c8] at H
                replace c8 := Bool.eq_false_iff.mpr c8
                rw [c8] at hcell
                have H' := Aside0.mk H
                clear H
                go_wp2_with (go_at_call 102; (with_reducible refine (impl_CardOf.calls (rd l0 x9) c _ A8.out).mono ?_); rintro e w' ⟨rfl, ⟨nd, rfl⟩⟩)
                go_roundg k1
                case measure => have := HK1.out; omega
                case rel => exact ⟨wrap64 (x9 + 1), met.set c.toNat true, rfl, H', ⟨by have := HK1.out; omega⟩, ⟨by rw [List.length_set]; exact HL.out⟩, ⟨by first | (rw [← boolRow_set]; exact (HW.out.put c.toNat (.bool true)).drewN _) | (rw [← boolRow_set]; exact (HW.out.drewN _).put c.toNat (.bool true))⟩, ⟨by first | exact (pw_below_drewN HB.out _).setCell (Nat.le_refl _) _ | exact pw_below_drewN (HB.out.setCell (Nat.le_refl _) _) _⟩⟩
            · rw [if_neg c7] at H
              exact absurd H (by simp)
        · rw [if_neg c5] at H
          exact absurd H (by simp)
      · rw [if_neg c4] at H
        have c4b0 : decide (x9 < (l0.length : Int)) = false := decide_eq_false c4
        clear c4
        obtain rfl := Option.some.inj H
        go_wp2
        go_ret
        exact ⟨rfl, by repeat (first | (with_reducible first | exact HB.out | apply below_alloc | apply pw_below_drewN | apply below_drew1) | exact HB.out)⟩

end Go.Proofs.Ytclmicogljidkaa.F
/- Cards, and when a list is a packet: the program's and the reference's functions tell one thing. -/
namespace Go.Proofs.Ytclmicogljidkaa.F
open Go.RowKit Go.Proofs.YtclmicogljidkaaW.PrintWords Go.Proofs.YtclmicogljidkaaW.PrintLast Go.Proofs.YtclmicogljidkaaW.PrintMore
set_option linter.unusedVariables false
set_option linter.unusedSimpArgs false
theorem wf64 {x : Int} (h : (Lit.int .i64 x).wf = true) : -9223372036854775808 ≤ x ∧ x ≤ 9223372036854775807 := by
  have := h
  simp only [Lit.wf, Bool.and_eq_true, decide_eq_true_eq] at this
  have a : IntKind.i64.min = -9223372036854775808 := by kernel_rfl
  have b : IntKind.i64.max = 9223372036854775807 := by kernel_rfl
  omega
theorem l01In_eq (a b c : Int) : spec_l01In.f a b c = some (decide (b ≤ a ∧ a ≤ c)) := by
  unfold spec_l01In.f
  by_cases h : b ≤ a
  · simp [h]
  · simp [h]
def cardOf (x : Int) : Int := if 0 ≤ x ∧ x ≤ 11 then x else if -12 ≤ x ∧ x ≤ -1 then -1 - x else -1
theorem cardOf_lt (x : Int) : cardOf x < 12 := by
  unfold cardOf
  repeat' split
  all_goals omega
theorem cardOf_ge (x : Int) : -1 ≤ cardOf x := by
  unfold cardOf
  repeat' split
  all_goals omega
theorem spec_CardOf_eq (x : Int) : spec_CardOf.f x = some (cardOf x) := by
  unfold spec_CardOf.f cardOf
  rw [l01In_eq, l01In_eq]
  by_cases h : 0 ≤ x ∧ x ≤ 11
  · simp [h]
  · by_cases k : -12 ≤ x ∧ x ≤ -1
    · have e : wrap64 (-1 - x) = -1 - x := w64_id (by omega) (by omega)
      simp [h, k, e]
    · simp [h, k]
theorem impl_CardOf_eq (x : Int) (h0 : -9223372036854775808 ≤ x) : impl_CardOf.f x = some (cardOf x) := by
  unfold impl_CardOf.f cardOf
  by_cases h : x < 0
  · have e : wrap64 (-1 - x) = -1 - x := w64_id (by omega) (by omega)
    simp only [if_pos h, e]
    by_cases k : -1 - x ≥ 12
    · rw [if_pos k, if_neg (by omega), if_neg (by omega)]
    · rw [if_neg k, if_neg (by omega), if_pos (by omega)]
  · simp only [if_neg h]
    by_cases k : x ≥ 12
    · rw [if_pos k, if_neg (by omega), if_neg (by omega)]
    · rw [if_neg k, if_pos (by omega)]
theorem l02Has_at (x : Int) (rest : List Int) : ∀ (pre : List Int), (pre ++ rest).length ≤ 4611686018427387904 →
    Ev (fun k => spec_l02Has.l0 k x (pre ++ rest) ((pre ++ rest).length : Int) (pre.length : Int)) (rest.contains x) := by
  induction rest with
  | nil =>
    intro pre hb
    exact Ev.step (f := fun _ => some false) (fun k => by rw [spec_l02Has.l0, if_neg (mid_nlt _)]) (Ev.now _)
  | cons y rest ih =>
    intro pre hb
    by_cases e : y = x
    · subst e
      simp only [List.contains_cons, beq_self_eq_true, Bool.true_or]
      exact Ev.step (f := fun _ => some true) (fun k => by rw [spec_l02Has.l0, if_pos (mid_lt _ _ _), if_pos (nn _), if_pos (mid_lt _ _ _), mid_rd, if_pos rfl]) (Ev.now _)
    · have h := ih (pre ++ [y]) (by simpa using hb)
      rw [← mid_cons] at h
      rw [show (y :: rest).contains x = rest.contains x by simp only [List.contains_cons]; rw [show (x == y) = false by simpa using fun h => e h.symm]; rfl]
      exact Ev.step (fun k => by rw [spec_l02Has.l0, if_pos (mid_lt _ _ _), if_pos (nn _), if_pos (mid_lt _ _ _), mid_rd, if_neg e, mid_succ pre y (by simp at hb; omega)]) h
theorem l02Has_ev (l : List Int) (x : Int) (hb : l.length ≤ 4611686018427387904) : Ev (fun k => spec_l02Has.f k l x) (l.contains x) := l02Has_at x l [] hb
/-- Is a list a packet: the cards met so far are told by twelve bools. -/
def packetM : List Bool → List Int → Bool
  | _, [] => true
  | met, x :: xs => if cardOf x < 0 then false else if met.getD (cardOf x).toNat false = true then false else packetM (met.set (cardOf x).toNat true) xs
def packetB (l : List Int) : Bool := packetM (List.replicate 12 false) l
theorem impl_PacketOk_at (rest : List Int) : ∀ (pre : List Int) (met : List Bool), (pre ++ rest).length ≤ 4611686018427387904 → (∀ x ∈ rest, -9223372036854775808 ≤ x) →
    Ev (fun k => impl_PacketOk.l0 k (pre ++ rest) met (pre.length : Int)) (packetM met rest) := by
  induction rest with
  | nil =>
    intro pre met hb hw
    exact Ev.step (f := fun _ => some true) (fun k => by rw [impl_PacketOk.l0, if_neg (mid_nlt _)]) (Ev.now _)
  | cons x rest ih =>
    intro pre met hb hw
    have hx := hw x (by simp)
    unfold packetM
    by_cases c : cardOf x < 0
    · rw [if_pos c]
      exact Ev.step (f := fun _ => some false) (fun k => by rw [impl_PacketOk.l0, if_pos (mid_lt _ _ _), if_pos (nn _), mid_rd, impl_CardOf_eq x hx]; simp only [Option.bind_some]; rw [if_pos c]) (Ev.now _)
    · rw [if_neg c]
      by_cases m : met.getD (cardOf x).toNat false = true
      · rw [if_pos m]
        exact Ev.step (f := fun _ => some false) (fun k => by rw [impl_PacketOk.l0, if_pos (mid_lt _ _ _), if_pos (nn _), mid_rd, impl_CardOf_eq x hx]; simp only [Option.bind_some]; rw [if_neg c, if_pos (cardOf_lt x), if_pos m]) (Ev.now _)
      · rw [if_neg m]
        have h := ih (pre ++ [x]) (met.set (cardOf x).toNat true) (by simpa using hb) (fun y hy => hw y (by simp [hy]))
        rw [← mid_cons] at h
        exact Ev.step (fun k => by rw [impl_PacketOk.l0, if_pos (mid_lt _ _ _), if_pos (nn _), mid_rd, impl_CardOf_eq x hx]; simp only [Option.bind_some]; rw [if_neg c, if_pos (cardOf_lt x), if_neg m, mid_succ pre x (by simp at hb; omega)]) h
theorem impl_PacketOk_ev (l : List Int) (hb : l.length ≤ 4611686018427387904) (hw : ∀ x ∈ l, -9223372036854775808 ≤ x) : Ev (fun k => impl_PacketOk.f k l) (packetB l) := impl_PacketOk_at l [] _ hb hw
theorem count_set (l : List Bool) : ∀ i, i < l.length → l.getD i false ≠ true → (l.set i true).count true = l.count true + 1 := by
  induction l with
  | nil => intro i h; simp at h
  | cons b l ih =>
    intro i h hb
    cases i with
    | zero =>
      cases b with
      | true => simp at hb
      | false => simp
    | succ i =>
      have := ih i (by simpa using h) (by simpa using hb)
      simp only [List.set_cons_succ, List.count_cons]
      omega
theorem packetM_len (xs : List Int) : ∀ met : List Bool, met.length = 12 → packetM met xs = true → met.count true + xs.length ≤ 12 := by
  induction xs with
  | nil =>
    intro met hl _
    have := List.count_le_length (a := true) (l := met)
    simp; omega
  | cons x xs ih =>
    intro met hl h
    unfold packetM at h
    by_cases c : cardOf x < 0
    · rw [if_pos c] at h; cases h
    · rw [if_neg c] at h
      by_cases m : met.getD (cardOf x).toNat false = true
      · rw [if_pos m] at h; cases h
      · rw [if_neg m] at h
        have h1 := ih _ (by simpa using hl) h
        have := cardOf_lt x
        rw [count_set met _ (by omega) m] at h1
        simp; omega
theorem packetB_len {l : List Int} (h : packetB l = true) : l.length ≤ 12 := by
  have := packetM_len l _ (by simp) h
  simp at this
  omega
theorem set_getD (met : List Bool) (i j : Nat) (hi : i < met.length) : (met.set i true).getD j false = (decide (j = i) || met.getD j false) := by
  by_cases e : j = i
  · subst e
    simp [List.getD_eq_getElem?_getD, hi]
  · have e' : ¬ i = j := fun h => e h.symm
    simp [List.getD_eq_getElem?_getD, List.getElem?_set, e, e']
theorem spec_PacketOk_at (rest : List Int) : ∀ (pre seen : List Int) (met : List Bool), (pre ++ rest).length ≤ 12 → seen.length = pre.length → met.length = 12 → (∀ c : Int, 0 ≤ c → c < 12 → seen.contains c = met.getD c.toNat false) →
    Ev (fun k => spec_PacketOk.l0 k seen (pre ++ rest) ((pre ++ rest).length : Int) (pre.length : Int)) (packetM met rest) := by
  induction rest with
  | nil =>
    intro pre seen met hb hs hm hr
    exact Ev.step (f := fun _ => some true) (fun k => by rw [spec_PacketOk.l0, if_neg (mid_nlt _)]) (Ev.now _)
  | cons x rest ih =>
    intro pre seen met hb hs hm hr
    have hlt := cardOf_lt x
    unfold packetM
    by_cases c : cardOf x < 0
    · rw [if_pos c]
      exact Ev.step (f := fun _ => some false) (fun k => by rw [spec_PacketOk.l0, if_pos (mid_lt _ _ _), if_pos (nn _), if_pos (mid_lt _ _ _), mid_rd, spec_CardOf_eq x]; simp only [Option.bind_some]; rw [if_pos c]) (Ev.now _)
    · rw [if_neg c]
      have hh := l02Has_ev seen (cardOf x) (by simp at hb; omega)
      rw [hr _ (by omega) hlt] at hh
      by_cases m : met.getD (cardOf x).toNat false = true
      · rw [if_pos m]
        rw [m] at hh
        refine Ev.stepb hh (fun k => by rw [spec_PacketOk.l0, if_pos (mid_lt _ _ _), if_pos (nn _), if_pos (mid_lt _ _ _), mid_rd, spec_CardOf_eq x]; simp only [Option.bind_some]; rw [if_neg c]) ?_
        simp only [if_true]
        exact Ev.now _
      · rw [if_neg m]
        have m' : met.getD (cardOf x).toNat false = false := by simpa using m
        rw [m'] at hh
        have h := ih (pre ++ [x]) (seen ++ [cardOf x]) (met.set (cardOf x).toNat true) (by simpa using hb) (by simp [hs]) (by simpa using hm) (by
          intro d d0 d1
          rw [set_getD met _ _ (by omega), ← hr d d0 d1]
          rw [Bool.eq_iff_iff]
          simp only [List.contains_iff_mem, List.mem_append, List.mem_singleton, Bool.or_eq_true, decide_eq_true_eq]
          constructor
          · rintro (h | h)
            · exact .inr h
            · exact .inl (by omega)
          · rintro (h | h)
            · exact .inr (by omega)
            · exact .inl h)
        rw [← mid_cons] at h
        refine Ev.stepb hh (fun k => by rw [spec_PacketOk.l0, if_pos (mid_lt _ _ _), if_pos (nn _), if_pos (mid_lt _ _ _), mid_rd, spec_CardOf_eq x]; simp only [Option.bind_some]; rw [if_neg c]) ?_
        have hl : seen.length < 17592186044416 := by simp at hb; omega
        have hs2 := mid_succ pre x (by simp at hb; omega)
        simpa [hl, hs2] using h
theorem spec_PacketOk_ev (l : List Int) : Ev (fun k => spec_PacketOk.f k l) (packetB l) := by
  unfold spec_PacketOk.f
  by_cases h : (l.length : Int) > 12
  · have : packetB l = false := by
      cases e : packetB l with
      | false => rfl
      | true => have := packetB_len e; omega
    rw [this]
    simp only [if_pos h]
    exact Ev.now _
  · simp only [if_neg h]
    exact spec_PacketOk_at l [] [] _ (by simp; omega) rfl (by simp) (by
      intro c h0 h1
      have : c.toNat < 12 := by omega
      rw [List.getD_eq_getElem?_getD, List.getElem?_replicate, if_pos this]
      rfl)
theorem packetM_cards (xs : List Int) : ∀ met : List Bool, packetM met xs = true → ∀ x ∈ xs, 0 ≤ cardOf x := by
  induction xs with
  | nil => intro met _ x hx; cases hx
  | cons y xs ih =>
    intro met h x hx
    unfold packetM at h
    by_cases c : cardOf y < 0
    · rw [if_pos c] at h; cases h
    · rw [if_neg c] at h
      by_cases m : met.getD (cardOf y).toNat false = true
      · rw [if_pos m] at h; cases h
      · rw [if_neg m] at h
        rcases List.mem_cons.1 hx with rfl | hx
        · omega
        · exact ih _ h x hx
theorem packetB_card {l : List Int} (h : packetB l = true) : ∀ x ∈ l, 0 ≤ cardOf x := packetM_cards l _ h
end Go.Proofs.Ytclmicogljidkaa.F
/- When a list of nodes is a force: the program's and the reference's check. -/
namespace Go.Proofs.Ytclmicogljidkaa.F
open Go.RowKit Go.Proofs.YtclmicogljidkaaW.PrintWords Go.Proofs.YtclmicogljidkaaW.PrintLast Go.Proofs.YtclmicogljidkaaW.PrintMore
set_option linter.unusedVariables false
set_option linter.unusedSimpArgs false
def nextM (i n : Int) : List Int → List Int → Option (List Int)
  | [], c => some c
  | v :: vs, c => if i < v ∧ v < n then nextM i n vs (c.set v.toNat (wrap64 (rd c v + 1))) else none
def nodeB (x : IN) : Bool := decide (0 ≤ x.f2) && (decide (x.f1.length = 0) || decide (x.f2 = 0))
def forceM (n : Int) : Int → List IN → List Int → Option (List Int)
  | _, [], c => some c
  | i, x :: xs, c => if nodeB x = true then (nextM i n x.f1 c).bind (forceM n (i + 1) xs) else none
def finB (c : List Int) : Bool := (c.drop 1).all (· == 1)
def forceR (o : Option (List Int)) : Bool := match o with | none => false | some c => finB c
def forceB (l : List IN) : Bool := decide (1 ≤ (l.length : Int) ∧ (l.length : Int) ≤ 40) && forceR (forceM l.length 0 l (List.replicate l.length 0))
theorem nextM_len (i n : Int) (vs : List Int) : ∀ (c c' : List Int), nextM i n vs c = some c' → c'.length = c.length := by
  induction vs with
  | nil => intro c c' h; simp [nextM] at h; rw [h]
  | cons v vs ih =>
    intro c c' h
    unfold nextM at h
    by_cases q : i < v ∧ v < n
    · rw [if_pos q] at h
      rw [ih _ _ h, List.length_set]
    · rw [if_neg q] at h
      exact absurd h (by simp)
theorem impl_next_at (X : List IN) (i : Int) (hi : 0 ≤ i) (r : Bool) (rest : List Int) : ∀ (pre c : List Int), (pre ++ rest).length ≤ 4611686018427387904 → c.length = X.length →
    (match nextM i X.length rest c with | none => r = false | some c' => Ev (fun k => impl_ForceOk.l0 k X c' X (X.length : Int) (wrap64 (i + 1))) r) →
    Ev (fun k => impl_ForceOk.l1 k X c i X (X.length : Int) i (pre ++ rest) ((pre ++ rest).length : Int) (pre.length : Int)) r := by
  induction rest with
  | nil =>
    intro pre c hb hc h
    simp only [nextM] at h
    refine Ev.step (fun k => ?_) h
    show impl_ForceOk.l1 (k + 1) X c i X _ i _ _ _ = _
    rw [impl_ForceOk.l1, if_neg (mid_nlt _)]
  | cons v rest ih =>
    intro pre c hb hc h
    unfold nextM at h
    by_cases q : i < v ∧ v < (X.length : Int)
    · rw [if_pos q] at h
      have h2 := ih (pre ++ [v]) _ (by simpa using hb) (by rw [List.length_set]; exact hc) h
      rw [← mid_cons, ← mid_succ pre v (by simp at hb; omega)] at h2
      refine Ev.step (fun k => ?_) h2
      show impl_ForceOk.l1 (k + 1) X c i X _ i _ _ _ = _
      rw [impl_ForceOk.l1, if_pos (mid_lt _ _ _), if_pos (nn _), if_pos (mid_lt _ _ _), mid_rd, if_neg (by omega), if_neg (by omega), if_pos (by omega), if_pos (by omega)]
    · rw [if_neg q] at h
      subst h
      refine Ev.step (f := fun _ => some false) (fun k => ?_) (Ev.now _)
      show impl_ForceOk.l1 (k + 1) X c i X _ i _ _ _ = _
      rw [impl_ForceOk.l1, if_pos (mid_lt _ _ _), if_pos (nn _), if_pos (mid_lt _ _ _), mid_rd]
      by_cases q1 : v ≤ i
      · rw [if_pos q1]
      · rw [if_neg q1, if_pos (by omega)]
theorem spec_next_at (X : List IN) (i : Int) (hi : 0 ≤ i) (hi2 : i < (X.length : Int)) (hX : X.length ≤ 1048576) (x : IN) (r : Bool) (rest : List Int) : ∀ (pre c : List Int), (pre ++ rest).length ≤ 4611686018427387904 → c.length = X.length →
    (match nextM i X.length rest c with | none => r = false | some c' => if nodeB x = true then Ev (fun k => spec_ForceOk.l0 k X c' X (X.length : Int) (wrap64 (i + 1))) r else r = false) →
    Ev (fun k => spec_ForceOk.l1 k X c i X (X.length : Int) i (pre ++ rest) ((pre ++ rest).length : Int) (pre.length : Int) x.f0 x.f1 x.f2) r := by
  induction rest with
  | nil =>
    intro pre c hb hc h
    simp only [nextM] at h
    by_cases q : nodeB x = true
    · rw [if_pos q] at h
      refine Ev.step (fun k => ?_) h
      show spec_ForceOk.l1 (k + 1) X c i X _ i _ _ _ _ _ _ = _
      unfold nodeB at q
      simp only [Bool.and_eq_true, Bool.or_eq_true, decide_eq_true_eq] at q
      rw [spec_ForceOk.l1, if_neg (mid_nlt _), if_neg (by omega)]
      by_cases z : (x.f1.length : Int) > 0
      · rw [if_pos z, if_pos (by omega)]
      · rw [if_neg z]
    · rw [if_neg q] at h
      subst h
      refine Ev.step (f := fun _ => some false) (fun k => ?_) (Ev.now _)
      show spec_ForceOk.l1 (k + 1) X c i X _ i _ _ _ _ _ _ = _
      unfold nodeB at q
      simp only [Bool.and_eq_true, Bool.or_eq_true, decide_eq_true_eq] at q
      rw [spec_ForceOk.l1, if_neg (mid_nlt _)]
      by_cases z : x.f2 < 0
      · rw [if_pos z]
      · rw [if_neg z, if_pos (by omega), if_neg (by omega)]
  | cons v rest ih =>
    intro pre c hb hc h
    unfold nextM at h
    have hw1 : wrap64 (i + 1) = i + 1 := w64_id (by omega) (by omega)
    have hw2 : wrap64 ((X.length : Int) - 1) = (X.length : Int) - 1 := w64_id (by omega) (by omega)
    by_cases q : i < v ∧ v < (X.length : Int)
    · rw [if_pos q] at h
      have h2 := ih (pre ++ [v]) _ (by simpa using hb) (by rw [List.length_set]; exact hc) h
      rw [← mid_cons, ← mid_succ pre v (by simp at hb; omega)] at h2
      refine Ev.step (fun k => ?_) h2
      show spec_ForceOk.l1 (k + 1) X c i X _ i _ _ _ _ _ _ = _
      rw [spec_ForceOk.l1, if_pos (mid_lt _ _ _), if_pos (nn _), if_pos (mid_lt _ _ _), mid_rd, l01In_eq, hw1, hw2, Option.bind_some, decide_eq_true (by omega), if_pos rfl, if_pos (by omega), if_pos (by omega)]
    · rw [if_neg q] at h
      subst h
      refine Ev.step (f := fun _ => some false) (fun k => ?_) (Ev.now _)
      show spec_ForceOk.l1 (k + 1) X c i X _ i _ _ _ _ _ _ = _
      rw [spec_ForceOk.l1, if_pos (mid_lt _ _ _), if_pos (nn _), if_pos (mid_lt _ _ _), mid_rd, l01In_eq, hw1, hw2, Option.bind_some, decide_eq_false (by omega), if_neg (by simp)]
theorem impl_force_at (rest : List IN) : ∀ (pre : List IN) (c : List Int), (pre ++ rest).length ≤ 1048576 → 1 ≤ (pre ++ rest).length → c.length = (pre ++ rest).length → (∀ x ∈ rest, x.f1.length ≤ 4611686018427387904) →
    Ev (fun k => impl_ForceOk.l0 k (pre ++ rest) c (pre ++ rest) ((pre ++ rest).length : Int) (pre.length : Int)) (forceR (forceM ((pre ++ rest).length : Int) (pre.length : Int) rest c)) := by
  induction rest with
  | nil =>
    intro pre c hb h1 hc hx
    refine Ev.step (f := fun _ => some (finB c)) (fun k => ?_) (Ev.now _)
    show impl_ForceOk.l0 (k + 1) _ c _ _ _ = _
    rw [impl_ForceOk.l0, if_neg (mid_nlt _), if_pos (by omega)]
    unfold slices_ContainsFunc_Lint_int__impl_ForceOk_1.f
    rw [Option.bind_some]
    congr 1
    unfold finB
    rw [List.all_eq_not_any_not]
    congr 2
    funext x
    unfold impl_ForceOk_1.f
    cases hx : x == 1 <;> simp_all
  | cons x rest ih =>
    intro pre c hb h1 hc hx
    have hxl := hx x (by simp)
    have key : Ev (fun k => impl_ForceOk.j2 k (pre ++ x :: rest) c (pre.length : Int) (pre ++ x :: rest) ((pre ++ x :: rest).length : Int) (pre.length : Int) (!nodeB x) x.f0 x.f1 x.f2) (forceR (forceM ((pre ++ x :: rest).length : Int) (pre.length : Int) (x :: rest) c)) := by
      by_cases q : nodeB x = true
      · simp only [forceM, if_pos q]
        rw [q]
        have hn := impl_next_at (pre ++ x :: rest) (pre.length : Int) (nn _) (forceR ((nextM (pre.length : Int) ((pre ++ x :: rest).length : Int) x.f1 c).bind (forceM ((pre ++ x :: rest).length : Int) ((pre.length : Int) + 1) rest))) x.f1 [] c (by simpa using hxl) hc (by
          cases hm : nextM (pre.length : Int) ((pre ++ x :: rest).length : Int) x.f1 c with
          | none => rfl
          | some c' =>
            have h := ih (pre ++ [x]) c' (by simpa using hb) (by simp; omega) (by rw [nextM_len _ _ _ _ _ hm, hc]; simp) (fun y hy => hx y (by simp [hy]))
            rw [← mid_cons] at h
            have e1 : ((pre ++ [x]).length : Int) = wrap64 ((pre.length : Int) + 1) := (mid_succ pre x (by simp at hb; omega)).symm
            have e2 : ((pre ++ [x]).length : Int) = (pre.length : Int) + 1 := by simp
            simp only [Option.bind_some]
            rw [e2] at h
            rw [show wrap64 ((pre.length : Int) + 1) = (pre.length : Int) + 1 by rw [← e1, e2]]
            exact h)
        refine Ev.step (fun k => ?_) hn
        show impl_ForceOk.j2 (k + 1) _ c _ _ _ _ (!true) _ _ _ = _
        rw [impl_ForceOk.j2, if_neg (by simp)]
        rfl
      · simp only [forceM, if_neg q]
        have q' : nodeB x = false := by simpa using q
        rw [q']
        refine Ev.step (f := fun _ => some false) (fun k => ?_) (Ev.now _)
        show impl_ForceOk.j2 (k + 1) _ c _ _ _ _ (!false) _ _ _ = _
        rw [impl_ForceOk.j2, if_pos (by simp)]
    refine Ev.step (fun k => ?_) key
    show impl_ForceOk.l0 (k + 1) _ c _ _ _ = _
    rw [impl_ForceOk.l0, if_pos (mid_lt _ _ _), if_pos (nn _), if_pos (mid_lt _ _ _), mid_rdIN]
    unfold nodeB
    by_cases z : x.f2 < 0
    · rw [if_pos z, decide_eq_false (show ¬ 0 ≤ x.f2 by omega)]
      rfl
    · rw [if_neg z, decide_eq_true (show 0 ≤ x.f2 by omega)]
      by_cases y : (x.f1.length : Int) > 0
      · rw [if_pos y, decide_eq_false (show ¬ x.f1.length = 0 by omega)]
        congr 1
        try (cases hz : decide (x.f2 = 0) <;> simp_all)
      · rw [if_neg y, decide_eq_true (show x.f1.length = 0 by omega)]
        try rfl
theorem spec_fin_at (rest : List Int) : ∀ (pre : List Int), pre ≠ [] → (pre ++ rest).length ≤ 1048576 →
    Ev (fun k => spec_ForceOk.l2 k (pre ++ rest) ((pre ++ rest).length : Int) (pre.length : Int)) (rest.all (· == 1)) := by
  induction rest with
  | nil =>
    intro pre hp hb
    refine Ev.step (f := fun _ => some true) (fun k => ?_) (Ev.now _)
    show spec_ForceOk.l2 (k + 1) _ _ _ = _
    rw [spec_ForceOk.l2, if_neg (mid_nlt _)]
  | cons x rest ih =>
    intro pre hp hb
    have hpos : (pre.length : Int) > 0 := by have := List.length_pos_iff.mpr hp; omega
    by_cases c : x = 1
    · have h := ih (pre ++ [x]) (by simp) (by simpa using hb)
      rw [← mid_cons, ← mid_succ pre x (by simp at hb; omega)] at h
      rw [show (x :: rest).all (· == 1) = rest.all (· == 1) by simp [c]]
      refine Ev.step (fun k => ?_) h
      show spec_ForceOk.l2 (k + 1) _ _ _ = _
      rw [spec_ForceOk.l2, if_pos (mid_lt _ _ _), if_pos (nn _), if_pos (mid_lt _ _ _), if_pos hpos, mid_rd, if_pos c]
    · rw [show (x :: rest).all (· == 1) = false by simp [c]]
      refine Ev.step (f := fun _ => some false) (fun k => ?_) (Ev.now _)
      show spec_ForceOk.l2 (k + 1) _ _ _ = _
      rw [spec_ForceOk.l2, if_pos (mid_lt _ _ _), if_pos (nn _), if_pos (mid_lt _ _ _), if_pos hpos, mid_rd, if_neg c]
theorem spec_force_at (rest : List IN) : ∀ (pre : List IN) (c : List Int), (pre ++ rest).length ≤ 1048576 → 1 ≤ (pre ++ rest).length → c.length = (pre ++ rest).length → (∀ x ∈ rest, x.f1.length ≤ 4611686018427387904) →
    Ev (fun k => spec_ForceOk.l0 k (pre ++ rest) c (pre ++ rest) ((pre ++ rest).length : Int) (pre.length : Int)) (forceR (forceM ((pre ++ rest).length : Int) (pre.length : Int) rest c)) := by
  induction rest with
  | nil =>
    intro pre c hb h1 hc hx
    have e : forceR (forceM ((pre ++ []).length : Int) (pre.length : Int) [] c) = finB c := rfl
    rw [e]
    cases c with
    | nil => rw [← hc] at h1; simp at h1
    | cons a cs =>
      have h := spec_fin_at cs [a] (by simp) (by simp only [List.singleton_append]; omega)
      refine Ev.step (f := fun k => spec_ForceOk.l2 k (a :: cs) ((a :: cs).length : Int) 0) (fun k => ?_) ?_
      · show spec_ForceOk.l0 (k + 1) _ _ _ _ _ = _
        rw [spec_ForceOk.l0, if_neg (mid_nlt _)]
      · refine Ev.step (fun k => ?_) h
        show spec_ForceOk.l2 (k + 1) _ _ _ = _
        rw [spec_ForceOk.l2, if_pos (by rw [List.length_cons]; omega), if_pos (by omega), if_pos (by rw [List.length_cons]; omega), if_neg (by omega), show wrap64 (0 + 1) = 1 from w64_id (by omega) (by omega)]
        rfl
  | cons x rest ih =>
    intro pre c hb h1 hc hx
    have hxl := hx x (by simp)
    have hn := spec_next_at (pre ++ x :: rest) (pre.length : Int) (nn _) (mid_lt _ _ _) hb x (forceR (forceM ((pre ++ x :: rest).length : Int) (pre.length : Int) (x :: rest) c)) x.f1 [] c (by simpa using hxl) hc (by
      cases hm : nextM (pre.length : Int) ((pre ++ x :: rest).length : Int) x.f1 c with
      | none =>
        show forceR _ = false
        simp only [forceM, hm]
        by_cases q : nodeB x = true
        · rw [if_pos q]; rfl
        · rw [if_neg q]; rfl
      | some c' =>
        by_cases q : nodeB x = true
        · simp only [if_pos q, forceM, hm, Option.bind_some]
          have h := ih (pre ++ [x]) c' (by simpa using hb) (by simp; omega) (by rw [nextM_len _ _ _ _ _ hm, hc]; simp) (fun y hy => hx y (by simp [hy]))
          rw [← mid_cons] at h
          have e1 : ((pre ++ [x]).length : Int) = wrap64 ((pre.length : Int) + 1) := (mid_succ pre x (by simp at hb; omega)).symm
          have e2 : ((pre ++ [x]).length : Int) = (pre.length : Int) + 1 := by simp
          rw [e2] at h
          rw [show wrap64 ((pre.length : Int) + 1) = (pre.length : Int) + 1 by rw [← e1, e2]]
          exact h
        · simp only [if_neg q, forceM]
          rfl)
    refine Ev.step (fun k => ?_) hn
    show spec_ForceOk.l0 (k + 1) _ c _ _ _ = _
    rw [spec_ForceOk.l0, if_pos (mid_lt _ _ _), if_pos (nn _), if_pos (mid_lt _ _ _), mid_rdIN]
    rfl
theorem impl_Force_ev (l : List IN) (hx : ∀ x ∈ l, x.f1.length ≤ 4611686018427387904) : Ev (fun k => impl_ForceOk.f k l) (forceB l) := by
  have hj : Ev (fun k => impl_ForceOk.j0 k l true) false := Ev.at_ 1 (fun k hk => by obtain ⟨m, rfl⟩ := Nat.exists_eq_add_of_le' hk; rfl)
  unfold impl_ForceOk.f forceB
  by_cases h1 : (l.length : Int) < 1
  · simp only [if_pos h1, decide_eq_false (show ¬ (1 ≤ (l.length : Int) ∧ (l.length : Int) ≤ 40) by omega), Bool.false_and]
    exact hj
  · simp only [if_neg h1]
    by_cases h2 : (l.length : Int) > 40
    · simp only [decide_eq_true h2, decide_eq_false (show ¬ (1 ≤ (l.length : Int) ∧ (l.length : Int) ≤ 40) by omega), Bool.false_and]
      exact hj
    · simp only [decide_eq_false h2, decide_eq_true (show 1 ≤ (l.length : Int) ∧ (l.length : Int) ≤ 40 by omega), Bool.true_and]
      refine Ev.step (fun k => ?_) (impl_force_at l [] (List.replicate l.length 0) (by simp; omega) (by simp; omega) (by simp) hx)
      show impl_ForceOk.j0 (k + 1) l false = _
      rw [impl_ForceOk.j0, if_neg (by simp), if_pos (nn _), Int.toNat_natCast, if_pos (by omega)]
      rfl
theorem spec_Force_ev (l : List IN) (hx : ∀ x ∈ l, x.f1.length ≤ 4611686018427387904) : Ev (fun k => spec_ForceOk.f k l) (forceB l) := by
  unfold spec_ForceOk.f forceB
  simp only [l01In_eq, Option.bind_some]
  by_cases h1 : 1 ≤ (l.length : Int) ∧ (l.length : Int) ≤ 40
  · simp only [decide_eq_true h1, if_true, Bool.true_and, if_pos (nn l.length), Int.toNat_natCast, if_pos (show l.length ≤ 35184372088832 by omega)]
    exact spec_force_at l [] (List.replicate l.length 0) (by simp; omega) (by simp; omega) (by simp) hx
  · simp only [decide_eq_false h1, Bool.false_eq_true, if_false, Bool.false_and]
    exact Ev.now _
end Go.Proofs.Ytclmicogljidkaa.F
/- Laid by a program of this claim's own. What the Go function does, as a Lean function, and the proof that the Go code does just that; Lean checks it. -/
namespace Go.Proofs.Ytclmicogljidkaa.F
open Go.RowKit Go.Proofs.YtclmicogljidkaaW.PrintWords Go.Proofs.YtclmicogljidkaaW.PrintLast Go.Proofs.YtclmicogljidkaaW.PrintMore
attribute [local go_sem] max2_int min2_int max_two min_two max_three min_three max_four min_four   -- for this text's walks alone
set_option linter.unusedVariables false
set_option linter.unusedSimpArgs false

/-! ### spec_PlayForce: function 50 -/
def spec_PlayForce.l0 : Nat → List (S67) → Int → List Int → Int → Int → Option (Int × Bool)
  | 0, _, _, _, _, _ => none
  | k + 1, x0, x6, x12, x13, x14 => if x14 < x13 then (if 0 ≤ x14 then (if x14 < (x12.length : Int) then (if 0 ≤ x6 then (if x6 < (x0.length : Int) then ((spec_l01In.f (rd x12 x14) 0 (wrap64 ((((rd_T67 x0 x6).f1).length : Int) - 1))).bind fun t1013 => (if t1013 = true then (if 0 ≤ (rd x12 x14) then (if (rd x12 x14) < (((rd_T67 x0 x6).f1).length : Int) then (spec_PlayForce.l0 k x0 (rd ((rd_T67 x0 x6).f1) (rd x12 x14)) x12 x13 (wrap64 (x14 + 1))) else (none)) else (none)) else (some (0, false)))) else (none)) else (none)) else (none)) else (none)) else (some (x6, true))
def spec_PlayForce.f (k : Nat) (l0 : List (S67)) (l1 : List Int) : Option (Int × Bool) := (spec_ForceOk.f k l0).bind fun t1010 => (if t1010 = true then (spec_PlayForce.l0 k l0 0 l1 (l1.length : Int) 0) else (some (0, false)))
theorem spec_PlayForce.mono_l : ∀ k, (∀ y0 y1 y2 y3 y4, LeO (spec_PlayForce.l0 k y0 y1 y2 y3 y4) (spec_PlayForce.l0 (k + 1) y0 y1 y2 y3 y4))
  | 0 => fun _ _ _ _ _ r h => by simp [spec_PlayForce.l0] at h
  | k + 1 => by
    have ih0 := spec_PlayForce.mono_l k
    · intro y0 y1 y2 y3 y4
      unfold spec_PlayForce.l0
      repeat' first
      | (with_reducible exact ih0 _ _ _ _ _)
      | (with_reducible exact spec_ForceOk.mono _ _)
      | (with_reducible exact LeO.refl _)
      | (with_reducible exact LeO.none _)
      | (with_reducible refine LeO.ite ?_ ?_)
      | (with_reducible refine LeO.bind ?_ (fun _ => ?_))
      | exact ih0 _ _ _ _ _
      | exact spec_ForceOk.mono _ _
      | exact LeO.none _
      | refine LeO.ite ?_ ?_
      | refine LeO.bind ?_ (fun _ => ?_)
theorem spec_PlayForce.mono : ∀ a0 a1 k, LeO (spec_PlayForce.f k a0 a1) (spec_PlayForce.f (k + 1) a0 a1) := by
  intro a0 a1 k
  have ih0 := spec_PlayForce.mono_l k
  unfold spec_PlayForce.f
  repeat' first
      | (with_reducible exact ih0 _ _ _ _ _)
      | (with_reducible exact spec_ForceOk.mono _ _)
      | (with_reducible exact LeO.refl _)
      | (with_reducible exact LeO.none _)
      | (with_reducible refine LeO.ite ?_ ?_)
      | (with_reducible refine LeO.bind ?_ (fun _ => ?_))
      | exact ih0 _ _ _ _ _
      | exact spec_ForceOk.mono _ _
      | exact LeO.none _
      | refine LeO.ite ?_ ?_
      | refine LeO.bind ?_ (fun _ => ?_)
set_option maxHeartbeats 8000000 in
set_option maxRecDepth 100000 in
theorem spec_PlayForce.calls (k : Nat) (A0 : Option Addr) (c0 : Nat) (l0 : List (S67)) (A1 : Option Addr) (c1 : Nat) (l1 : List Int) (r1 : Int) (r2 : Bool) (w : World) (hr0 : Kd.C k67 w A0 l0.length l0) (hc0 : l0.length ≤ c0) (hr1 : Kd.C (Kd.int .i64) w A1 l1.length l1) (hc1 : l1.length ≤ c1) (h : spec_PlayForce.f k l0 l1 = some (r1, r2)) :
    Calls Try.prog 50 #[.slice A0 l0.length c0, .slice A1 l1.length c1] w fun e w' => e = .returned (.tuple #[.int .i64 r1, .bool r2]) ∧ Below w.heap.size w w' := by
  have HR0 := Aside0.mk hr0
  have HC0 := Aside0.mk hc0
  clear hr0 hc0
  have HR1 := Aside0.mk hr1
  have HC1 := Aside0.mk hc1
  clear hr1 hc1
  have HB := Aside0.mk (Below.refl w.heap.size w)
  have H : ((spec_ForceOk.f k l0).bind fun t1010 => (if t1010 = true then (spec_PlayForce.l0 k l0 0 l1 (l1.length : Int) 0) else (some (0, false)))) = some (r1, r2) := h
  clear h
  replace H := Option.bind_eq_some_iff.mp H
  obtain ⟨t1010, A30, H⟩ := H
  replace H : (if t1010 = true then (spec_PlayForce.l0 k l0 0 l1 (l1.length : Int) 0) else (some (0, false))) = some (r1, r2) := H
  have A3 := Aside0.mk A30
  clear A30
  by_cases c4 : t1010 = true
  · subst c4
    have H1 : (spec_PlayForce.l0 k l0 0 l1 (l1.length : Int) 0) = some (r1, r2) := by rw [if_pos rfl] at H; exact H
    clear H
    have H := H1
    clear H1
    have H' := Aside0.mk H
    clear H
    go_enter Try.func50, Try.ntmps50
    go_wp2_with (first | ((with_reducible refine gate_callee (f := 31) rfl ?_); refine goesL_ (some 10) rfl rfl Try.func31 (by kernel_rfl) rfl #[.slice A0 l0.length c0] rfl (by (try simp only [List.map_toArray, List.map_cons, List.map_nil]); first | done | rfl | (simp only [List.length_drop, List.length_take]; rfl)) ?_; (with_reducible refine (spec_ForceOk.calls k _ _ l0 true _ ?side1 ?side2 A3.out).mono ?_); (case side1 => repeat (first | exact HR0.out | (with_reducible refine Kd.C_alloc ?_ _) | (with_reducible refine Kd.C_drewN ?_ _) | (with_reducible refine Kd.C_drew ?_))); (case side2 => exact HC0.out); rintro e w5 ⟨rfl, hb⟩; refine ⟨_, rfl, ?_⟩; have n0_ := Aside0.mk (below_step (by repeat (first | (with_reducible first | exact HB.out | apply below_alloc | apply pw_below_drewN | apply below_drew1) | exact HB.out)) hb); clear HB; have HB := n0_; clear n0_; (try clear hb); (try clear hb2); (try clear hk); (try clear hi)))
    go_loopg [6, 14] k (fun kq v6 v14 w' => ∃ (x6_1 : Int) (x14_1 : Int), v6 = .int .i64 x6_1 ∧ v14 = .int .i64 x14_1 ∧ Aside0 (spec_PlayForce.l0 kq l0 x6_1 l1 (l1.length : Int) x14_1 = some (r1, r2)) ∧ Aside0 (kq ≤ k) ∧ Aside0 (Below w.heap.size w w'))
    case atStart => exact ⟨(0), (0), (by first | rfl | (simp; done) | (simp [*]; done)), (by first | rfl | (simp; done) | (simp [*]; done)), H', ⟨Nat.le_refl _⟩, ⟨by repeat (first | (with_reducible first | exact HB.out | apply below_alloc | apply pw_below_drewN | apply below_drew1) | exact HB.out)⟩⟩
    case round =>
      clear H'
      try clear c1
      try clear p2
      try clear c3
      try clear c4
      try clear c5
      obtain ⟨x6_1, x14_1, rfl, rfl, HA, HK1, HB⟩ := hrel
      cases gk with
      | zero => exact absurd HA.out (by simp [spec_PlayForce.l0])
      | succ k1 =>
        have H := HA.out
        clear HA
        simp only [spec_PlayForce.l0] at H
        by_cases c6 : x14_1 < (l1.length : Int)
        · rw [if_pos c6] at H
          have c6b0 : decide (x14_1 < (l1.length : Int)) = true := decide_eq_true c6
          clear c6
          by_cases c7 : 0 ≤ x14_1
          · rw [if_pos c7] at H
            have c7b0 : decide (0 ≤ x14_1) = true := decide_eq_true c7
            clear c7
            by_cases c8 : x14_1 < (l1.length : Int)
            · rw [if_pos c8] at H
              have c8b0 : decide (x14_1 < (l1.length : Int)) = true := decide_eq_true c8
              clear c8
              by_cases c9 : 0 ≤ x6_1
              · rw [if_pos c9] at H
                have c9b0 : decide (0 ≤ x6_1) = true := decide_eq_true c9
                clear c9
                by_cases c10 : x6_1 < (l0.length : Int)
                · rw [if_pos c10] at H
                  have c10b0 : decide (x6_1 < (l0.length : Int)) = true := decide_eq_true c10
                  clear c10
                  replace H := Option.bind_eq_some_iff.mp H
                  obtain ⟨t1013, A110, H⟩ := H
                  replace H : (if t1013 = true then (if 0 ≤ (rd l1 x14_1) then (if (rd l1 x14_1) < (((rd_T67 l0 x6_1).f1).length : Int) then (spec_PlayForce.l0 k1 l0 (rd ((rd_T67 l0 x6_1).f1) (rd l1 x14_1)) l1 (l1.length : Int) (wrap64 (x14_1 + 1))) else (none)) else (none)) else (some (0, false))) = some (r1, r2) := H
                  have A11 := Aside0.mk A110
                  clear A110
                  by_cases c12 : t1013 = true
                  · subst c12
                    have H1 : (if 0 ≤ (rd l1 x14_1) then (if (rd l1 x14_1) < (((rd_T67 l0 x6_1).f1).length : Int) then (spec_PlayForce.l0 k1 l0 (rd ((rd_T67 l0 x6_1).f1) (rd l1 x14_1)) l1 (l1.length : Int) (wrap64 (x14_1 + 1))) else (none)) else (none)) = some (r1, r2) := by rw [if_pos rfl] at H; exact H
                    clear H
                    have H := H1
                    clear H1
                    by_cases c13 : 0 ≤ (rd l1 x14_1)
                    · rw [if_pos c13] at H
                      have c13b0 : decide (0 ≤ (rd l1 x14_1)) = true := decide_eq_true c13
                      clear c13
                      by_cases c14 : (rd l1 x14_1) < (((rd_T67 l0 x6_1).f1).length : Int)
                      · rw [if_pos c14] at H
                        have c14b0 : decide ((rd l1 x14_1) < (((rd_T67 l0 x6_1).f1).length : Int)) = true := decide_eq_true c14
                        clear c14
                        have H' := Aside0.mk H
                        clear H
                        have p1011 : 0 ≤ (x14_1 : Int) := of_decide_eq_true (by first | (with_reducible assumption) | assumption)
                        have q1011 : x14_1 < (l1.length : Int) := of_decide_eq_true (by first | (with_reducible assumption) | assumption)
                        obtain ⟨ad1011, e1011, hx1011_0⟩ := Kd.at_int HR1.out x14_1 p1011 q1011
                        cases e1011
                        replace hx1011_0 := (HB.out.cell (World.block_lt_of_cell? w _ hx1011_0)).trans hx1011_0
                        replace p1011 := eq_true p1011
                        replace q1011 := eq_true q1011
                        have p1012 : 0 ≤ (x6_1 : Int) := of_decide_eq_true (by first | (with_reducible assumption) | assumption)
                        have q1012 : x6_1 < (l0.length : Int) := of_decide_eq_true (by first | (with_reducible assumption) | assumption)
                        obtain ⟨ad1012, A1012_1, c1012_1, e1012, hx1012_0, hx1012_1, hx1012_2, hl1012_1, hi1012_1⟩ := at_T67 HR0.out x6_1 p1012 q1012
                        cases e1012
                        replace hx1012_0 := (HB.out.cell (World.block_lt_of_cell? w _ hx1012_0)).trans hx1012_0
                        replace hx1012_1 := (HB.out.cell (World.block_lt_of_cell? w _ hx1012_1)).trans hx1012_1
                        replace hx1012_2 := (HB.out.cell (World.block_lt_of_cell? w _ hx1012_2)).trans hx1012_2
                        have HR1012_1 := Aside0.mk hi1012_1
                        have HC1012_1 := Aside0.mk hl1012_1
                        clear hi1012_1 hl1012_1
                        replace p1012 := eq_true p1012
                        replace q1012 := eq_true q1012
                        go_wp2_with (first | ((with_reducible refine gate_callee (f := 54) rfl ?_); refine goesL_ (some 26) rfl rfl Try.func54 (by kernel_rfl) rfl #[.int .i64 (rd l1 x14_1), .int .i64 0, .int .i64 (wrap64 ((((rd_T67 l0 x6_1).f1).length : Int) - 1))] rfl (by (try simp only [List.map_toArray, List.map_cons, List.map_nil]); first | done | rfl | (simp only [List.length_drop, List.length_take]; rfl)) ?_; (with_reducible refine (spec_l01In.calls (rd l1 x14_1) 0 (wrap64 ((((rd_T67 l0 x6_1).f1).length : Int) - 1)) true _ A11.out).mono ?_); rintro e w' ⟨rfl, ⟨nd, rfl⟩⟩; refine ⟨_, rfl, ?_⟩; have p1014 : 0 ≤ (x6_1 : Int) := of_decide_eq_true (by first | (with_reducible assumption) | assumption); have q1014 : x6_1 < (l0.length : Int) := of_decide_eq_true (by first | (with_reducible assumption) | assumption); obtain ⟨ad1014, A1014_1, c1014_1, e1014, hx1014_0, hx1014_1, hx1014_2, hl1014_1, hi1014_1⟩ := at_T67 HR0.out x6_1 p1014 q1014; obtain rfl : ad1012 = ad1014 := (by injection e1014); replace hx1014_0 := (HB.out.cell (World.block_lt_of_cell? w _ hx1014_0)).trans hx1014_0; replace hx1014_1 := (HB.out.cell (World.block_lt_of_cell? w _ hx1014_1)).trans hx1014_1; replace hx1014_2 := (HB.out.cell (World.block_lt_of_cell? w _ hx1014_2)).trans hx1014_2; have HR1014_1 := Aside0.mk hi1014_1; have HC1014_1 := Aside0.mk hl1014_1; clear hi1014_1 hl1014_1; replace p1014 := eq_true p1014; replace q1014 := eq_true q1014; have ea_ := Option.some.inj (hx1012_1.symm.trans hx1014_1); injection ea_ with ea_ en_ ec_; subst ea_; subst ec_; clear en_; have p1015 : 0 ≤ ((rd l1 x14_1) : Int) := of_decide_eq_true (by first | (with_reducible assumption) | assumption); have q1015 : (rd l1 x14_1) < (((rd_T67 l0 x6_1).f1).length : Int) := of_decide_eq_true (by first | (with_reducible assumption) | assumption); obtain ⟨ad1015, e1015, hx1015_0⟩ := Kd.at_int HR1014_1.out (rd l1 x14_1) p1015 q1015; cases e1015; replace hx1015_0 := (HB.out.cell (World.block_lt_of_cell? w _ hx1015_0)).trans hx1015_0; replace p1015 := eq_true p1015; replace q1015 := eq_true q1015))
                        go_roundg k1
                        case measure => have := HK1.out; omega
                        case rel => exact ⟨(rd ((rd_T67 l0 x6_1).f1) (rd l1 x14_1)), (wrap64 (x14_1 + 1)), (by first | rfl | (simp; done) | (simp [*]; done)), (by first | rfl | (simp; done) | (simp [*]; done)), H', ⟨by have := HK1.out; omega⟩, ⟨by repeat (first | (with_reducible first | exact HB.out | apply below_alloc | apply pw_below_drewN | apply below_drew1) | exact HB.out)⟩⟩
                      · rw [if_neg c14] at H
                        exact absurd H (by simp)
                    · rw [if_neg c13] at H
                      exact absurd H (by simp)
                  · replace c12 := Bool.eq_false_iff.mpr c12
                    subst c12
                    have H1 : (some (0, false)) = some (r1, r2) := by rw [if_neg (show ¬ (false = true) by decide)] at H; exact H
                    clear H
                    have H := H1
                    clear H1
                    simp only [Option.some.injEq, Prod.mk.injEq] at H
                    obtain ⟨rfl, rfl⟩ := H
                    have p1011 : 0 ≤ (x14_1 : Int) := of_decide_eq_true (by first | (with_reducible assumption) | assumption)
                    have q1011 : x14_1 < (l1.length : Int) := of_decide_eq_true (by first | (with_reducible assumption) | assumption)
                    obtain ⟨ad1011, e1011, hx1011_0⟩ := Kd.at_int HR1.out x14_1 p1011 q1011
                    cases e1011
                    replace hx1011_0 := (HB.out.cell (World.block_lt_of_cell? w _ hx1011_0)).trans hx1011_0
                    replace p1011 := eq_true p1011
                    replace q1011 := eq_true q1011
                    have p1012 : 0 ≤ (x6_1 : Int) := of_decide_eq_true (by first | (with_reducible assumption) | assumption)
                    have q1012 : x6_1 < (l0.length : Int) := of_decide_eq_true (by first | (with_reducible assumption) | assumption)
                    obtain ⟨ad1012, A1012_1, c1012_1, e1012, hx1012_0, hx1012_1, hx1012_2, hl1012_1, hi1012_1⟩ := at_T67 HR0.out x6_1 p1012 q1012
                    cases e1012
                    replace hx1012_0 := (HB.out.cell (World.block_lt_of_cell? w _ hx1012_0)).trans hx1012_0
                    replace hx1012_1 := (HB.out.cell (World.block_lt_of_cell? w _ hx1012_1)).trans hx1012_1
                    replace hx1012_2 := (HB.out.cell (World.block_lt_of_cell? w _ hx1012_2)).trans hx1012_2
                    have HR1012_1 := Aside0.mk hi1012_1
                    have HC1012_1 := Aside0.mk hl1012_1
                    clear hi1012_1 hl1012_1
                    replace p1012 := eq_true p1012
                    replace q1012 := eq_true q1012
                    go_wp2_with (first | ((with_reducible refine gate_callee (f := 54) rfl ?_); refine goesL_ (some 26) rfl rfl Try.func54 (by kernel_rfl) rfl #[.int .i64 (rd l1 x14_1), .int .i64 0, .int .i64 (wrap64 ((((rd_T67 l0 x6_1).f1).length : Int) - 1))] rfl (by (try simp only [List.map_toArray, List.map_cons, List.map_nil]); first | done | rfl | (simp only [List.length_drop, List.length_take]; rfl)) ?_; (with_reducible refine (spec_l01In.calls (rd l1 x14_1) 0 (wrap64 ((((rd_T67 l0 x6_1).f1).length : Int) - 1)) false _ A11.out).mono ?_); rintro e w' ⟨rfl, ⟨nd, rfl⟩⟩; refine ⟨_, rfl, ?_⟩))
                    go_ret2
                    exact ⟨by first | rfl | (simp [errW_none, errW_some] <;> rfl) | (simp [*, errW_none, errW_some] <;> rfl), by repeat (first | (with_reducible first | exact HB.out | apply below_alloc | apply pw_below_drewN | apply below_drew1) | exact HB.out)⟩
                · rw [if_neg c10] at H
                  exact absurd H (by simp)
              · rw [if_neg c9] at H
                exact absurd H (by simp)
            · rw [if_neg c8] at H
              exact absurd H (by simp)
          · rw [if_neg c7] at H
            exact absurd H (by simp)
        · rw [if_neg c6] at H
          have c6b0 : decide (x14_1 < (l1.length : Int)) = false := decide_eq_false c6
          clear c6
          simp only [Option.some.injEq, Prod.mk.injEq] at H
          obtain ⟨rfl, rfl⟩ := H
          go_wp2
          go_ret2
          exact ⟨by first | rfl | (simp [errW_none, errW_some] <;> rfl) | (simp [*, errW_none, errW_some] <;> rfl), by repeat (first | (with_reducible first | exact HB.out | apply below_alloc | apply pw_below_drewN | apply below_drew1) | exact HB.out)⟩
  · replace c4 := Bool.eq_false_iff.mpr c4
    subst c4
    have H1 : (some (0, false)) = some (r1, r2) := by rw [if_neg (show ¬ (false = true) by decide)] at H; exact H
    clear H
    have H := H1
    clear H1
    simp only [Option.some.injEq, Prod.mk.injEq] at H
    obtain ⟨rfl, rfl⟩ := H
    go_enter Try.func50, Try.ntmps50
    go_wp2_with (first | ((with_reducible refine gate_callee (f := 31) rfl ?_); refine goesL_ (some 10) rfl rfl Try.func31 (by kernel_rfl) rfl #[.slice A0 l0.length c0] rfl (by (try simp only [List.map_toArray, List.map_cons, List.map_nil]); first | done | rfl | (simp only [List.length_drop, List.length_take]; rfl)) ?_; (with_reducible refine (spec_ForceOk.calls k _ _ l0 false _ ?side1 ?side2 A3.out).mono ?_); (case side1 => repeat (first | exact HR0.out | (with_reducible refine Kd.C_alloc ?_ _) | (with_reducible refine Kd.C_drewN ?_ _) | (with_reducible refine Kd.C_drew ?_))); (case side2 => exact HC0.out); rintro e w15 ⟨rfl, hb⟩; refine ⟨_, rfl, ?_⟩; have n0_ := Aside0.mk (below_step (by repeat (first | (with_reducible first | exact HB.out | apply below_alloc | apply pw_below_drewN | apply below_drew1) | exact HB.out)) hb); clear HB; have HB := n0_; clear n0_; (try clear hb); (try clear hb2); (try clear hk); (try clear hi)))
    go_ret2
    exact ⟨by first | rfl | (simp [errW_none, errW_some] <;> rfl) | (simp [*, errW_none, errW_some] <;> rfl), by repeat (first | (with_reducible first | exact HB.out | apply below_alloc | apply pw_below_drewN | apply below_drew1) | exact HB.out)⟩

end Go.Proofs.Ytclmicogljidkaa.F
