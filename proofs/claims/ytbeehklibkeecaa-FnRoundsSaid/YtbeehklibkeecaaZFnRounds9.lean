import Derived.Test.YtbeehklibkeecaaZFnRounds8
import Derived.Test.YtbeehklibkeecaaZFnRounds4
import Derived.Test.YtbeehklibkeecaaZFnRounds7
import Derived.Test.YtbeehklibkeecaaZFnRounds5
section
/- What the makers of arguments give: numbers in their bounds, whatever the code is. -/
namespace Go.Proofs.Ytbeehklibkeecaa.F
open Go.RowKit Go.Proofs.YtbeehklibkeecaaW.PrintWords Go.Proofs.YtbeehklibkeecaaW.PrintLast Go.Proofs.YtbeehklibkeecaaW.PrintMore
set_option linter.unusedVariables false
set_option linter.unusedSimpArgs false
theorem and_255 (x : Int) : 0 ≤ Go.bits .and .i64 x 255 ∧ Go.bits .and .i64 x 255 ≤ 255 := by
  have h : (BitVec.ofInt 64 x &&& BitVec.ofInt 64 255).toNat ≤ 255 := by
    rw [BitVec.toNat_and]
    exact Nat.le_trans Nat.and_le_right (by decide)
  have e : Go.bits .and .i64 x 255 = wrap64 (((BitVec.ofInt 64 x &&& BitVec.ofInt 64 255).toNat : Nat) : Int) := i64_w _
  rw [e, w64_id (by omega) (by omega)]
  omega
/-- The cursor stands within its code. -/
def curB (f0 : List Int) (f1 : Int) : Prop := 0 ≤ f1 ∧ f1 ≤ (f0.length : Int) ∧ f0.length ≤ 1048576
theorem byte_ex (f0 : List Int) (f1 f2 : Int) (h : curB f0 f1) : ∃ b g1 g2, spec_l01Byte.f f0 f1 f2 = some (b, g1, g2) ∧ 0 ≤ b ∧ b ≤ 255 ∧ curB f0 g1 := by
  obtain ⟨h0, h1, h2⟩ := h
  unfold spec_l01Byte.f
  by_cases c : f1 < (f0.length : Int)
  · rw [if_pos c, if_pos h0]
    have hw : wrap64 (f1 + 1) = f1 + 1 := w64_id (by omega) (by omega)
    exact ⟨_, _, _, rfl, (and_255 _).1, (and_255 _).2, by rw [hw]; omega, by rw [hw]; omega, h2⟩
  · rw [if_neg c]
    exact ⟨_, _, _, rfl, (and_255 _).1, (and_255 _).2, h0, h1, h2⟩
theorem below_ex (f0 : List Int) (f1 f2 n : Int) (h : curB f0 f1) (h0 : 1 ≤ n) (h1 : n ≤ 256) : ∃ b g1 g2, spec_l01Below.f f0 f1 f2 n = some (b, g1, g2) ∧ 0 ≤ b ∧ b < n ∧ curB f0 g1 := by
  obtain ⟨b, g1, g2, hb, b0, b1, hc⟩ := byte_ex f0 f1 f2 h
  unfold spec_l01Below.f
  rw [if_neg (by omega), if_pos h1, hb, Option.bind_some, if_neg (by omega)]
  refine ⟨_, _, _, rfl, ?_, ?_, hc⟩
  · exact Int.tmod_nonneg _ b0
  · exact Int.tmod_lt_of_pos _ (by omega)
theorem new_at (rest : List Int) : ∀ (pre : List Int) (h : Int), (pre ++ rest).length ≤ 1048576 →
    ∃ r, Ev (fun k => spec_l01New.l0 k (pre ++ rest) h (pre.length : Int)) (pre ++ rest, 0, r) := by
  induction rest with
  | nil =>
    intro pre h hb
    refine ⟨h, Ev.step (f := fun _ => some (pre ++ [], 0, h)) (fun k => ?_) (Ev.now _)⟩
    show spec_l01New.l0 (k + 1) _ h _ = _
    rw [spec_l01New.l0, if_neg (mid_nlt _)]
  | cons x rest ih =>
    intro pre h hb
    by_cases c : (pre.length : Int) < 4000
    · obtain ⟨r, hr⟩ := ih (pre ++ [x]) (Go.bits .and .i64 (wrap64 ((wrap64 ((wrap64 (h * 101)) + (wrap64 x))) + 7)) 1073741823) (by simpa using hb)
      rw [← mid_cons, ← mid_succ pre x (by simp at hb; omega)] at hr
      refine ⟨r, Ev.step (fun k => ?_) hr⟩
      show spec_l01New.l0 (k + 1) _ h _ = _
      rw [spec_l01New.l0, if_pos (mid_lt _ _ _), if_pos c, if_pos (nn _), mid_rd]
    · refine ⟨h, Ev.step (f := fun _ => some (pre ++ x :: rest, 0, h)) (fun k => ?_) (Ev.now _)⟩
      show spec_l01New.l0 (k + 1) _ h _ = _
      rw [spec_l01New.l0, if_pos (mid_lt _ _ _), if_neg c]
theorem new_ev (l : List Int) (hb : l.length ≤ 1048576) : ∃ r, Ev (fun k => spec_l01New.f k l) (l, 0, r) := new_at l [] _ hb
theorem l23_at (f0 : List Int) (n : Nat) : ∀ (i : Int) (a f1 f2 : Int), i + n = a → 0 ≤ i → a ≤ 1048576 → curB f0 f1 →
    ∃ g1 g2, Ev (fun k => spec_l23New.l0 k a f0 f1 f2 i) (f0, g1, g2) ∧ curB f0 g1 := by
  induction n with
  | zero =>
    intro i a f1 f2 hn hi ha h
    refine ⟨f1, f2, Ev.step (f := fun _ => some (f0, f1, f2)) (fun k => ?_) (Ev.now _), h⟩
    show spec_l23New.l0 (k + 1) a f0 f1 f2 i = _
    rw [spec_l23New.l0, if_neg (by omega)]
  | succ n ih =>
    intro i a f1 f2 hn hi ha h
    obtain ⟨b, g1, g2, hb, _, _, hc⟩ := byte_ex f0 f1 f2 h
    obtain ⟨e1, e2, he, hf⟩ := ih (i + 1) a g1 g2 (by omega) (by omega) ha hc
    refine ⟨e1, e2, Ev.step (fun k => ?_) he, hf⟩
    show spec_l23New.l0 (k + 1) a f0 f1 f2 i = _
    rw [spec_l23New.l0, if_pos (by omega), hb, Option.bind_some, w64_id (by omega) (by omega)]
theorem l23_ev (l : List Int) (a : Int) (hb : l.length ≤ 1048576) (h0 : 0 ≤ a) (h1 : a ≤ 1048576) : ∃ g1 g2, Ev (fun k => spec_l23New.f k l a) (l, g1, g2) ∧ curB l g1 := by
  obtain ⟨r, hr⟩ := new_ev l hb
  obtain ⟨g1, g2, hg, hc⟩ := l23_at l a.toNat 0 a 0 r (by omega) (by omega) h1 ⟨by omega, by omega, hb⟩
  unfold spec_l23New.f
  exact ⟨g1, g2, Ev.bind hr hg, hc⟩
theorem num_ev (l : List Int) (a : Int) (hb : l.length ≤ 1048576) (h0 : 0 ≤ a) (h1 : a ≤ 1048576) : ∃ v, Ev (fun k => spec_MakeNum.f k l a) v ∧ 0 ≤ v ∧ v ≤ 65535 := by
  obtain ⟨g1, g2, hg, hc⟩ := l23_ev l a hb h0 h1
  obtain ⟨b, c1, c2, hb1, b0, b1, hc1⟩ := byte_ex l g1 g2 hc
  obtain ⟨d, e1, e2, hd1, d0, d1, hc2⟩ := byte_ex l c1 c2 hc1
  refine ⟨b * 256 + d, ?_, by omega, by omega⟩
  unfold spec_MakeNum.f
  refine Ev.bind hg ?_
  simp only [hb1, hd1, Option.bind_some]
  rw [w64_id (show -9223372036854775808 ≤ b * 256 by omega) (by omega), w64_id (by omega) (by omega)]
  exact Ev.now _
end Go.Proofs.Ytbeehklibkeecaa.F
end
section
/- Laid by a program of this claim's own. What the Go function does, as a Lean function, and the proof that the Go code does just that; Lean checks it. -/
namespace Go.Proofs.Ytbeehklibkeecaa.F
open Go.RowKit Go.Proofs.YtbeehklibkeecaaW.PrintWords Go.Proofs.YtbeehklibkeecaaW.PrintLast Go.Proofs.YtbeehklibkeecaaW.PrintMore
attribute [local go_sem] max2_int min2_int max_two min_two max_three min_three max_four min_four   -- for this text's walks alone
set_option linter.unusedVariables false
set_option linter.unusedSimpArgs false
/-! ### spec_l01In: function 39 -/
def spec_l01In.f (a0 : Int) (a1 : Int) (a2 : Int) : Option (Bool) := if a0 ≥ a1 then (some (decide (a0 ≤ a2))) else (some false)
end Go.Proofs.Ytbeehklibkeecaa.F
end
section
/- Laid by a program of this claim's own. What the Go function does, as a Lean function, and the proof that the Go code does just that; Lean checks it. -/
namespace Go.Proofs.Ytbeehklibkeecaa.F
open Go.RowKit Go.Proofs.YtbeehklibkeecaaW.PrintWords Go.Proofs.YtbeehklibkeecaaW.PrintLast Go.Proofs.YtbeehklibkeecaaW.PrintMore
attribute [local go_sem] max2_int min2_int max_two min_two max_three min_three max_four min_four   -- for this text's walks alone
set_option linter.unusedVariables false
set_option linter.unusedSimpArgs false
/-! ### spec_CardOf: function 110 -/
def spec_CardOf.f (a0 : Int) : Option (Int) := (spec_l01In.f a0 0 11).bind fun t112 => (if t112 = true then (some a0) else ((spec_l01In.f a0 (-12) (-1)).bind fun t113 => (if t113 = true then (some (wrap64 ((-1) - a0))) else (some (-1)))))
end Go.Proofs.Ytbeehklibkeecaa.F
end
section
/- Laid by a program of this claim's own. What the Go function does, as a Lean function, and the proof that the Go code does just that; Lean checks it. -/
namespace Go.Proofs.Ytbeehklibkeecaa.F
open Go.RowKit Go.Proofs.YtbeehklibkeecaaW.PrintWords Go.Proofs.YtbeehklibkeecaaW.PrintLast Go.Proofs.YtbeehklibkeecaaW.PrintMore
attribute [local go_sem] max2_int min2_int max_two min_two max_three min_three max_four min_four   -- for this text's walks alone
set_option linter.unusedVariables false
set_option linter.unusedSimpArgs false
/-! ### spec_l02Has: function 44 -/
def spec_l02Has.l0 : Nat → Int → List Int → Int → Int → Option (Bool)
  | 0, _, _, _, _ => none
  | k + 1, x1, x7, x8, x9 => if x9 < x8 then (if 0 ≤ x9 then (if x9 < (x7.length : Int) then (if (rd x7 x9) = x1 then (some true) else (spec_l02Has.l0 k x1 x7 x8 (wrap64 (x9 + 1)))) else (none)) else (none)) else (some false)
def spec_l02Has.f (k : Nat) (l0 : List Int) (a1 : Int) : Option (Bool) := spec_l02Has.l0 k a1 l0 (l0.length : Int) 0
end Go.Proofs.Ytbeehklibkeecaa.F
end
section
/- Laid by a program of this claim's own. What the Go function does, as a Lean function, and the proof that the Go code does just that; Lean checks it. -/
namespace Go.Proofs.Ytbeehklibkeecaa.F
open Go.RowKit Go.Proofs.YtbeehklibkeecaaW.PrintWords Go.Proofs.YtbeehklibkeecaaW.PrintLast Go.Proofs.YtbeehklibkeecaaW.PrintMore
attribute [local go_sem] max2_int min2_int max_two min_two max_three min_three max_four min_four   -- for this text's walks alone
set_option linter.unusedVariables false
set_option linter.unusedSimpArgs false
/-! ### spec_PacketOk: function 127 -/
def spec_PacketOk.l0 : Nat → List Int → List Int → Int → Int → Option (Bool)
  | 0, _, _, _, _ => none
  | k + 1, x3, x11, x12, x13 => if x13 < x12 then (if 0 ≤ x13 then (if x13 < (x11.length : Int) then ((spec_CardOf.f (rd x11 x13)).bind fun t121 => (if t121 < 0 then (some false) else ((spec_l02Has.f k x3 t121).bind fun t122 => (if t122 = true then (some false) else (if x3.length < 17592186044416 then (spec_PacketOk.l0 k (x3 ++ [t121]) x11 x12 (wrap64 (x13 + 1))) else (none)))))) else (none)) else (none)) else (some true)
def spec_PacketOk.f (k : Nat) (l0 : List Int) : Option (Bool) := if (l0.length : Int) > 12 then (some false) else (spec_PacketOk.l0 k (([] : List Int)) l0 (l0.length : Int) 0)
end Go.Proofs.Ytbeehklibkeecaa.F
end
section
/- Cards, and when a list is a packet: the program's and the reference's functions tell one thing. -/
namespace Go.Proofs.Ytbeehklibkeecaa.F
open Go.RowKit Go.Proofs.YtbeehklibkeecaaW.PrintWords Go.Proofs.YtbeehklibkeecaaW.PrintLast Go.Proofs.YtbeehklibkeecaaW.PrintMore
set_option linter.unusedVariables false
set_option linter.unusedSimpArgs false
theorem l01In_eq (a b c : Int) : spec_l01In.f a b c = some (decide (b ≤ a ∧ a ≤ c)) := by
  unfold spec_l01In.f
  by_cases h : b ≤ a
  · simp [h]
  · simp [h]
def cardOf (x : Int) : Int := if 0 ≤ x ∧ x ≤ 11 then x else if -12 ≤ x ∧ x ≤ -1 then -1 - x else -1
theorem cardOf_lt (x : Int) : cardOf x < 12 := by
  unfold cardOf
  repeat' split
  all_goals omega
theorem spec_CardOf_eq (x : Int) : spec_CardOf.f x = some (cardOf x) := by
  unfold spec_CardOf.f cardOf
  rw [l01In_eq, l01In_eq]
  by_cases h : 0 ≤ x ∧ x ≤ 11
  · simp [h]
  · by_cases k : -12 ≤ x ∧ x ≤ -1
    · have e : wrap64 (-1 - x) = -1 - x := w64_id (by omega) (by omega)
      simp [h, k, e]
    · simp [h, k]
theorem impl_CardOf_eq (x : Int) (h0 : -9223372036854775808 ≤ x) : impl_CardOf.f x = some (cardOf x) := by
  unfold impl_CardOf.f cardOf
  by_cases h : x < 0
  · have e : wrap64 (-1 - x) = -1 - x := w64_id (by omega) (by omega)
    simp only [if_pos h, e]
    by_cases k : -1 - x ≥ 12
    · rw [if_pos k, if_neg (by omega), if_neg (by omega)]
    · rw [if_neg k, if_neg (by omega), if_pos (by omega)]
  · simp only [if_neg h]
    by_cases k : x ≥ 12
    · rw [if_pos k, if_neg (by omega), if_neg (by omega)]
    · rw [if_neg k, if_pos (by omega)]
theorem l02Has_at (x : Int) (rest : List Int) : ∀ (pre : List Int), (pre ++ rest).length ≤ 4611686018427387904 →
    Ev (fun k => spec_l02Has.l0 k x (pre ++ rest) ((pre ++ rest).length : Int) (pre.length : Int)) (rest.contains x) := by
  induction rest with
  | nil =>
    intro pre hb
    exact Ev.step (f := fun _ => some false) (fun k => by rw [spec_l02Has.l0, if_neg (mid_nlt _)]) (Ev.now _)
  | cons y rest ih =>
    intro pre hb
    by_cases e : y = x
    · subst e
      simp only [List.contains_cons, beq_self_eq_true, Bool.true_or]
      exact Ev.step (f := fun _ => some true) (fun k => by rw [spec_l02Has.l0, if_pos (mid_lt _ _ _), if_pos (nn _), if_pos (mid_lt _ _ _), mid_rd, if_pos rfl]) (Ev.now _)
    · have h := ih (pre ++ [y]) (by simpa using hb)
      rw [← mid_cons] at h
      rw [show (y :: rest).contains x = rest.contains x by simp only [List.contains_cons]; rw [show (x == y) = false by simpa using fun h => e h.symm]; rfl]
      exact Ev.step (fun k => by rw [spec_l02Has.l0, if_pos (mid_lt _ _ _), if_pos (nn _), if_pos (mid_lt _ _ _), mid_rd, if_neg e, mid_succ pre y (by simp at hb; omega)]) h
theorem l02Has_ev (l : List Int) (x : Int) (hb : l.length ≤ 4611686018427387904) : Ev (fun k => spec_l02Has.f k l x) (l.contains x) := l02Has_at x l [] hb
/-- Is a list a packet: the cards met so far are told by twelve bools. -/
def packetM : List Bool → List Int → Bool
  | _, [] => true
  | met, x :: xs => if cardOf x < 0 then false else if met.getD (cardOf x).toNat false = true then false else packetM (met.set (cardOf x).toNat true) xs
def packetB (l : List Int) : Bool := packetM (List.replicate 12 false) l
theorem impl_PacketOk_at (rest : List Int) : ∀ (pre : List Int) (met : List Bool), (pre ++ rest).length ≤ 4611686018427387904 → (∀ x ∈ rest, -9223372036854775808 ≤ x) →
    Ev (fun k => impl_PacketOk.l0 k (pre ++ rest) met (pre.length : Int)) (packetM met rest) := by
  induction rest with
  | nil =>
    intro pre met hb hw
    exact Ev.step (f := fun _ => some true) (fun k => by rw [impl_PacketOk.l0, if_neg (mid_nlt _)]) (Ev.now _)
  | cons x rest ih =>
    intro pre met hb hw
    have hx := hw x (by simp)
    unfold packetM
    by_cases c : cardOf x < 0
    · rw [if_pos c]
      exact Ev.step (f := fun _ => some false) (fun k => by rw [impl_PacketOk.l0, if_pos (mid_lt _ _ _), if_pos (nn _), mid_rd, impl_CardOf_eq x hx]; simp only [Option.bind_some]; rw [if_pos c]) (Ev.now _)
    · rw [if_neg c]
      by_cases m : met.getD (cardOf x).toNat false = true
      · rw [if_pos m]
        exact Ev.step (f := fun _ => some false) (fun k => by rw [impl_PacketOk.l0, if_pos (mid_lt _ _ _), if_pos (nn _), mid_rd, impl_CardOf_eq x hx]; simp only [Option.bind_some]; rw [if_neg c, if_pos (cardOf_lt x), if_pos m]) (Ev.now _)
      · rw [if_neg m]
        have h := ih (pre ++ [x]) (met.set (cardOf x).toNat true) (by simpa using hb) (fun y hy => hw y (by simp [hy]))
        rw [← mid_cons] at h
        exact Ev.step (fun k => by rw [impl_PacketOk.l0, if_pos (mid_lt _ _ _), if_pos (nn _), mid_rd, impl_CardOf_eq x hx]; simp only [Option.bind_some]; rw [if_neg c, if_pos (cardOf_lt x), if_neg m, mid_succ pre x (by simp at hb; omega)]) h
theorem impl_PacketOk_ev (l : List Int) (hb : l.length ≤ 4611686018427387904) (hw : ∀ x ∈ l, -9223372036854775808 ≤ x) : Ev (fun k => impl_PacketOk.f k l) (packetB l) := impl_PacketOk_at l [] _ hb hw
theorem count_set (l : List Bool) : ∀ i, i < l.length → l.getD i false ≠ true → (l.set i true).count true = l.count true + 1 := by
  induction l with
  | nil => intro i h; simp at h
  | cons b l ih =>
    intro i h hb
    cases i with
    | zero =>
      cases b with
      | true => simp at hb
      | false => simp
    | succ i =>
      have := ih i (by simpa using h) (by simpa using hb)
      simp only [List.set_cons_succ, List.count_cons]
      omega
theorem packetM_len (xs : List Int) : ∀ met : List Bool, met.length = 12 → packetM met xs = true → met.count true + xs.length ≤ 12 := by
  induction xs with
  | nil =>
    intro met hl _
    have := List.count_le_length (a := true) (l := met)
    simp; omega
  | cons x xs ih =>
    intro met hl h
    unfold packetM at h
    by_cases c : cardOf x < 0
    · rw [if_pos c] at h; cases h
    · rw [if_neg c] at h
      by_cases m : met.getD (cardOf x).toNat false = true
      · rw [if_pos m] at h; cases h
      · rw [if_neg m] at h
        have h1 := ih _ (by simpa using hl) h
        have := cardOf_lt x
        rw [count_set met _ (by omega) m] at h1
        simp; omega
theorem packetB_len {l : List Int} (h : packetB l = true) : l.length ≤ 12 := by
  have := packetM_len l _ (by simp) h
  simp at this
  omega
theorem set_getD (met : List Bool) (i j : Nat) (hi : i < met.length) : (met.set i true).getD j false = (decide (j = i) || met.getD j false) := by
  by_cases e : j = i
  · subst e
    simp [List.getD_eq_getElem?_getD, hi]
  · have e' : ¬ i = j := fun h => e h.symm
    simp [List.getD_eq_getElem?_getD, List.getElem?_set, e, e']
theorem spec_PacketOk_at (rest : List Int) : ∀ (pre seen : List Int) (met : List Bool), (pre ++ rest).length ≤ 12 → seen.length = pre.length → met.length = 12 → (∀ c : Int, 0 ≤ c → c < 12 → seen.contains c = met.getD c.toNat false) →
    Ev (fun k => spec_PacketOk.l0 k seen (pre ++ rest) ((pre ++ rest).length : Int) (pre.length : Int)) (packetM met rest) := by
  induction rest with
  | nil =>
    intro pre seen met hb hs hm hr
    exact Ev.step (f := fun _ => some true) (fun k => by rw [spec_PacketOk.l0, if_neg (mid_nlt _)]) (Ev.now _)
  | cons x rest ih =>
    intro pre seen met hb hs hm hr
    have hlt := cardOf_lt x
    unfold packetM
    by_cases c : cardOf x < 0
    · rw [if_pos c]
      exact Ev.step (f := fun _ => some false) (fun k => by rw [spec_PacketOk.l0, if_pos (mid_lt _ _ _), if_pos (nn _), if_pos (mid_lt _ _ _), mid_rd, spec_CardOf_eq x]; simp only [Option.bind_some]; rw [if_pos c]) (Ev.now _)
    · rw [if_neg c]
      have hh := l02Has_ev seen (cardOf x) (by simp at hb; omega)
      rw [hr _ (by omega) hlt] at hh
      by_cases m : met.getD (cardOf x).toNat false = true
      · rw [if_pos m]
        rw [m] at hh
        refine Ev.stepb hh (fun k => by rw [spec_PacketOk.l0, if_pos (mid_lt _ _ _), if_pos (nn _), if_pos (mid_lt _ _ _), mid_rd, spec_CardOf_eq x]; simp only [Option.bind_some]; rw [if_neg c]) ?_
        simp only [if_true]
        exact Ev.now _
      · rw [if_neg m]
        have m' : met.getD (cardOf x).toNat false = false := by simpa using m
        rw [m'] at hh
        have h := ih (pre ++ [x]) (seen ++ [cardOf x]) (met.set (cardOf x).toNat true) (by simpa using hb) (by simp [hs]) (by simpa using hm) (by
          intro d d0 d1
          rw [set_getD met _ _ (by omega), ← hr d d0 d1]
          rw [Bool.eq_iff_iff]
          simp only [List.contains_iff_mem, List.mem_append, List.mem_singleton, Bool.or_eq_true, decide_eq_true_eq]
          constructor
          · rintro (h | h)
            · exact .inr h
            · exact .inl (by omega)
          · rintro (h | h)
            · exact .inr (by omega)
            · exact .inl h)
        rw [← mid_cons] at h
        refine Ev.stepb hh (fun k => by rw [spec_PacketOk.l0, if_pos (mid_lt _ _ _), if_pos (nn _), if_pos (mid_lt _ _ _), mid_rd, spec_CardOf_eq x]; simp only [Option.bind_some]; rw [if_neg c]) ?_
        have hl : seen.length < 17592186044416 := by simp at hb; omega
        have hs2 := mid_succ pre x (by simp at hb; omega)
        simpa [hl, hs2] using h
theorem spec_PacketOk_ev (l : List Int) : Ev (fun k => spec_PacketOk.f k l) (packetB l) := by
  unfold spec_PacketOk.f
  by_cases h : (l.length : Int) > 12
  · have : packetB l = false := by
      cases e : packetB l with
      | false => rfl
      | true => have := packetB_len e; omega
    rw [this]
    simp only [if_pos h]
    exact Ev.now _
  · simp only [if_neg h]
    exact spec_PacketOk_at l [] [] _ (by simp; omega) rfl (by simp) (by
      intro c h0 h1
      have : c.toNat < 12 := by omega
      rw [List.getD_eq_getElem?_getD, List.getElem?_replicate, if_pos this]
      rfl)
end Go.Proofs.Ytbeehklibkeecaa.F
end
section
/- Sizes that are drawn: a number of piles, and a number of cards that they divide. -/
namespace Go.Proofs.Ytbeehklibkeecaa.F
open Go.RowKit Go.Proofs.YtbeehklibkeecaaW.PrintWords Go.Proofs.YtbeehklibkeecaaW.PrintLast Go.Proofs.YtbeehklibkeecaaW.PrintMore
set_option linter.unusedVariables false
set_option linter.unusedSimpArgs false
theorem makePiles_ev (l : List Int) (hb : l.length ≤ 1048576) : ∃ q s : Nat, Ev (fun k => spec_MakePiles.f k l) (((q * s : Nat) : Int), (q : Int)) ∧ 2 ≤ q ∧ q ≤ 4 ∧ 1 ≤ s ∧ q * s ≤ 12 := by
  obtain ⟨r, hn⟩ := new_ev l hb
  have hc0 : curB l 0 := ⟨by omega, by omega, hb⟩
  obtain ⟨b, g1, g2, e1, b0, b1, hc1⟩ := below_ex l 0 r 3 hc0 (by omega) (by omega)
  have hb3 : b = 0 ∨ b = 1 ∨ b = 2 := by omega
  have main : ∀ (qq : Nat), (qq : Int) = 2 + b → ∀ m : Int, 12 / (2 + b) = m → 1 ≤ m → m ≤ 6 → (∀ s : Nat, (s : Int) ≤ m → 1 ≤ s → qq * s ≤ 12) → 2 ≤ qq → qq ≤ 4 → ∃ q s : Nat, Ev (fun k => spec_MakePiles.f k l) (((q * s : Nat) : Int), (q : Int)) ∧ 2 ≤ q ∧ q ≤ 4 ∧ 1 ≤ s ∧ q * s ≤ 12 := by
    intro qq hqq m hm m1 m6 hall q2 q4
    obtain ⟨d, g3, g4, e2, d0, d1, _⟩ := below_ex l g1 g2 m hc1 m1 (by omega)
    obtain ⟨dn, rfl⟩ := Int.eq_ofNat_of_zero_le d0
    refine ⟨qq, dn + 1, ?_, q2, q4, by omega, hall (dn + 1) (by omega) (by omega)⟩
    unfold spec_MakePiles.f
    refine Ev.bind hn ?_
    simp only [e1, Option.bind_some, hm, e2]
    rw [if_pos ⟨b0, by omega, by omega, by omega⟩]
    have ee : (2 + b) * (1 + (dn : Int)) = ((qq * (dn + 1) : Nat) : Int) := by rw [← hqq]; push_cast; rw [Int.add_comm 1]
    rw [ee, ← hqq]
    exact Ev.now _
  rcases hb3 with rfl | rfl | rfl
  · exact main 2 rfl 6 rfl (by omega) (by omega) (fun s h1 h2 => by omega) (by omega) (by omega)
  · exact main 3 rfl 4 rfl (by omega) (by omega) (fun s h1 h2 => by omega) (by omega) (by omega)
  · exact main 4 rfl 3 rfl (by omega) (by omega) (fun s h1 h2 => by omega) (by omega) (by omega)
end Go.Proofs.Ytbeehklibkeecaa.F
end
section
/- Laid by a program of this claim's own. What the Go function does, as a Lean function, and the proof that the Go code does just that; Lean checks it. -/
namespace Go.Proofs.Ytbeehklibkeecaa.F
open Go.RowKit Go.Proofs.YtbeehklibkeecaaW.PrintWords Go.Proofs.YtbeehklibkeecaaW.PrintLast Go.Proofs.YtbeehklibkeecaaW.PrintMore
attribute [local go_sem] max2_int min2_int max_two min_two max_three min_three max_four min_four   -- for this text's walks alone
set_option linter.unusedVariables false
set_option linter.unusedSimpArgs false
/-! ### spec_PilesOk: function 38 -/
def spec_PilesOk.f (a0 : Int) (a1 : Int) : Option (Bool) := (spec_l01In.f a1 2 4).bind fun t101 => (if t101 = true then ((spec_l01In.f a0 a1 12).bind fun t102 => (if t102 = true then (if a1 = 0 then (none) else (some ((Int.tmod a0 a1) == 0))) else (some false))) else (some false))
end Go.Proofs.Ytbeehklibkeecaa.F
end
section
/- Laid by a program of this claim's own. What the Go function does, as a Lean function, and the proof that the Go code does just that; Lean checks it. -/
namespace Go.Proofs.Ytbeehklibkeecaa.F
open Go.RowKit Go.Proofs.YtbeehklibkeecaaW.PrintWords Go.Proofs.YtbeehklibkeecaaW.PrintLast Go.Proofs.YtbeehklibkeecaaW.PrintMore
attribute [local go_sem] max2_int min2_int max_two min_two max_three min_three max_four min_four   -- for this text's walks alone
set_option linter.unusedVariables false
set_option linter.unusedSimpArgs false
/-! ### spec_NewPacket: function 67 -/
def spec_NewPacket.l0 : Nat → Int → List Int → Int → Option (List Int)
  | 0, _, _, _ => none
  | k + 1, x0, x3, x4 => if x4 < x0 then (if x3.length < 17592186044416 then (spec_NewPacket.l0 k x0 (x3 ++ [x4]) (wrap64 (x4 + 1))) else (none)) else (some x3)
def spec_NewPacket.f (k : Nat) (a0 : Int) : Option (List Int) := (spec_l01In.f a0 0 12).bind fun t105 => (if t105 = true then (spec_NewPacket.l0 k a0 (([] : List Int)) 0) else (some ([] : List Int)))
end Go.Proofs.Ytbeehklibkeecaa.F
end
section
/- Laid by a program of this claim's own. What the Go function does, as a Lean function, and the proof that the Go code does just that; Lean checks it. -/
namespace Go.Proofs.Ytbeehklibkeecaa.F
open Go.RowKit Go.Proofs.YtbeehklibkeecaaW.PrintWords Go.Proofs.YtbeehklibkeecaaW.PrintLast Go.Proofs.YtbeehklibkeecaaW.PrintMore
attribute [local go_sem] max2_int min2_int max_two min_two max_three min_three max_four min_four   -- for this text's walks alone
set_option linter.unusedVariables false
set_option linter.unusedSimpArgs false
/-! ### spec_PositionOf: function 83 -/
def spec_PositionOf.l0 : Nat → Int → List Int → Int → Int → Option (Int)
  | 0, _, _, _, _ => none
  | k + 1, x1, x7, x8, x9 => if x9 < x8 then (if 0 ≤ x9 then (if x9 < (x7.length : Int) then ((spec_CardOf.f (rd x7 x9)).bind fun t115 => (if t115 = x1 then (if x1 ≥ 0 then (some x9) else (spec_PositionOf.l0 k x1 x7 x8 (wrap64 (x9 + 1)))) else (spec_PositionOf.l0 k x1 x7 x8 (wrap64 (x9 + 1))))) else (none)) else (none)) else (some (-1))
def spec_PositionOf.f (k : Nat) (l0 : List Int) (a1 : Int) : Option (Int) := spec_PositionOf.l0 k a1 l0 (l0.length : Int) 0
end Go.Proofs.Ytbeehklibkeecaa.F
end
section
/- Laid by a program of this claim's own. What the Go function does, as a Lean function, and the proof that the Go code does just that; Lean checks it. -/
namespace Go.Proofs.Ytbeehklibkeecaa.F
open Go.RowKit Go.Proofs.YtbeehklibkeecaaW.PrintWords Go.Proofs.YtbeehklibkeecaaW.PrintLast Go.Proofs.YtbeehklibkeecaaW.PrintMore
attribute [local go_sem] max2_int min2_int max_two min_two max_three min_three max_four min_four   -- for this text's walks alone
set_option linter.unusedVariables false
set_option linter.unusedSimpArgs false
/-! ### spec_l14Piles: function 128 -/
mutual
def spec_l14Piles.l0 : Nat → List Int → Int → List (List Int) → Int → Option ((List (List Int)))
  | 0, _, _, _, _ => none
  | k + 1, x0, x1, x5, x6 => if x6 < x1 then (spec_l14Piles.l1 k x0 x1 x5 x6 (([] : List Int)) x6) else (some x5)
def spec_l14Piles.l1 : Nat → List Int → Int → List (List Int) → Int → List Int → Int → Option ((List (List Int)))
  | 0, _, _, _, _, _, _ => none
  | k + 1, x0, x1, x5, x6, x7, x8 => if x8 < (x0.length : Int) then (if 0 ≤ x8 then ((some (([rd x0 x8] : List Int) : List Int)).bind fun y133 => (if y133.length + x7.length < 17592186044416 then (spec_l14Piles.l1 k x0 x1 x5 x6 (y133 ++ x7) (wrap64 (x8 + x1))) else (none))) else (none)) else (if x5.length < 5864062014805 then (spec_l14Piles.l0 k x0 x1 (x5 ++ [x7]) (wrap64 (x6 + 1))) else (none))
end
def spec_l14Piles.f (k : Nat) (l0 : List Int) (a1 : Int) : Option ((List (List Int))) := spec_l14Piles.l0 k l0 a1 (([] : List (List Int))) 0
end Go.Proofs.Ytbeehklibkeecaa.F
end
section
/- Laid by a program of this claim's own. What the Go function does, as a Lean function, and the proof that the Go code does just that; Lean checks it. -/
namespace Go.Proofs.Ytbeehklibkeecaa.F
open Go.RowKit Go.Proofs.YtbeehklibkeecaaW.PrintWords Go.Proofs.YtbeehklibkeecaaW.PrintLast Go.Proofs.YtbeehklibkeecaaW.PrintMore
attribute [local go_sem] max2_int min2_int max_two min_two max_three min_three max_four min_four   -- for this text's walks alone
set_option linter.unusedVariables false
set_option linter.unusedSimpArgs false
/-! ### spec_PilesOf: function 108 -/
def spec_PilesOf.f (k : Nat) (l0 : List Int) (a1 : Int) : Option ((List (List Int))) := (spec_PacketOk.f k l0).bind fun t142 => (if t142 = true then ((spec_PilesOk.f (l0.length : Int) a1).bind fun t143 => (if t143 = true then ((spec_l14Piles.f k l0 a1).bind fun t144 => (some t144)) else (some ([] : List (List Int))))) else (some ([] : List (List Int))))
end Go.Proofs.Ytbeehklibkeecaa.F
end
section
/- Laid by a program of this claim's own. What the Go function does, as a Lean function, and the proof that the Go code does just that; Lean checks it. -/
namespace Go.Proofs.Ytbeehklibkeecaa.F
open Go.RowKit Go.Proofs.YtbeehklibkeecaaW.PrintWords Go.Proofs.YtbeehklibkeecaaW.PrintLast Go.Proofs.YtbeehklibkeecaaW.PrintMore
attribute [local go_sem] max2_int min2_int max_two min_two max_three min_three max_four min_four   -- for this text's walks alone
set_option linter.unusedVariables false
set_option linter.unusedSimpArgs false
/-! ### spec_l14Gather: function 129 -/
def spec_l14Gather.l0 : Nat → List (List Int) → Int → Int → List Int → Int → Int → Option (List Int)
  | 0, _, _, _, _, _, _ => none
  | k + 1, x0, x1, x2, x7, x8, x9 => if x9 < (x0.length : Int) then (if x9 = x2 then (if 0 ≤ x1 then (if x1 < (x0.length : Int) then (if x7.length + (rd_L1 x0 x1).length < 17592186044416 then (spec_l14Gather.l0 k x0 x1 x2 (x7 ++ (rd_L1 x0 x1)) x8 (wrap64 (x9 + 1))) else (none)) else (none)) else (none)) else (if x8 = x1 then (if 0 ≤ (wrap64 (x8 + 1)) then (if (wrap64 (x8 + 1)) < (x0.length : Int) then (if x7.length + (rd_L1 x0 (wrap64 (x8 + 1))).length < 17592186044416 then (spec_l14Gather.l0 k x0 x1 x2 (x7 ++ (rd_L1 x0 (wrap64 (x8 + 1)))) (wrap64 ((wrap64 (x8 + 1)) + 1)) (wrap64 (x9 + 1))) else (none)) else (none)) else (none)) else (if 0 ≤ x8 then (if x8 < (x0.length : Int) then (if x7.length + (rd_L1 x0 x8).length < 17592186044416 then (spec_l14Gather.l0 k x0 x1 x2 (x7 ++ (rd_L1 x0 x8)) (wrap64 (x8 + 1)) (wrap64 (x9 + 1))) else (none)) else (none)) else (none)))) else (some x7)
def spec_l14Gather.f (k : Nat) (l0 : List (List Int)) (a1 : Int) (a2 : Int) : Option (List Int) := spec_l14Gather.l0 k l0 a1 a2 (([] : List Int)) 0 0
end Go.Proofs.Ytbeehklibkeecaa.F
end
section
/- Laid by a program of this claim's own. What the Go function does, as a Lean function, and the proof that the Go code does just that; Lean checks it. -/
namespace Go.Proofs.Ytbeehklibkeecaa.F
open Go.RowKit Go.Proofs.YtbeehklibkeecaaW.PrintWords Go.Proofs.YtbeehklibkeecaaW.PrintLast Go.Proofs.YtbeehklibkeecaaW.PrintMore
attribute [local go_sem] max2_int min2_int max_two min_two max_three min_three max_four min_four   -- for this text's walks alone
set_option linter.unusedVariables false
set_option linter.unusedSimpArgs false
/-! ### spec_GatherPiles: function 109 -/
def spec_GatherPiles.j0 : Nat → List (List Int) → Int → Int → Bool → Option (List Int × Bool)
  | 0, _, _, _, _ => none
  | k + 1, x0, x1, x2, x28 => if x28 = true then (some (([] : List Int), false)) else ((spec_l14Gather.f k x0 x1 x2).bind fun t165 => ((spec_PacketOk.f k t165).bind fun t168 => (if t168 = true then (some (t165, true)) else (some (([] : List Int), false)))))
def spec_GatherPiles.f (k : Nat) (l0 : List (List Int)) (a1 : Int) (a2 : Int) : Option (List Int × Bool) := (spec_l01In.f (l0.length : Int) 2 4).bind fun t162 => (if t162 = true then ((spec_l01In.f a1 0 (wrap64 ((l0.length : Int) - 1))).bind fun t163 => (if t163 = true then ((spec_l01In.f a2 0 (wrap64 ((l0.length : Int) - 1))).bind fun t164 => (spec_GatherPiles.j0 k l0 a1 a2 (!t164))) else (spec_GatherPiles.j0 k l0 a1 a2 true))) else (spec_GatherPiles.j0 k l0 a1 a2 true))
end Go.Proofs.Ytbeehklibkeecaa.F
end
section
/- Laid by a program of this claim's own. What the Go function does, as a Lean function, and the proof that the Go code does just that; Lean checks it. -/
namespace Go.Proofs.Ytbeehklibkeecaa.F
open Go.RowKit Go.Proofs.YtbeehklibkeecaaW.PrintWords Go.Proofs.YtbeehklibkeecaaW.PrintLast Go.Proofs.YtbeehklibkeecaaW.PrintMore
attribute [local go_sem] max2_int min2_int max_two min_two max_three min_three max_four min_four   -- for this text's walks alone
set_option linter.unusedVariables false
set_option linter.unusedSimpArgs false
/-! ### spec_PileRound: function 82 -/
def spec_PileRound.l0 : Nat → Int → Int → List (List Int) → List (List Int) → Int → Int → Option (List Int × Bool)
  | 0, _, _, _, _, _, _ => none
  | k + 1, x2, x3, x10, x16, x17, x18 => if x18 < x17 then (if 0 ≤ x18 then (if x18 < (x16.length : Int) then ((spec_PositionOf.f k (rd_L1 x16 x18) x2).bind fun t173 => (if t173 ≥ 0 then ((spec_GatherPiles.f k x10 x18 x3).bind fun bt174 => (some (bt174.1, bt174.2))) else (spec_PileRound.l0 k x2 x3 x10 x16 x17 (wrap64 (x18 + 1))))) else (none)) else (none)) else (some (([] : List Int), false))
def spec_PileRound.f (k : Nat) (l0 : List Int) (a1 : Int) (a2 : Int) (a3 : Int) : Option (List Int × Bool) := (spec_PilesOf.f k l0 a1).bind fun t169 => (spec_PileRound.l0 k a2 a3 t169 t169 (t169.length : Int) 0)
end Go.Proofs.Ytbeehklibkeecaa.F
end
section
/- Laid by a program of this claim's own. What the Go function does, as a Lean function, and the proof that the Go code does just that; Lean checks it. -/
namespace Go.Proofs.Ytbeehklibkeecaa.F
open Go.RowKit Go.Proofs.YtbeehklibkeecaaW.PrintWords Go.Proofs.YtbeehklibkeecaaW.PrintLast Go.Proofs.YtbeehklibkeecaaW.PrintMore
attribute [local go_sem] max2_int min2_int max_two min_two max_three min_three max_four min_four   -- for this text's walks alone
set_option linter.unusedVariables false
set_option linter.unusedSimpArgs false
/-! ### spec_IndexAfter: function 43 -/
def spec_IndexAfter.j0 : Nat → Int → Int → Int → Int → Bool → Option (Int)
  | 0, _, _, _, _, _ => none
  | k + 1, x0, x1, x2, x3, x28 => if x28 = true then (some (-1)) else ((spec_NewPacket.f k x0).bind fun t181 => ((spec_PileRound.f k t181 x1 x2 x3).bind fun bt184 => ((spec_PositionOf.f k bt184.1 x2).bind fun t188 => (some t188))))
def spec_IndexAfter.f (k : Nat) (a0 : Int) (a1 : Int) (a2 : Int) (a3 : Int) : Option (Int) := (spec_PilesOk.f a0 a1).bind fun t178 => (if t178 = true then ((spec_l01In.f a2 0 (wrap64 (a0 - 1))).bind fun t179 => (if t179 = true then ((spec_l01In.f a3 0 (wrap64 (a1 - 1))).bind fun t180 => (spec_IndexAfter.j0 k a0 a1 a2 a3 (!t180))) else (spec_IndexAfter.j0 k a0 a1 a2 a3 true))) else (spec_IndexAfter.j0 k a0 a1 a2 a3 true))
end Go.Proofs.Ytbeehklibkeecaa.F
end
section
/- Laid by a program of this claim's own. What the Go function does, as a Lean function, and the proof that the Go code does just that; Lean checks it. -/
namespace Go.Proofs.Ytbeehklibkeecaa.F
open Go.RowKit Go.Proofs.YtbeehklibkeecaaW.PrintWords Go.Proofs.YtbeehklibkeecaaW.PrintLast Go.Proofs.YtbeehklibkeecaaW.PrintMore
attribute [local go_sem] max2_int min2_int max_two min_two max_three min_three max_four min_four   -- for this text's walks alone
set_option linter.unusedVariables false
set_option linter.unusedSimpArgs false
/-! ### spec_PlacesFor: function 15 -/
mutual
def spec_PlacesFor.j0 : Nat → Int → Int → Int → Int → Bool → Option (List Int × Bool)
  | 0, _, _, _, _, _ => none
  | k + 1, x0, x1, x2, x3, x32 => if x32 = true then (some (([] : List Int), false)) else (spec_PlacesFor.l0 k x0 x1 x3 (([(([] : List Int))] : List (List Int))) (([x2] : List Int)) 0)
def spec_PlacesFor.l0 : Nat → Int → Int → Int → List (List Int) → List Int → Int → Option (List Int × Bool)
  | 0, _, _, _, _, _, _ => none
  | k + 1, x0, x1, x3, x10, x11, x12 => if x12 < (x11.length : Int) then (if 0 ≤ x12 then (if (rd x11 x12) = x3 then ((some (([] : List Int) : List Int)).bind fun y268 => (if x12 < (x10.length : Int) then (if y268.length + (rd_L1 x10 x12).length < 17592186044416 then (some ((y268 ++ (rd_L1 x10 x12)), true)) else (none)) else (none))) else (spec_PlacesFor.l1 k x0 x1 x3 x10 x11 x12 0)) else (none)) else (some (([] : List Int), false))
def spec_PlacesFor.l1 : Nat → Int → Int → Int → List (List Int) → List Int → Int → Int → Option (List Int × Bool)
  | 0, _, _, _, _, _, _, _ => none
  | k + 1, x0, x1, x3, x10, x11, x12, x13 => if x13 < x1 then (if 0 ≤ x12 then (if x12 < (x11.length : Int) then ((spec_IndexAfter.f k x0 x1 (rd x11 x12) x13).bind fun t276 => ((spec_l02Has.f k x11 t276).bind fun t277 => (if t277 = true then (spec_PlacesFor.l1 k x0 x1 x3 x10 x11 x12 (wrap64 (x13 + 1))) else (if x11.length < 17592186044416 then ((some (([] : List Int) : List Int)).bind fun y281 => (if x12 < (x10.length : Int) then (if y281.length + (rd_L1 x10 x12).length < 17592186044416 then ((some (y281 ++ (rd_L1 x10 x12) : List Int)).bind fun y285 => (if y285.length < 17592186044416 then (if x10.length < 5864062014805 then (spec_PlacesFor.l1 k x0 x1 x3 (x10 ++ [(y285 ++ [x13])]) (x11 ++ [t276]) x12 (wrap64 (x13 + 1))) else (none)) else (none))) else (none)) else (none))) else (none))))) else (none)) else (none)) else (spec_PlacesFor.l0 k x0 x1 x3 x10 x11 (wrap64 (x12 + 1)))
end
def spec_PlacesFor.f (k : Nat) (a0 : Int) (a1 : Int) (a2 : Int) (a3 : Int) : Option (List Int × Bool) := (spec_PilesOk.f a0 a1).bind fun t255 => (if t255 = true then ((spec_l01In.f a2 0 (wrap64 (a0 - 1))).bind fun t256 => (if t256 = true then ((spec_l01In.f a3 0 (wrap64 (a0 - 1))).bind fun t257 => (spec_PlacesFor.j0 k a0 a1 a2 a3 (!t257))) else (spec_PlacesFor.j0 k a0 a1 a2 a3 true))) else (spec_PlacesFor.j0 k a0 a1 a2 a3 true))
end Go.Proofs.Ytbeehklibkeecaa.F
end
section
/- Searching in breadth, told of lists: places that were met, each with its list of choices. -/
namespace Go.Proofs.Ytbeehklibkeecaa.F
open Go.RowKit Go.Proofs.YtbeehklibkeecaaW.PrintWords Go.Proofs.YtbeehklibkeecaaW.PrintLast Go.Proofs.YtbeehklibkeecaaW.PrintMore
set_option linter.unusedVariables false
set_option linter.unusedSimpArgs false
def addC (st : Int → Int → Int) (n x : Int) (wy : List Int) : List Int → List (Int × List Int) → Option (List (Int × List Int))
  | [], vis => some vis
  | c :: cs, vis => if 0 ≤ st x c ∧ st x c < n then (if vis.any (fun q => q.1 == st x c) = true then addC st n x wy cs vis else if vis.length < 100 ∧ wy.length < 100 then addC st n x wy cs (vis ++ [(st x c, wy ++ [c])]) else none) else none
def bfs (st : Int → Int → Int) (n go : Int) (chs : List Int) : Nat → List (Int × List Int) → Nat → Option (List Int × Bool)
  | 0, _, _ => none
  | m + 1, vis, att => match vis.drop att with
    | [] => some ([], false)
    | p :: _ => if p.1 = go then (if p.2.length < 200 then some (p.2, true) else none) else if 0 ≤ p.1 ∧ p.1 < n ∧ att < 1000 then (addC st n p.1 p.2 chs vis).bind fun v => bfs st n go chs m v (att + 1) else none
/-- All fuels from one on, the function's and the steps'. -/
def Ev2 {α : Type} (g : Nat → Nat → Option α) (r : α) : Prop := ∃ K, ∀ k k', K ≤ k → K ≤ k' → g k k' = some r
theorem addC_drop {st : Int → Int → Int} {n x : Int} {wy : List Int} : ∀ (cs : List Int) (pre rest v : List (Int × List Int)), addC st n x wy cs (pre ++ rest) = some v → ∃ rest', v = pre ++ rest'
  | [], pre, rest, v, h => ⟨rest, (Option.some.inj h).symm⟩
  | c :: cs, pre, rest, v, h => by
    unfold addC at h
    split at h
    · split at h
      · exact addC_drop cs pre rest v h
      · split at h
        · rw [List.append_assoc] at h
          exact addC_drop cs pre _ v h
        · cases h
    · cases h
section
variable (s : Nat → Int → Int → Option Int) (st : Int → Int → Int) (n go c : Int) (hn : n ≤ 1000) (hc : c ≤ 1000)
  (hs : ∀ x ch, 0 ≤ x → x < n → 0 ≤ ch → ch < c → Ev (fun k => s k x ch) (st x ch))
include hn hc hs
theorem sh_l1 (x : Int) (wy : List Int) (h0 : 0 ≤ x) (h1 : x < n) (att : Nat) (r : List Int × Bool) (d : Nat) : ∀ (a : Int) (vis v : List (Int × List Int)), 0 ≤ a → a + d = c → addC st n x wy (seqFrom a d) vis = some v →
    Ev2 (fun k k' => impl_shortest.l0 (s k') go c k v (att + 1)) r → Ev2 (fun k k' => impl_shortest.l1 (s k') go c k vis att (x, wy) a) r := by
  induction d with
  | zero =>
    intro a vis v ha hd hv h
    obtain rfl := Option.some.inj hv
    obtain ⟨K, hK⟩ := h
    refine ⟨K + 1, fun k k' hk hk' => ?_⟩
    obtain ⟨m, rfl⟩ := Nat.exists_eq_add_of_le' (show 1 ≤ k by omega)
    show impl_shortest.l1 _ _ _ (m + 1) _ _ _ _ = _
    rw [impl_shortest.l1, if_neg (by omega)]
    exact hK m k' (by omega) (by omega)
  | succ d ih =>
    intro a vis v ha hd hv h
    obtain ⟨K1, hK1⟩ := hs x a h0 h1 ha (by omega)
    have w : wrap64 (a + 1) = a + 1 := w64_id (by omega) (by omega)
    simp only [seqFrom, addC] at hv
    split at hv
    · rename_i hy
      split at hv
      · rename_i hm
        obtain ⟨K2, hK2⟩ := ih (a + 1) vis v (by omega) (by omega) hv h
        refine ⟨K1 + K2 + 1, fun k k' hk hk' => ?_⟩
        obtain ⟨m, rfl⟩ := Nat.exists_eq_add_of_le' (show 1 ≤ k by omega)
        show impl_shortest.l1 _ _ _ (m + 1) _ _ _ _ = _
        rw [impl_shortest.l1, if_pos (by omega), show s k' x a = some (st x a) from hK1 k' (by omega), Option.bind_some, if_pos (by omega), if_pos hm, w]
        exact hK2 m k' (by omega) (by omega)
      · rename_i hm
        split at hv
        · rename_i hl
          obtain ⟨K2, hK2⟩ := ih (a + 1) _ v (by omega) (by omega) hv h
          refine ⟨K1 + K2 + 1, fun k k' hk hk' => ?_⟩
          obtain ⟨m, rfl⟩ := Nat.exists_eq_add_of_le' (show 1 ≤ k by omega)
          show impl_shortest.l1 _ _ _ (m + 1) _ _ _ _ = _
          rw [impl_shortest.l1, if_pos (by omega), show s k' x a = some (st x a) from hK1 k' (by omega), Option.bind_some, if_pos (by omega), if_neg hm, if_pos (by omega), show slices_Clone_Lint_int.f wy = some wy by unfold slices_Clone_Lint_int.f; rw [if_pos (by omega)], Option.bind_some, if_pos (by omega), w]
          exact hK2 m k' (by omega) (by omega)
        · cases hv
    · cases hv
theorem sh_l0 (hc0 : 0 ≤ c) (m : Nat) : ∀ (vis : List (Int × List Int)) (att : Nat) (r : List Int × Bool), bfs st n go (seqFrom 0 c.toNat) m vis att = some r → Ev2 (fun k k' => impl_shortest.l0 (s k') go c k vis att) r := by
  induction m with
  | zero => intro vis att r h; simp [bfs] at h
  | succ m ih =>
    intro vis att r h
    unfold bfs at h
    cases hd : vis.drop att with
    | nil =>
      rw [hd] at h
      obtain rfl := Option.some.inj h
      refine ⟨1, fun k k' hk hk' => ?_⟩
      obtain ⟨m, rfl⟩ := Nat.exists_eq_add_of_le' hk
      show impl_shortest.l0 _ _ _ (m + 1) _ _ = _
      simp only [impl_shortest.l0, hd]
    | cons p tl =>
      obtain ⟨x, wy⟩ := p
      rw [hd] at h
      simp only at h
      split at h
      · rename_i hx
        split at h
        · rename_i hl
          obtain rfl := Option.some.inj h
          refine ⟨1, fun k k' hk hk' => ?_⟩
          obtain ⟨m, rfl⟩ := Nat.exists_eq_add_of_le' hk
          show impl_shortest.l0 _ _ _ (m + 1) _ _ = _
          simp only [impl_shortest.l0, hd, if_pos hx]
          rw [show slices_Clone_Lint_int.f wy = some wy by unfold slices_Clone_Lint_int.f; rw [if_pos (by omega)]]
          rfl
        · cases h
      · rename_i hx
        split at h
        · rename_i hr
          obtain ⟨v, hv, h⟩ := Option.bind_eq_some_iff.mp h
          obtain ⟨K, hK⟩ := sh_l1 s st n go c hn hc hs x wy hr.1 hr.2.1 att r c.toNat 0 vis v (by omega) (by omega) hv (ih v (att + 1) r h)
          refine ⟨K + 1, fun k k' hk hk' => ?_⟩
          obtain ⟨m, rfl⟩ := Nat.exists_eq_add_of_le' (show 1 ≤ k by omega)
          show impl_shortest.l0 _ _ _ (m + 1) _ _ = _
          simp only [impl_shortest.l0, hd, if_neg hx]
          exact hK m k' (by omega) (by omega)
        · cases h
theorem sh_ev (hc0 : 0 ≤ c) (a : Int) (ha : 0 ≤ a ∧ a < n) (m : Nat) (r : List Int × Bool) (h : bfs st n go (seqFrom 0 c.toNat) m [(a, [])] 0 = some r) : Ev (fun k => impl_shortest.f (s k) k a go c) r := by
  obtain ⟨K, hK⟩ := sh_l0 s st n go c hn hc hs hc0 m [(a, [])] 0 r h
  refine ⟨K, fun k hk => ?_⟩
  show impl_shortest.f (s k) k a go c = _
  unfold impl_shortest.f
  rw [if_pos (by omega)]
  exact hK k k hk hk
end
theorem any_has (y : Int) : ∀ vis : List (Int × List Int), vis.any (fun q => q.1 == y) = (vis.map Prod.fst).contains y
  | [] => rfl
  | p :: vis => by
    rw [List.any_cons, List.map_cons, List.contains_cons, any_has y vis]
    congr 1
    by_cases h : p.1 = y
    · rw [h]
    · rw [beq_eq_false_iff_ne.mpr h, beq_eq_false_iff_ne.mpr (Ne.symm h)]
theorem addC_len {st : Int → Int → Int} {n x : Int} {wy : List Int} : ∀ (cs : List Int) (vis v : List (Int × List Int)), addC st n x wy cs vis = some v → vis.length ≤ 1200 → v.length ≤ max vis.length 100
  | [], vis, v, h, _ => by obtain rfl := Option.some.inj h; omega
  | c :: cs, vis, v, h, hb => by
    unfold addC at h
    split at h
    · split at h
      · exact addC_len cs vis v h hb
      · split at h
        · rename_i hl
          have := addC_len cs _ v h (by simp; omega)
          simp at this
          omega
        · cases h
    · cases h
end Go.Proofs.Ytbeehklibkeecaa.F
end
section
/- A row's element, told of lists. -/
namespace Go.Proofs.Ytbeehklibkeecaa.F
open Go.RowKit Go.Proofs.YtbeehklibkeecaaW.PrintWords Go.Proofs.YtbeehklibkeecaaW.PrintLast Go.Proofs.YtbeehklibkeecaaW.PrintMore
set_option linter.unusedVariables false
set_option linter.unusedSimpArgs false
theorem mid_rdLM (pre : List (List Int)) (x : List Int) (rest : List (List Int)) : rd_L1 (pre ++ x :: rest) (pre.length : Int) = x := by
  unfold rd_L1
  simp
end Go.Proofs.Ytbeehklibkeecaa.F
end
section
/- PlacesFor: the reference's search. -/
namespace Go.Proofs.Ytbeehklibkeecaa.F
open Go.RowKit Go.Proofs.YtbeehklibkeecaaW.PrintWords Go.Proofs.YtbeehklibkeecaaW.PrintLast Go.Proofs.YtbeehklibkeecaaW.PrintMore
set_option linter.unusedVariables false
set_option linter.unusedSimpArgs false
section
variable (n p go : Int) (st : Int → Int → Int)
theorem pf_l1 (c : Int) (hc : c = p) (hc1 : c ≤ 1000) (x : Int) (wy : List Int) (pre : List (Int × List Int)) (hb : pre.length < 1000) (hs : ∀ ch, 0 ≤ ch → ch < c → Ev (fun k => spec_IndexAfter.f k n p x ch) (st x ch)) (r : List Int × Bool) (d : Nat) : ∀ (a : Int) (tl v : List (Int × List Int)), 0 ≤ a → a + d = c → tl.length < 200 → addC st n x wy (seqFrom a d) (pre ++ (x, wy) :: tl) = some v →
    Ev (fun k => spec_PlacesFor.l0 k n p go (v.map Prod.snd) (v.map Prod.fst) (wrap64 ((pre.length : Int) + 1))) r → Ev (fun k => spec_PlacesFor.l1 k n p go ((pre ++ (x, wy) :: tl).map Prod.snd) ((pre ++ (x, wy) :: tl).map Prod.fst) (pre.length : Int) a) r := by
  induction d with
  | zero =>
    intro a tl v ha hd htl hv h
    obtain rfl := Option.some.inj hv
    refine Ev.step (fun k => ?_) h
    show spec_PlacesFor.l1 (k + 1) n p go _ _ _ _ = _
    rw [spec_PlacesFor.l1, if_neg (by omega)]
  | succ d ih =>
    intro a tl v ha hd htl hv h
    have w : wrap64 (a + 1) = a + 1 := w64_id (by omega) (by omega)
    have e1 : (pre ++ (x, wy) :: tl).map Prod.fst = pre.map Prod.fst ++ x :: tl.map Prod.fst := by simp
    have e2 : (pre ++ (x, wy) :: tl).map Prod.snd = pre.map Prod.snd ++ wy :: tl.map Prod.snd := by simp
    have l1 : ((pre.length : Nat) : Int) = ((pre.map Prod.fst).length : Int) := by simp
    have l2 : ((pre.length : Nat) : Int) = ((pre.map Prod.snd).length : Int) := by simp
    have r1 : rd ((pre ++ (x, wy) :: tl).map Prod.fst) (pre.length : Int) = x := by rw [e1, l1, mid_rd]
    have r2 : rd_L1 ((pre ++ (x, wy) :: tl).map Prod.snd) (pre.length : Int) = wy := by rw [e2, l2, mid_rdLM]
    have q1 : (pre.length : Int) < (((pre ++ (x, wy) :: tl).map Prod.fst).length : Int) := by rw [e1, l1]; exact mid_lt _ _ _
    have q2 : (pre.length : Int) < (((pre ++ (x, wy) :: tl).map Prod.snd).length : Int) := by rw [e2, l2]; exact mid_lt _ _ _
    have b1 : ((pre ++ (x, wy) :: tl).map Prod.fst).length < 17592186044416 := by simp; omega
    have b2 : ((pre ++ (x, wy) :: tl).map Prod.snd).length < 5864062014805 := by simp; omega
    simp only [seqFrom, addC] at hv
    split at hv
    · rename_i hy
      refine Ev.stepb (hs a ha (by omega)) (fun k => by rw [spec_PlacesFor.l1, if_pos (by omega), if_pos (nn _), if_pos q1, r1]) ?_
      refine Ev.bind (l02Has_ev ((pre ++ (x, wy) :: tl).map Prod.fst) (st x a) (by omega)) ?_
      rw [← any_has]
      split at hv
      · rename_i hm
        rw [hm]
        simp only [if_true]
        have h2 := ih (a + 1) tl v (by omega) (by omega) htl hv h
        rw [w]
        exact h2
      · rename_i hm
        rw [Bool.eq_false_iff.mpr hm]
        simp only [Bool.false_eq_true, if_false, if_pos b1, Option.bind_some, if_pos q2, r2, List.nil_append, List.length_nil, Nat.zero_add]
        split at hv
        · rename_i hl
          have hw : wy.length < 17592186044416 := by omega
          simp only [if_pos hw, if_pos b2]
          rw [List.append_assoc, List.cons_append] at hv
          have h2 := ih (a + 1) (tl ++ [(st x a, wy ++ [a])]) v (by omega) (by omega) (by simp at hl ⊢; omega) hv h
          rw [w]
          rw [show ((pre ++ (x, wy) :: tl).map Prod.snd) ++ [wy ++ [a]] = (pre ++ (x, wy) :: (tl ++ [(st x a, wy ++ [a])])).map Prod.snd by simp, show ((pre ++ (x, wy) :: tl).map Prod.fst) ++ [st x a] = (pre ++ (x, wy) :: (tl ++ [(st x a, wy ++ [a])])).map Prod.fst by simp]
          exact h2
        · cases hv
    · cases hv
theorem pf_l0 (c : Int) (hc : c = p) (hc0 : 0 ≤ c) (hc1 : c ≤ 1000) (hs : ∀ x ch, 0 ≤ x → x < n → 0 ≤ ch → ch < c → Ev (fun k => spec_IndexAfter.f k n p x ch) (st x ch)) (m : Nat) : ∀ (pre rest : List (Int × List Int)) (r : List Int × Bool), rest.length < 200 → bfs st n go (seqFrom 0 c.toNat) m (pre ++ rest) pre.length = some r → Ev (fun k => spec_PlacesFor.l0 k n p go ((pre ++ rest).map Prod.snd) ((pre ++ rest).map Prod.fst) (pre.length : Int)) r := by
  induction m with
  | zero => intro pre rest r _ h; simp [bfs] at h
  | succ m ih =>
    intro pre rest r hrl h
    unfold bfs at h
    rw [List.drop_left] at h
    cases rest with
    | nil =>
      obtain rfl := Option.some.inj h
      refine Ev.step (f := fun _ => some ([], false)) (fun k => ?_) (Ev.now _)
      show spec_PlacesFor.l0 (k + 1) n p go _ _ _ = _
      rw [spec_PlacesFor.l0, if_neg (by simp)]
    | cons p tl =>
      obtain ⟨x, wy⟩ := p
      have e1 : (pre ++ (x, wy) :: tl).map Prod.fst = pre.map Prod.fst ++ x :: tl.map Prod.fst := by simp
      have e2 : (pre ++ (x, wy) :: tl).map Prod.snd = pre.map Prod.snd ++ wy :: tl.map Prod.snd := by simp
      have l1 : ((pre.length : Nat) : Int) = ((pre.map Prod.fst).length : Int) := by simp
      have l2 : ((pre.length : Nat) : Int) = ((pre.map Prod.snd).length : Int) := by simp
      have r1 : rd ((pre ++ (x, wy) :: tl).map Prod.fst) (pre.length : Int) = x := by rw [e1, l1, mid_rd]
      have r2 : rd_L1 ((pre ++ (x, wy) :: tl).map Prod.snd) (pre.length : Int) = wy := by rw [e2, l2, mid_rdLM]
      have q1 : (pre.length : Int) < (((pre ++ (x, wy) :: tl).map Prod.fst).length : Int) := by rw [e1, l1]; exact mid_lt _ _ _
      have q2 : (pre.length : Int) < (((pre ++ (x, wy) :: tl).map Prod.snd).length : Int) := by rw [e2, l2]; exact mid_lt _ _ _
      simp only at h
      split at h
      · rename_i hx
        split at h
        · rename_i hl
          obtain rfl := Option.some.inj h
          refine Ev.step (f := fun _ => some (wy, true)) (fun k => ?_) (Ev.now _)
          show spec_PlacesFor.l0 (k + 1) n p go _ _ _ = _
          rw [spec_PlacesFor.l0, if_pos q1, if_pos (nn _), r1, if_pos hx, Option.bind_some, if_pos q2, r2, if_pos (by simp; omega)]
          rfl
        · cases h
      · rename_i hx
        split at h
        · rename_i hr
          obtain ⟨v, hv, h⟩ := Option.bind_eq_some_iff.mp h
          obtain ⟨rest', rfl⟩ := addC_drop (seqFrom 0 c.toNat) (pre ++ [(x, wy)]) tl v (by simpa using hv)
          have hlen : rest'.length < 200 := by
            have := addC_len (seqFrom 0 c.toNat) _ _ hv (by simp at hrl ⊢; omega)
            simp only [List.length_append, List.length_cons, List.length_nil] at this hrl
            omega
          have h3 := ih (pre ++ [(x, wy)]) rest' r hlen (by simpa using h)
          refine Ev.step (fun k => ?_) (pf_l1 n p go st c hc hc1 x wy pre (by omega) (fun ch => hs x ch hr.1 hr.2.1) r c.toNat 0 tl _ (by omega) (by omega) (by simp at hrl; omega) hv (by rw [w64_nat pre.length (by omega)]; simpa using h3))
          show spec_PlacesFor.l0 (k + 1) n p go _ _ _ = _
          rw [spec_PlacesFor.l0, if_pos q1, if_pos (nn _), r1, if_neg hx]
        · cases h
end
end Go.Proofs.Ytbeehklibkeecaa.F
end
section
/- The length of all lists together. -/
namespace Go.Proofs.Ytbeehklibkeecaa.F
open Go.RowKit Go.Proofs.YtbeehklibkeecaaW.PrintWords Go.Proofs.YtbeehklibkeecaaW.PrintLast Go.Proofs.YtbeehklibkeecaaW.PrintMore
set_option linter.unusedVariables false
set_option linter.unusedSimpArgs false
def total (l : List (List Int)) : Nat := (l.map List.length).sum
end Go.Proofs.Ytbeehklibkeecaa.F
end
section
/- The piles of a packet that is dealt: every size and every number of piles by itself. -/
namespace Go.Proofs.Ytbeehklibkeecaa.F
open Go.RowKit Go.Proofs.YtbeehklibkeecaaW.PrintWords Go.Proofs.YtbeehklibkeecaaW.PrintLast Go.Proofs.YtbeehklibkeecaaW.PrintMore
set_option linter.unusedVariables false
set_option linter.unusedSimpArgs false
def dealtR (x : List Int) (p : Int) (r : List (List Int)) : Prop := (∀ k, spec_l14Piles.f (k + 60) x p = some r) ∧ (∀ k, impl_PilesOf.j0 (k + 60) x p false = some r) ∧ r.length ≤ 12 ∧ (∀ y ∈ r, y.length ≤ 12) ∧ total r ≤ 12
theorem deal_2_2 (x0 x1 : Int) : dealtR [x0, x1] 2 [[x0], [x1]] := by
  refine ⟨fun k => by kernel_rfl, fun k => by kernel_rfl, by simp, ?_, by simp [total]⟩
  intro y hy
  simp only [List.mem_cons, List.not_mem_nil, or_false] at hy
  rcases hy with rfl | rfl <;> simp
theorem deal_4_2 (x0 x1 x2 x3 : Int) : dealtR [x0, x1, x2, x3] 2 [[x2, x0], [x3, x1]] := by
  refine ⟨fun k => by kernel_rfl, fun k => by kernel_rfl, by simp, ?_, by simp [total]⟩
  intro y hy
  simp only [List.mem_cons, List.not_mem_nil, or_false] at hy
  rcases hy with rfl | rfl <;> simp
theorem deal_6_2 (x0 x1 x2 x3 x4 x5 : Int) : dealtR [x0, x1, x2, x3, x4, x5] 2 [[x4, x2, x0], [x5, x3, x1]] := by
  refine ⟨fun k => by kernel_rfl, fun k => by kernel_rfl, by simp, ?_, by simp [total]⟩
  intro y hy
  simp only [List.mem_cons, List.not_mem_nil, or_false] at hy
  rcases hy with rfl | rfl <;> simp
theorem deal_8_2 (x0 x1 x2 x3 x4 x5 x6 x7 : Int) : dealtR [x0, x1, x2, x3, x4, x5, x6, x7] 2 [[x6, x4, x2, x0], [x7, x5, x3, x1]] := by
  refine ⟨fun k => by kernel_rfl, fun k => by kernel_rfl, by simp, ?_, by simp [total]⟩
  intro y hy
  simp only [List.mem_cons, List.not_mem_nil, or_false] at hy
  rcases hy with rfl | rfl <;> simp
theorem deal_10_2 (x0 x1 x2 x3 x4 x5 x6 x7 x8 x9 : Int) : dealtR [x0, x1, x2, x3, x4, x5, x6, x7, x8, x9] 2 [[x8, x6, x4, x2, x0], [x9, x7, x5, x3, x1]] := by
  refine ⟨fun k => by kernel_rfl, fun k => by kernel_rfl, by simp, ?_, by simp [total]⟩
  intro y hy
  simp only [List.mem_cons, List.not_mem_nil, or_false] at hy
  rcases hy with rfl | rfl <;> simp
theorem deal_12_2 (x0 x1 x2 x3 x4 x5 x6 x7 x8 x9 x10 x11 : Int) : dealtR [x0, x1, x2, x3, x4, x5, x6, x7, x8, x9, x10, x11] 2 [[x10, x8, x6, x4, x2, x0], [x11, x9, x7, x5, x3, x1]] := by
  refine ⟨fun k => by kernel_rfl, fun k => by kernel_rfl, by simp, ?_, by simp [total]⟩
  intro y hy
  simp only [List.mem_cons, List.not_mem_nil, or_false] at hy
  rcases hy with rfl | rfl <;> simp
theorem deal_3_3 (x0 x1 x2 : Int) : dealtR [x0, x1, x2] 3 [[x0], [x1], [x2]] := by
  refine ⟨fun k => by kernel_rfl, fun k => by kernel_rfl, by simp, ?_, by simp [total]⟩
  intro y hy
  simp only [List.mem_cons, List.not_mem_nil, or_false] at hy
  rcases hy with rfl | rfl | rfl <;> simp
theorem deal_6_3 (x0 x1 x2 x3 x4 x5 : Int) : dealtR [x0, x1, x2, x3, x4, x5] 3 [[x3, x0], [x4, x1], [x5, x2]] := by
  refine ⟨fun k => by kernel_rfl, fun k => by kernel_rfl, by simp, ?_, by simp [total]⟩
  intro y hy
  simp only [List.mem_cons, List.not_mem_nil, or_false] at hy
  rcases hy with rfl | rfl | rfl <;> simp
theorem deal_9_3 (x0 x1 x2 x3 x4 x5 x6 x7 x8 : Int) : dealtR [x0, x1, x2, x3, x4, x5, x6, x7, x8] 3 [[x6, x3, x0], [x7, x4, x1], [x8, x5, x2]] := by
  refine ⟨fun k => by kernel_rfl, fun k => by kernel_rfl, by simp, ?_, by simp [total]⟩
  intro y hy
  simp only [List.mem_cons, List.not_mem_nil, or_false] at hy
  rcases hy with rfl | rfl | rfl <;> simp
theorem deal_12_3 (x0 x1 x2 x3 x4 x5 x6 x7 x8 x9 x10 x11 : Int) : dealtR [x0, x1, x2, x3, x4, x5, x6, x7, x8, x9, x10, x11] 3 [[x9, x6, x3, x0], [x10, x7, x4, x1], [x11, x8, x5, x2]] := by
  refine ⟨fun k => by kernel_rfl, fun k => by kernel_rfl, by simp, ?_, by simp [total]⟩
  intro y hy
  simp only [List.mem_cons, List.not_mem_nil, or_false] at hy
  rcases hy with rfl | rfl | rfl <;> simp
theorem deal_4_4 (x0 x1 x2 x3 : Int) : dealtR [x0, x1, x2, x3] 4 [[x0], [x1], [x2], [x3]] := by
  refine ⟨fun k => by kernel_rfl, fun k => by kernel_rfl, by simp, ?_, by simp [total]⟩
  intro y hy
  simp only [List.mem_cons, List.not_mem_nil, or_false] at hy
  rcases hy with rfl | rfl | rfl | rfl <;> simp
theorem deal_8_4 (x0 x1 x2 x3 x4 x5 x6 x7 : Int) : dealtR [x0, x1, x2, x3, x4, x5, x6, x7] 4 [[x4, x0], [x5, x1], [x6, x2], [x7, x3]] := by
  refine ⟨fun k => by kernel_rfl, fun k => by kernel_rfl, by simp, ?_, by simp [total]⟩
  intro y hy
  simp only [List.mem_cons, List.not_mem_nil, or_false] at hy
  rcases hy with rfl | rfl | rfl | rfl <;> simp
theorem deal_12_4 (x0 x1 x2 x3 x4 x5 x6 x7 x8 x9 x10 x11 : Int) : dealtR [x0, x1, x2, x3, x4, x5, x6, x7, x8, x9, x10, x11] 4 [[x8, x4, x0], [x9, x5, x1], [x10, x6, x2], [x11, x7, x3]] := by
  refine ⟨fun k => by kernel_rfl, fun k => by kernel_rfl, by simp, ?_, by simp [total]⟩
  intro y hy
  simp only [List.mem_cons, List.not_mem_nil, or_false] at hy
  rcases hy with rfl | rfl | rfl | rfl <;> simp
theorem len_2 (l : List Int) (h : l.length = 2) : ∃ x0 x1, l = [x0, x1] := by
  match l, h with
  | [x0, x1], _ => exact ⟨x0, x1, rfl⟩
theorem len_3 (l : List Int) (h : l.length = 3) : ∃ x0 x1 x2, l = [x0, x1, x2] := by
  match l, h with
  | [x0, x1, x2], _ => exact ⟨x0, x1, x2, rfl⟩
theorem len_4 (l : List Int) (h : l.length = 4) : ∃ x0 x1 x2 x3, l = [x0, x1, x2, x3] := by
  match l, h with
  | [x0, x1, x2, x3], _ => exact ⟨x0, x1, x2, x3, rfl⟩
theorem len_6 (l : List Int) (h : l.length = 6) : ∃ x0 x1 x2 x3 x4 x5, l = [x0, x1, x2, x3, x4, x5] := by
  match l, h with
  | [x0, x1, x2, x3, x4, x5], _ => exact ⟨x0, x1, x2, x3, x4, x5, rfl⟩
theorem len_8 (l : List Int) (h : l.length = 8) : ∃ x0 x1 x2 x3 x4 x5 x6 x7, l = [x0, x1, x2, x3, x4, x5, x6, x7] := by
  match l, h with
  | [x0, x1, x2, x3, x4, x5, x6, x7], _ => exact ⟨x0, x1, x2, x3, x4, x5, x6, x7, rfl⟩
theorem len_9 (l : List Int) (h : l.length = 9) : ∃ x0 x1 x2 x3 x4 x5 x6 x7 x8, l = [x0, x1, x2, x3, x4, x5, x6, x7, x8] := by
  match l, h with
  | [x0, x1, x2, x3, x4, x5, x6, x7, x8], _ => exact ⟨x0, x1, x2, x3, x4, x5, x6, x7, x8, rfl⟩
theorem len_10 (l : List Int) (h : l.length = 10) : ∃ x0 x1 x2 x3 x4 x5 x6 x7 x8 x9, l = [x0, x1, x2, x3, x4, x5, x6, x7, x8, x9] := by
  match l, h with
  | [x0, x1, x2, x3, x4, x5, x6, x7, x8, x9], _ => exact ⟨x0, x1, x2, x3, x4, x5, x6, x7, x8, x9, rfl⟩
theorem len_12 (l : List Int) (h : l.length = 12) : ∃ x0 x1 x2 x3 x4 x5 x6 x7 x8 x9 x10 x11, l = [x0, x1, x2, x3, x4, x5, x6, x7, x8, x9, x10, x11] := by
  match l, h with
  | [x0, x1, x2, x3, x4, x5, x6, x7, x8, x9, x10, x11], _ => exact ⟨x0, x1, x2, x3, x4, x5, x6, x7, x8, x9, x10, x11, rfl⟩
def pilesB (n p : Int) : Bool := decide (2 ≤ p ∧ p ≤ 4 ∧ p ≤ n ∧ n ≤ 12) && (n.tmod p == 0)
theorem spec_PilesOk_eq (n p : Int) : spec_PilesOk.f n p = some (pilesB n p) := by
  unfold spec_PilesOk.f pilesB
  simp only [l01In_eq, Option.bind_some, decide_eq_true_eq]
  by_cases h1 : 2 ≤ p ∧ p ≤ 4
  · have h3 : ¬ p = 0 := by omega
    by_cases h2 : p ≤ n ∧ n ≤ 12
    · have h4 : 2 ≤ p ∧ p ≤ 4 ∧ p ≤ n ∧ n ≤ 12 := by omega
      simp [h1, h2, h3]
    · have h4 : ¬ (2 ≤ p ∧ p ≤ 4 ∧ p ≤ n ∧ n ≤ 12) := by omega
      simp [h1, h2, h4, and_self, if_true, if_false, decide_false, Bool.false_and]
  · have h4 : ¬ (2 ≤ p ∧ p ≤ 4 ∧ p ≤ n ∧ n ≤ 12) := by omega
    simp only [h1, h4, if_false, decide_false, Bool.false_and]
theorem impl_PilesOk_eq (n p : Int) : impl_PilesOk.f n p = some (pilesB n p) := by
  unfold impl_PilesOk.f pilesB
  by_cases h1 : p ≥ 2
  · have h3 : ¬ p = 0 := by omega
    by_cases h2 : p ≤ 4
    · by_cases h4 : n ≥ p
      · by_cases h5 : n ≤ 12
        · have h6 : 2 ≤ p ∧ p ≤ 4 ∧ p ≤ n ∧ n ≤ 12 := by omega
          simp [h1, h2, h3, h4, h5, h6, if_true, if_false, and_self, decide_true, Bool.true_and]
        · have h6 : ¬ (2 ≤ p ∧ p ≤ 4 ∧ p ≤ n ∧ n ≤ 12) := by omega
          simp [h1, h2, h4, h5, h6, if_true, if_false, decide_false, Bool.false_and]
      · have h6 : ¬ (2 ≤ p ∧ p ≤ 4 ∧ p ≤ n ∧ n ≤ 12) := by omega
        simp [h1, h2, h4, h6, if_true, if_false, decide_false, Bool.false_and]
    · have h6 : ¬ (2 ≤ p ∧ p ≤ 4 ∧ p ≤ n ∧ n ≤ 12) := by omega
      simp [h1, h2, h6, if_true, if_false, decide_false, Bool.false_and]
  · have h6 : ¬ (2 ≤ p ∧ p ≤ 4 ∧ p ≤ n ∧ n ≤ 12) := by omega
    simp [h1, h6, if_false, decide_false, Bool.false_and]
end Go.Proofs.Ytbeehklibkeecaa.F
end
section
/- Lists put together, and lists in reverse order. -/
namespace Go.Proofs.Ytbeehklibkeecaa.F
open Go.RowKit Go.Proofs.YtbeehklibkeecaaW.PrintWords Go.Proofs.YtbeehklibkeecaaW.PrintLast Go.Proofs.YtbeehklibkeecaaW.PrintMore
set_option linter.unusedVariables false
set_option linter.unusedSimpArgs false
def lens (l : List (List Int)) : Nat := (l.map List.length).sum
theorem lens_cons (x : List Int) (l : List (List Int)) : lens (x :: l) = x.length + lens l := by simp [lens]
theorem mid_rdLL (pre : List (List Int)) (x : List Int) (rest : List (List Int)) : rd_L1 (pre ++ x :: rest) (pre.length : Int) = x := by
  unfold rd_L1
  simp
theorem concat_l1 (rest : List (List Int)) : ∀ (pre : List (List Int)) (acc : List Int), (pre ++ rest).length ≤ 4611686018427387904 → acc.length + lens rest < 17592186044416 →
    Ev (fun k => slices_Concat_Lint_int.l1 k acc (pre ++ rest) ((pre ++ rest).length : Int) (pre.length : Int)) (acc ++ rest.flatten) := by
  induction rest with
  | nil =>
    intro pre acc hb hl
    rw [show acc ++ ([] : List (List Int)).flatten = acc by simp]
    refine Ev.step (f := fun _ => some acc) (fun k => ?_) (Ev.now _)
    show slices_Concat_Lint_int.l1 (k + 1) _ _ _ _ = _
    rw [slices_Concat_Lint_int.l1, if_neg (mid_nlt _)]
  | cons x rest ih =>
    intro pre acc hb hl
    rw [lens_cons] at hl
    have h := ih (pre ++ [x]) (acc ++ x) (by simpa using hb) (by rw [List.length_append]; omega)
    rw [← mid_cons, ← mid_succ pre x (by simp at hb; omega)] at h
    rw [show acc ++ (x :: rest).flatten = acc ++ x ++ rest.flatten by simp]
    refine Ev.step (fun k => ?_) h
    show slices_Concat_Lint_int.l1 (k + 1) _ _ _ _ = _
    rw [slices_Concat_Lint_int.l1, if_pos (mid_lt _ _ _), if_pos (nn _), if_pos (mid_lt _ _ _), mid_rdLL, if_pos (by omega)]
theorem concat_l0 (X : List (List Int)) (hX : X.length ≤ 4611686018427387904) (hl : lens X < 17592186044416) (rest : List (List Int)) : ∀ (pre : List (List Int)) (s : Nat), (pre ++ rest).length ≤ 4611686018427387904 → s + lens rest < 17592186044416 →
    Ev (fun k => slices_Concat_Lint_int.l0 k X (s : Int) (pre ++ rest) ((pre ++ rest).length : Int) (pre.length : Int)) X.flatten := by
  induction rest with
  | nil =>
    intro pre s hb hs
    have h := concat_l1 X [] [] hX (by simpa using hl)
    have hg : slices_Grow_Lint_int__nil.f (s : Int) = some [] := by
      unfold slices_Grow_Lint_int__nil.f
      rw [if_pos (nn _), if_pos (by omega)]
    refine Ev.step (fun k => ?_) h
    show slices_Concat_Lint_int.l0 (k + 1) _ _ _ _ _ = _
    rw [slices_Concat_Lint_int.l0, if_neg (mid_nlt _), hg]
    rfl
  | cons x rest ih =>
    intro pre s hb hs
    rw [lens_cons] at hs
    have h := ih (pre ++ [x]) (s + x.length) (by simpa using hb) (by omega)
    rw [← mid_cons, ← mid_succ pre x (by simp at hb; omega)] at h
    have hw : wrap64 ((s : Int) + (x.length : Int)) = ((s + x.length : Nat) : Int) := by rw [w64_id (by omega) (by omega)]; omega
    refine Ev.step (fun k => ?_) h
    show slices_Concat_Lint_int.l0 (k + 1) _ _ _ _ _ = _
    rw [slices_Concat_Lint_int.l0, if_pos (mid_lt _ _ _), if_pos (nn _), if_pos (mid_lt _ _ _), mid_rdLL, hw, if_neg (by omega)]
theorem concat_ev (X : List (List Int)) (hX : X.length ≤ 4611686018427387904) (hl : lens X < 17592186044416) : Ev (fun k => slices_Concat_Lint_int.f k X) X.flatten := concat_l0 X hX hl X [] 0 hX (by omega)
end Go.Proofs.Ytbeehklibkeecaa.F
end
