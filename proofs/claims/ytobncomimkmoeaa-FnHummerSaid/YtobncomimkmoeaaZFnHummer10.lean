import Derived.Test.YtobncomimkmoeaaZFnHummer4
import Derived.Test.YtobncomimkmoeaaZFnHummer5
import Derived.Test.YtobncomimkmoeaaZFnHummer6
import Derived.Test.YtobncomimkmoeaaZFnHummer7
import Derived.Test.YtobncomimkmoeaaZFnHummer8
import Derived.Test.YtobncomimkmoeaaZFnHummer9
section
/- Cards, and when a list is a packet: the program's and the reference's functions tell one thing. -/
namespace Go.Proofs.Ytobncomimkmoeaa.F
open Go.RowKit Go.Proofs.YtobncomimkmoeaaW.PrintWords Go.Proofs.YtobncomimkmoeaaW.PrintLast Go.Proofs.YtobncomimkmoeaaW.PrintMore
set_option linter.unusedVariables false
set_option linter.unusedSimpArgs false
def cardOf (x : Int) : Int := if 0 ≤ x ∧ x ≤ 11 then x else if -12 ≤ x ∧ x ≤ -1 then -1 - x else -1
theorem cardOf_lt (x : Int) : cardOf x < 12 := by
  unfold cardOf
  repeat' split
  all_goals omega
theorem impl_CardOf_eq (x : Int) (h0 : -9223372036854775808 ≤ x) : impl_CardOf.f x = some (cardOf x) := by
  unfold impl_CardOf.f cardOf
  by_cases h : x < 0
  · have e : wrap64 (-1 - x) = -1 - x := w64_id (by omega) (by omega)
    simp only [if_pos h, e]
    by_cases k : -1 - x ≥ 12
    · rw [if_pos k, if_neg (by omega), if_neg (by omega)]
    · rw [if_neg k, if_neg (by omega), if_pos (by omega)]
  · simp only [if_neg h]
    by_cases k : x ≥ 12
    · rw [if_pos k, if_neg (by omega), if_neg (by omega)]
    · rw [if_neg k, if_pos (by omega)]
/-- Is a list a packet: the cards met so far are told by twelve bools. -/
def packetM : List Bool → List Int → Bool
  | _, [] => true
  | met, x :: xs => if cardOf x < 0 then false else if met.getD (cardOf x).toNat false = true then false else packetM (met.set (cardOf x).toNat true) xs
def packetB (l : List Int) : Bool := packetM (List.replicate 12 false) l
theorem impl_PacketOk_at (rest : List Int) : ∀ (pre : List Int) (met : List Bool), (pre ++ rest).length ≤ 4611686018427387904 → (∀ x ∈ rest, -9223372036854775808 ≤ x) →
    Ev (fun k => impl_PacketOk.l0 k (pre ++ rest) met (pre.length : Int)) (packetM met rest) := by
  induction rest with
  | nil =>
    intro pre met hb hw
    exact Ev.step (f := fun _ => some true) (fun k => by rw [impl_PacketOk.l0, if_neg (mid_nlt _)]) (Ev.now _)
  | cons x rest ih =>
    intro pre met hb hw
    have hx := hw x (by simp)
    unfold packetM
    by_cases c : cardOf x < 0
    · rw [if_pos c]
      exact Ev.step (f := fun _ => some false) (fun k => by rw [impl_PacketOk.l0, if_pos (mid_lt _ _ _), if_pos (nn _), mid_rd, impl_CardOf_eq x hx]; simp only [Option.bind_some]; rw [if_pos c]) (Ev.now _)
    · rw [if_neg c]
      by_cases m : met.getD (cardOf x).toNat false = true
      · rw [if_pos m]
        exact Ev.step (f := fun _ => some false) (fun k => by rw [impl_PacketOk.l0, if_pos (mid_lt _ _ _), if_pos (nn _), mid_rd, impl_CardOf_eq x hx]; simp only [Option.bind_some]; rw [if_neg c, if_pos (cardOf_lt x), if_pos m]) (Ev.now _)
      · rw [if_neg m]
        have h := ih (pre ++ [x]) (met.set (cardOf x).toNat true) (by simpa using hb) (fun y hy => hw y (by simp [hy]))
        rw [← mid_cons] at h
        exact Ev.step (fun k => by rw [impl_PacketOk.l0, if_pos (mid_lt _ _ _), if_pos (nn _), mid_rd, impl_CardOf_eq x hx]; simp only [Option.bind_some]; rw [if_neg c, if_pos (cardOf_lt x), if_neg m, mid_succ pre x (by simp at hb; omega)]) h
theorem impl_PacketOk_ev (l : List Int) (hb : l.length ≤ 4611686018427387904) (hw : ∀ x ∈ l, -9223372036854775808 ≤ x) : Ev (fun k => impl_PacketOk.f k l) (packetB l) := impl_PacketOk_at l [] _ hb hw
theorem count_set (l : List Bool) : ∀ i, i < l.length → l.getD i false ≠ true → (l.set i true).count true = l.count true + 1 := by
  induction l with
  | nil => intro i h; simp at h
  | cons b l ih =>
    intro i h hb
    cases i with
    | zero =>
      cases b with
      | true => simp at hb
      | false => simp
    | succ i =>
      have := ih i (by simpa using h) (by simpa using hb)
      simp only [List.set_cons_succ, List.count_cons]
      omega
theorem packetM_len (xs : List Int) : ∀ met : List Bool, met.length = 12 → packetM met xs = true → met.count true + xs.length ≤ 12 := by
  induction xs with
  | nil =>
    intro met hl _
    have := List.count_le_length (a := true) (l := met)
    simp; omega
  | cons x xs ih =>
    intro met hl h
    unfold packetM at h
    by_cases c : cardOf x < 0
    · rw [if_pos c] at h; cases h
    · rw [if_neg c] at h
      by_cases m : met.getD (cardOf x).toNat false = true
      · rw [if_pos m] at h; cases h
      · rw [if_neg m] at h
        have h1 := ih _ (by simpa using hl) h
        have := cardOf_lt x
        rw [count_set met _ (by omega) m] at h1
        simp; omega
theorem packetB_len {l : List Int} (h : packetB l = true) : l.length ≤ 12 := by
  have := packetM_len l _ (by simp) h
  simp at this
  omega
theorem set_getD (met : List Bool) (i j : Nat) (hi : i < met.length) : (met.set i true).getD j false = (decide (j = i) || met.getD j false) := by
  by_cases e : j = i
  · subst e
    simp [List.getD_eq_getElem?_getD, hi]
  · have e' : ¬ i = j := fun h => e h.symm
    simp [List.getD_eq_getElem?_getD, List.getElem?_set, e, e']
theorem packetM_cards (xs : List Int) : ∀ met : List Bool, packetM met xs = true → ∀ x ∈ xs, 0 ≤ cardOf x := by
  induction xs with
  | nil => intro met _ x hx; cases hx
  | cons y xs ih =>
    intro met h x hx
    unfold packetM at h
    by_cases c : cardOf y < 0
    · rw [if_pos c] at h; cases h
    · rw [if_neg c] at h
      by_cases m : met.getD (cardOf y).toNat false = true
      · rw [if_pos m] at h; cases h
      · rw [if_neg m] at h
        rcases List.mem_cons.1 hx with rfl | hx
        · omega
        · exact ih _ h x hx
theorem packetB_card {l : List Int} (h : packetB l = true) : ∀ x ∈ l, 0 ≤ cardOf x := packetM_cards l _ h
end Go.Proofs.Ytobncomimkmoeaa.F
end
section
/- Cards turned over: the program's function. -/
namespace Go.Proofs.Ytobncomimkmoeaa.F
open Go.RowKit Go.Proofs.YtobncomimkmoeaaW.PrintWords Go.Proofs.YtobncomimkmoeaaW.PrintLast Go.Proofs.YtobncomimkmoeaaW.PrintMore
set_option linter.unusedVariables false
set_option linter.unusedSimpArgs false
def turnC (x : Int) : Int := if cardOf x < 0 then x else -1 - x
theorem card_small {x : Int} (h : 0 ≤ cardOf x) : -12 ≤ x ∧ x ≤ 11 := by
  unfold cardOf at h
  by_cases c : 0 ≤ x ∧ x ≤ 11
  · omega
  · rw [if_neg c] at h
    by_cases d : -12 ≤ x ∧ x ≤ -1
    · omega
    · rw [if_neg d] at h; omega
theorem impl_turn (x : Int) (h : -9223372036854775808 ≤ x) : impl_TurnCard.f x = some (turnC x) := by
  unfold impl_TurnCard.f turnC
  rw [impl_CardOf_eq x h]
  simp only [Option.bind_some]
  by_cases c : cardOf x < 0
  · rw [if_pos c, if_pos c]
  · have := card_small (x := x) (by omega)
    rw [if_neg c, if_neg c, w64_id (by omega) (by omega)]
end Go.Proofs.Ytobncomimkmoeaa.F
end
section
/- Lists put together, and lists in reverse order. -/
namespace Go.Proofs.Ytobncomimkmoeaa.F
open Go.RowKit Go.Proofs.YtobncomimkmoeaaW.PrintWords Go.Proofs.YtobncomimkmoeaaW.PrintLast Go.Proofs.YtobncomimkmoeaaW.PrintMore
set_option linter.unusedVariables false
set_option linter.unusedSimpArgs false
def lens (l : List (List Int)) : Nat := (l.map List.length).sum
theorem lens_cons (x : List Int) (l : List (List Int)) : lens (x :: l) = x.length + lens l := by simp [lens]
theorem mid_rdLL (pre : List (List Int)) (x : List Int) (rest : List (List Int)) : rd_L1 (pre ++ x :: rest) (pre.length : Int) = x := by
  unfold rd_L1
  simp
theorem concat_l1 (rest : List (List Int)) : ∀ (pre : List (List Int)) (acc : List Int), (pre ++ rest).length ≤ 4611686018427387904 → acc.length + lens rest < 17592186044416 →
    Ev (fun k => slices_Concat_Lint_int.l1 k acc (pre ++ rest) ((pre ++ rest).length : Int) (pre.length : Int)) (acc ++ rest.flatten) := by
  induction rest with
  | nil =>
    intro pre acc hb hl
    rw [show acc ++ ([] : List (List Int)).flatten = acc by simp]
    refine Ev.step (f := fun _ => some acc) (fun k => ?_) (Ev.now _)
    show slices_Concat_Lint_int.l1 (k + 1) _ _ _ _ = _
    rw [slices_Concat_Lint_int.l1, if_neg (mid_nlt _)]
  | cons x rest ih =>
    intro pre acc hb hl
    rw [lens_cons] at hl
    have h := ih (pre ++ [x]) (acc ++ x) (by simpa using hb) (by rw [List.length_append]; omega)
    rw [← mid_cons, ← mid_succ pre x (by simp at hb; omega)] at h
    rw [show acc ++ (x :: rest).flatten = acc ++ x ++ rest.flatten by simp]
    refine Ev.step (fun k => ?_) h
    show slices_Concat_Lint_int.l1 (k + 1) _ _ _ _ = _
    rw [slices_Concat_Lint_int.l1, if_pos (mid_lt _ _ _), if_pos (nn _), if_pos (mid_lt _ _ _), mid_rdLL, if_pos (by omega)]
theorem concat_l0 (X : List (List Int)) (hX : X.length ≤ 4611686018427387904) (hl : lens X < 17592186044416) (rest : List (List Int)) : ∀ (pre : List (List Int)) (s : Nat), (pre ++ rest).length ≤ 4611686018427387904 → s + lens rest < 17592186044416 →
    Ev (fun k => slices_Concat_Lint_int.l0 k X (s : Int) (pre ++ rest) ((pre ++ rest).length : Int) (pre.length : Int)) X.flatten := by
  induction rest with
  | nil =>
    intro pre s hb hs
    have h := concat_l1 X [] [] hX (by simpa using hl)
    have hg : slices_Grow_Lint_int__nil.f (s : Int) = some [] := by
      unfold slices_Grow_Lint_int__nil.f
      rw [if_pos (nn _), if_pos (by omega)]
    refine Ev.step (fun k => ?_) h
    show slices_Concat_Lint_int.l0 (k + 1) _ _ _ _ _ = _
    rw [slices_Concat_Lint_int.l0, if_neg (mid_nlt _), hg]
    rfl
  | cons x rest ih =>
    intro pre s hb hs
    rw [lens_cons] at hs
    have h := ih (pre ++ [x]) (s + x.length) (by simpa using hb) (by omega)
    rw [← mid_cons, ← mid_succ pre x (by simp at hb; omega)] at h
    have hw : wrap64 ((s : Int) + (x.length : Int)) = ((s + x.length : Nat) : Int) := by rw [w64_id (by omega) (by omega)]; omega
    refine Ev.step (fun k => ?_) h
    show slices_Concat_Lint_int.l0 (k + 1) _ _ _ _ _ = _
    rw [slices_Concat_Lint_int.l0, if_pos (mid_lt _ _ _), if_pos (nn _), if_pos (mid_lt _ _ _), mid_rdLL, hw, if_neg (by omega)]
theorem concat_ev (X : List (List Int)) (hX : X.length ≤ 4611686018427387904) (hl : lens X < 17592186044416) : Ev (fun k => slices_Concat_Lint_int.f k X) X.flatten := concat_l0 X hX hl X [] 0 hX (by omega)
theorem clone_ev (l : List Int) (hl : l.length < 17592186044416) : slices_Clone_Lint_int.f l = some l := by
  unfold slices_Clone_Lint_int.f
  rw [if_pos hl]
theorem rev_at (n : Nat) : ∀ (a mid b : List Int), mid.length ≤ n → (a ++ mid ++ b).length ≤ 4611686018427387904 → 
    Ev (fun k => slices_Reverse_Lint_int.l0 k (a ++ mid ++ b) (a.length : Int) ((a.length : Int) + (mid.length : Int) - 1)) (a ++ mid.reverse ++ b) := by
  induction n using Nat.strongRecOn with
  | ind n ih =>
    intro a mid b hn hb
    have hend : mid.length ≤ 1 → Ev (fun k => slices_Reverse_Lint_int.l0 k (a ++ mid ++ b) (a.length : Int) ((a.length : Int) + (mid.length : Int) - 1)) (a ++ mid.reverse ++ b) := by
      intro h1
      have e : mid.reverse = mid := by
        match mid, h1 with
        | [], _ => rfl
        | [x], _ => rfl
      rw [e]
      refine Ev.step (f := fun _ => some (a ++ mid ++ b)) (fun k => ?_) (Ev.now _)
      show slices_Reverse_Lint_int.l0 (k + 1) _ _ _ = _
      rw [slices_Reverse_Lint_int.l0, if_neg (by omega)]
    by_cases h1 : mid.length ≤ 1
    · exact hend h1
    · obtain ⟨x, t, rfl⟩ : ∃ x t, mid = x :: t := by
        cases mid with
        | nil => simp at h1
        | cons x t => exact ⟨x, t, rfl⟩
      rcases List.eq_nil_or_concat t with rfl | ⟨m, y, rfl⟩
      · simp at h1
      · rw [List.concat_eq_append] at *
        simp only [List.length_cons, List.length_append, List.length_nil] at hn h1 hb
        have h := ih m.length (by omega) (a ++ [y]) m ([x] ++ b) (Nat.le_refl _) (by simp; omega)
        have e1 : a ++ x :: (m ++ [y]) ++ b = a ++ x :: (m ++ y :: b) := by simp
        have e2 : a ++ x :: (m ++ y :: b) = (a ++ x :: m) ++ y :: b := by simp
        have r1 : rd (a ++ x :: (m ++ y :: b)) (a.length : Int) = x := mid_rd _ _ _
        have r2 : rd (a ++ x :: (m ++ y :: b)) ((a.length : Int) + ((m.length + 1 + 1 : Nat) : Int) - 1) = y := by
          rw [e2, show (a.length : Int) + ((m.length + 1 + 1 : Nat) : Int) - 1 = ((a ++ x :: m).length : Int) by simp; omega]
          exact mid_rd _ _ _
        have s1 : (a ++ x :: (m ++ y :: b)).set ((a.length : Int)).toNat y = (a ++ [y] ++ m) ++ y :: b := by
          rw [mid_set]; simp
        have s2 : ((a ++ [y] ++ m) ++ y :: b).set ((a.length : Int) + ((m.length + 1 + 1 : Nat) : Int) - 1).toNat x = a ++ [y] ++ m ++ ([x] ++ b) := by
          rw [show ((a.length : Int) + ((m.length + 1 + 1 : Nat) : Int) - 1) = ((a ++ [y] ++ m).length : Int) by simp; omega, mid_set]
          simp
        rw [show a ++ (x :: (m ++ [y])).reverse ++ b = a ++ [y] ++ m.reverse ++ ([x] ++ b) by simp]
        rw [e1, show (x :: (m ++ [y])).length = m.length + 1 + 1 by simp]
        refine Ev.step (fun k => ?_) h
        show slices_Reverse_Lint_int.l0 (k + 1) _ _ _ = _
        have hlen : ((a ++ x :: (m ++ y :: b)).length : Int) = (a.length : Int) + (m.length : Int) + 2 + (b.length : Int) := by simp; omega
        rw [slices_Reverse_Lint_int.l0, if_pos (by omega), if_pos (by omega), if_pos (by omega), if_pos (by omega), if_pos (by omega), r1, r2, s1, s2]
        rw [w64_id (by omega) (by omega), w64_id (by omega) (by omega)]
        congr 1
        · simp
        · simp; omega
theorem rev_ev (l : List Int) (hb : l.length ≤ 4611686018427387904) : Ev (fun k => slices_Reverse_Lint_int.f k l) l.reverse := by
  have h := rev_at l.length [] l [] (Nat.le_refl _) (by simpa using hb)
  unfold slices_Reverse_Lint_int.f
  rw [w64_id (by omega) (by omega)]
  simpa using h
theorem reversed_ev (l : List Int) (hb : l.length < 17592186044416) : Ev (fun k => impl_reversed.f k l) l.reverse := by
  unfold impl_reversed.f
  rw [clone_ev l hb]
  exact Ev.bind (a := l) (Ev.now l) (Ev.bind (rev_ev l (by omega)) (Ev.now _))
end Go.Proofs.Ytobncomimkmoeaa.F
end
section
/- Moves of the program, kind by kind: cut, deal, flip, turn, under. -/
namespace Go.Proofs.Ytobncomimkmoeaa.F
open Go.RowKit Go.Proofs.YtobncomimkmoeaaW.PrintWords Go.Proofs.YtobncomimkmoeaaW.PrintLast Go.Proofs.YtobncomimkmoeaaW.PrintMore
set_option linter.unusedVariables false
set_option linter.unusedSimpArgs false
theorem cut_ev (l : List Int) (k : Int) (hb : l.length ≤ 1048576) (h0 : 0 ≤ k) (h1 : k ≤ (l.length : Int)) : Ev (fun n => impl_moved.f n l 1 k) (l.drop k.toNat ++ l.take k.toNat) := by
  unfold impl_moved.f
  simp only [if_true, if_pos h0, if_pos h1]
  have h := concat_ev [l.drop k.toNat, l.take k.toNat] (by simp) (by simp [lens]; omega)
  rw [show [l.drop k.toNat, l.take k.toNat].flatten = l.drop k.toNat ++ l.take k.toNat by simp] at h
  exact Ev.bind h (Ev.now _)
theorem flip_at (rest : List Int) : ∀ (pre b : List Int), (pre ++ rest ++ b).length ≤ 1048576 → (∀ x ∈ rest, -9223372036854775808 ≤ x) →
    Ev (fun n => impl_moved.l0 n (((pre ++ rest).length : Nat) : Int) (pre ++ rest ++ b) (pre.length : Int)) (pre ++ rest.map turnC ++ b) := by
  induction rest with
  | nil =>
    intro pre b hb hw
    refine Ev.step (f := fun _ => some (pre ++ [] ++ b)) (fun k => ?_) (Ev.now _)
    show impl_moved.l0 (k + 1) _ _ _ = _
    rw [impl_moved.l0, if_neg (mid_nlt _)]
  | cons x rest ih =>
    intro pre b hb hw
    have h := ih (pre ++ [turnC x]) b (by simpa using hb) (fun y hy => hw y (by simp [hy]))
    have e1 : pre ++ x :: rest ++ b = pre ++ x :: (rest ++ b) := by simp
    have hlt : (pre.length : Int) < ((pre ++ x :: (rest ++ b)).length : Int) := mid_lt _ _ _
    have hb2 : pre.length ≤ 4611686018427387904 := by simp at hb; omega
    rw [show ((pre ++ [turnC x] ++ rest).length : Nat) = (pre ++ x :: rest).length by simp, ← mid_succ pre (turnC x) hb2] at h
    rw [show pre ++ (x :: rest).map turnC ++ b = pre ++ [turnC x] ++ rest.map turnC ++ b by simp]
    refine Ev.step (fun k => ?_) h
    show impl_moved.l0 (k + 1) _ _ _ = _
    rw [impl_moved.l0, if_pos (mid_lt _ _ _), if_pos (nn _), e1, if_pos hlt, mid_rd, impl_turn x (hw x (by simp)), Option.bind_some, mid_set]
    simp
theorem flip_ev (l : List Int) (k : Int) (hb : l.length ≤ 1048576) (h0 : 0 ≤ k) (h1 : k ≤ (l.length : Int)) (hw : ∀ x ∈ l, -9223372036854775808 ≤ x) : Ev (fun n => impl_moved.f n l 3 k) ((l.take k.toNat).reverse.map turnC ++ l.drop k.toNat) := by
  unfold impl_moved.f
  simp only [if_neg (show ¬ (3 : Int) = 1 by omega), if_neg (show ¬ (3 : Int) = 2 by omega), if_true, if_pos h0, if_pos h1]
  have h := concat_ev [(l.take k.toNat).reverse, l.drop k.toNat] (by simp) (by simp [lens]; omega)
  rw [show [(l.take k.toNat).reverse, l.drop k.toNat].flatten = (l.take k.toNat).reverse ++ l.drop k.toNat by simp] at h
  refine Ev.bind (reversed_ev _ (by simp; omega)) (Ev.bind h ?_)
  have hf := flip_at (l.take k.toNat).reverse [] (l.drop k.toNat) (by simp; omega) (fun x hx => hw x (List.mem_of_mem_take (List.mem_reverse.mp hx)))
  have e : ((([] ++ (l.take k.toNat).reverse).length : Nat) : Int) = k := by simp; omega
  rw [e] at hf
  simpa using hf
end Go.Proofs.Ytobncomimkmoeaa.F
end
section
/- When a list is a packet, by its cards. -/
namespace Go.Proofs.Ytobncomimkmoeaa.F
open Go.RowKit Go.Proofs.YtobncomimkmoeaaW.PrintWords Go.Proofs.YtobncomimkmoeaaW.PrintLast Go.Proofs.YtobncomimkmoeaaW.PrintMore
set_option linter.unusedVariables false
set_option linter.unusedSimpArgs false
theorem packetM_back (xs : List Int) : ∀ met : List Bool, met.length = 12 → (∀ x ∈ xs, 0 ≤ cardOf x ∧ met.getD (cardOf x).toNat false = false) → (xs.map cardOf).Nodup → packetM met xs = true := by
  induction xs with
  | nil => intro met hm h hn; rfl
  | cons x xs ih =>
    intro met hm h hn
    have hx := h x (by simp)
    rw [List.map_cons, List.nodup_cons] at hn
    have hlt := cardOf_lt x
    unfold packetM
    rw [if_neg (by omega), hx.2, if_neg (by simp)]
    refine ih _ (by rw [List.length_set]; exact hm) (fun y hy => ?_) hn.2
    have hyy := h y (by simp [hy])
    refine ⟨hyy.1, ?_⟩
    rw [set_getD met _ _ (by omega), hyy.2, Bool.or_false]
    refine decide_eq_false (fun e => hn.1 ?_)
    have : cardOf y = cardOf x := by omega
    rw [← this]
    exact List.mem_map.mpr ⟨y, hy, rfl⟩
theorem packetM_nd (xs : List Int) : ∀ met : List Bool, met.length = 12 → packetM met xs = true → (∀ x ∈ xs, 0 ≤ cardOf x ∧ met.getD (cardOf x).toNat false = false) ∧ (xs.map cardOf).Nodup := by
  induction xs with
  | nil => intro met hm h; exact ⟨by simp, by simp⟩
  | cons x xs ih =>
    intro met hm h
    have hlt := cardOf_lt x
    unfold packetM at h
    by_cases c : cardOf x < 0
    · rw [if_pos c] at h; exact absurd h (by simp)
    · rw [if_neg c] at h
      by_cases d : met.getD (cardOf x).toNat false = true
      · rw [if_pos d] at h; exact absurd h (by simp)
      · rw [if_neg d] at h
        obtain ⟨h1, h2⟩ := ih _ (by rw [List.length_set]; exact hm) h
        have d' : met.getD (cardOf x).toNat false = false := by simpa using d
        refine ⟨fun y hy => ?_, ?_⟩
        · rcases List.mem_cons.mp hy with rfl | hy
          · exact ⟨by omega, d'⟩
          · have := h1 y hy
            rw [set_getD met _ _ (by omega), Bool.or_eq_false_iff] at this
            exact ⟨this.1, this.2.2⟩
        · rw [List.map_cons, List.nodup_cons]
          refine ⟨fun hm2 => ?_, h2⟩
          obtain ⟨y, hy, e⟩ := List.mem_map.mp hm2
          have := h1 y hy
          rw [set_getD met _ _ (by omega), Bool.or_eq_false_iff] at this
          have h3 := of_decide_eq_false this.2.1
          exact h3 (by rw [e])
theorem packetB_iff (l : List Int) : packetB l = true ↔ (∀ x ∈ l, 0 ≤ cardOf x) ∧ (l.map cardOf).Nodup := by
  constructor
  · intro h
    obtain ⟨h1, h2⟩ := packetM_nd l _ (by simp) h
    exact ⟨fun x hx => (h1 x hx).1, h2⟩
  · rintro ⟨h1, h2⟩
    refine packetM_back l _ (by simp) (fun x hx => ⟨h1 x hx, ?_⟩) h2
    generalize (cardOf x).toNat = i
    rw [List.getD_eq_getElem?_getD, List.getElem?_replicate]
    split <;> rfl
theorem packetB_perm {p q : List Int} (h : (q.map cardOf).Perm (p.map cardOf)) (hp : packetB p = true) : packetB q = true := by
  obtain ⟨h1, h2⟩ := (packetB_iff p).mp hp
  refine (packetB_iff q).mpr ⟨fun x hx => ?_, h.nodup_iff.mpr h2⟩
  have : cardOf x ∈ p.map cardOf := h.mem_iff.mp (List.mem_map.mpr ⟨x, hx, rfl⟩)
  obtain ⟨y, hy, e⟩ := List.mem_map.mp this
  rw [← e]
  exact h1 y hy
end Go.Proofs.Ytobncomimkmoeaa.F
end
section
/- SortPackets of the program: sorted, each list once. -/
namespace Go.Proofs.Ytobncomimkmoeaa.F
open Go.RowKit Go.Proofs.YtobncomimkmoeaaW.PrintWords Go.Proofs.YtobncomimkmoeaaW.PrintLast Go.Proofs.YtobncomimkmoeaaW.PrintMore
set_option linter.unusedVariables false
set_option linter.unusedSimpArgs false
theorem rdLLs (pre : List (List Int)) (x : List Int) (rest : List (List Int)) : rd_L1 (pre ++ x :: rest) (pre.length : Int) = x := by
  unfold rd_L1
  simp
theorem sortPk_at (rest : List (List Int)) : ∀ (pre : List (List Int)), (pre ++ rest).length < 5864062014805 → (∀ x ∈ rest, x.length < 17592186044416) →
    Ev (fun k => impl_SortPackets.l0 k pre (pre ++ rest) ((pre ++ rest).length : Int) (pre.length : Int)) (sortP (pre ++ rest)) := by
  induction rest with
  | nil =>
    intro pre hb hx
    refine Ev.step (f := fun _ => some (sortP (pre ++ []))) (fun k => ?_) (Ev.now _)
    show impl_SortPackets.l0 (k + 1) _ _ _ _ = _
    rw [List.append_nil] at hb ⊢
    rw [impl_SortPackets.l0, if_neg (by omega), if_pos (by omega)]
  | cons x rest ih =>
    intro pre hb hx
    have h := ih (pre ++ [x]) (by simpa using hb) (fun y hy => hx y (by simp [hy]))
    have hp : pre.length < 5864062014805 := by simp at hb; omega
    have hc : slices_Clone_Lint_int.f x = some x := by
      unfold slices_Clone_Lint_int.f
      rw [if_pos (hx x (by simp))]
    rw [← mid_cons, ← mid_succ pre x (by omega)] at h
    refine Ev.step (fun k => ?_) h
    show impl_SortPackets.l0 (k + 1) _ _ _ _ = _
    rw [impl_SortPackets.l0, if_pos (mid_lt _ _ _), if_pos (nn _), if_pos (mid_lt _ _ _), rdLLs, hc, Option.bind_some, if_pos hp]
theorem sortPk_ev (l : List (List Int)) (hb : l.length < 5864062014805) (hx : ∀ x ∈ l, x.length < 17592186044416) : Ev (fun k => impl_SortPackets.f k l) (sortP l) := sortPk_at l [] hb hx
end Go.Proofs.Ytobncomimkmoeaa.F
end
section
/- Packets that cuts and turned pairs reach. -/
namespace Go.Proofs.Ytobncomimkmoeaa.F
open Go.RowKit Go.Proofs.YtobncomimkmoeaaW.PrintWords Go.Proofs.YtobncomimkmoeaaW.PrintLast Go.Proofs.YtobncomimkmoeaaW.PrintMore
set_option linter.unusedVariables false
set_option linter.unusedSimpArgs false
def cutsFrom (p : List Int) : Nat → Nat → List (List Int)
  | _, 0 => []
  | i, m + 1 => (p.drop i ++ p.take i) :: cutsFrom p (i + 1) m
def cutsL (p : List Int) : List (List Int) := cutsFrom p 0 p.length
def flip2 (p : List Int) : List Int := (p.take 2).reverse.map turnC ++ p.drop 2
theorem cutsFrom_mem (p x : List Int) (m : Nat) : ∀ i, x ∈ cutsFrom p i m ↔ ∃ j, i ≤ j ∧ j < i + m ∧ x = p.drop j ++ p.take j := by
  induction m with
  | zero =>
    intro i
    constructor
    · intro h; simp [cutsFrom] at h
    · rintro ⟨j, h1, h2, _⟩; omega
  | succ m ih =>
    intro i
    simp only [cutsFrom, List.mem_cons, ih]
    constructor
    · rintro (h | ⟨j, h1, h2, h⟩)
      · exact ⟨i, Nat.le_refl _, by omega, h⟩
      · exact ⟨j, by omega, by omega, h⟩
    · rintro ⟨j, h1, h2, h⟩
      by_cases e : j = i
      · subst e; exact .inl h
      · exact .inr ⟨j, by omega, by omega, h⟩
theorem cutsFrom_length (p : List Int) (m : Nat) : ∀ i, (cutsFrom p i m).length = m := by
  induction m with
  | zero => intro i; rfl
  | succ m ih => intro i; simp only [cutsFrom, List.length_cons, ih]
theorem cuts_mem (p x : List Int) : x ∈ cutsL p ↔ ∃ j, j < p.length ∧ x = p.drop j ++ p.take j := by
  unfold cutsL
  rw [cutsFrom_mem]
  constructor
  · rintro ⟨j, _, h2, h⟩; exact ⟨j, by omega, h⟩
  · rintro ⟨j, h2, h⟩; exact ⟨j, by omega, by omega, h⟩
theorem cuts_length (p : List Int) : (cutsL p).length = p.length := cutsFrom_length _ _ _
theorem cut_self (p : List Int) (h : 0 < p.length) : p ∈ cutsL p := (cuts_mem p p).mpr ⟨0, h, by simp⟩
theorem cut_perm (p : List Int) (j : Nat) : (p.drop j ++ p.take j).Perm p := by
  have h1 : (p.drop j ++ p.take j).Perm (p.take j ++ p.drop j) := List.perm_append_comm
  rwa [List.take_append_drop] at h1
theorem cut_sym {p x : List Int} (h : x ∈ cutsL p) : p ∈ cutsL x := by
  obtain ⟨j, hj, rfl⟩ := (cuts_mem p x).mp h
  refine (cuts_mem _ _).mpr ?_
  by_cases e : j = 0
  · subst e
    exact ⟨0, by simpa using hj, by simp⟩
  · refine ⟨p.length - j, by simp; omega, ?_⟩
    have h1 : (p.drop j).length = p.length - j := List.length_drop
    rw [← h1, List.drop_left, List.take_left, List.take_append_drop]
theorem card_turnR {x : Int} (h : 0 ≤ cardOf x) : cardOf (turnC x) = cardOf x := by
  have hs := card_small h
  unfold turnC
  rw [if_neg (by omega)]
  unfold cardOf
  repeat' split
  all_goals omega
theorem turn_turn {x : Int} (h : 0 ≤ cardOf x) : turnC (turnC x) = x := by
  have h2 := card_turnR h
  have e : turnC x = -1 - x := by unfold turnC; rw [if_neg (by omega)]
  have e2 : turnC (turnC x) = -1 - turnC x := by
    generalize turnC x = y at *
    unfold turnC
    rw [if_neg (by omega)]
  rw [e2, e]
  omega
theorem flip2_length (p : List Int) : (flip2 p).length = p.length := by
  unfold flip2
  simp
  omega
theorem flip2_two (a b : Int) (r : List Int) : flip2 (a :: b :: r) = turnC b :: turnC a :: r := rfl
theorem flip2_card {p : List Int} (hc : ∀ x ∈ p, 0 ≤ cardOf x) : ((flip2 p).map cardOf).Perm (p.map cardOf) := by
  unfold flip2
  rw [List.map_append, List.map_map]
  have e : (p.take 2).reverse.map (cardOf ∘ turnC) = (p.take 2).reverse.map cardOf := List.map_congr_left (fun x hx => card_turnR (hc x (List.mem_of_mem_take (List.mem_reverse.mp hx))))
  rw [e, ← List.map_append]
  have h := (List.reverse_perm (p.take 2)).append_right (p.drop 2)
  rw [List.take_append_drop] at h
  exact h.map _
theorem flip2_flip2 {p : List Int} (hc : ∀ x ∈ p, 0 ≤ cardOf x) (h2 : 2 ≤ p.length) : flip2 (flip2 p) = p := by
  match p, h2, hc with
  | a :: b :: r, _, hc =>
    rw [flip2_two, flip2_two, turn_turn (hc a (by simp)), turn_turn (hc b (by simp))]
/-- The same cards, each on some side. -/
def Gd (p q : List Int) : Prop := q.length = p.length ∧ (q.map cardOf).Perm (p.map cardOf)
theorem gd_refl (p : List Int) : Gd p p := ⟨rfl, List.Perm.refl _⟩
theorem gd_packet {p q : List Int} (h : Gd p q) (hp : packetB p = true) : packetB q = true := packetB_perm h.2 hp
theorem gd_cut {p q x : List Int} (h : Gd p q) (hx : x ∈ cutsL q) : Gd p x := by
  obtain ⟨j, _, rfl⟩ := (cuts_mem q x).mp hx
  have hp := cut_perm q j
  exact ⟨hp.length_eq.trans h.1, (hp.map _).trans h.2⟩
theorem gd_flip {p q : List Int} (h : Gd p q) (hp : packetB p = true) : Gd p (flip2 q) :=
  ⟨(flip2_length q).trans h.1, (flip2_card ((packetB_iff q).mp (gd_packet h hp)).1).trans h.2⟩
/-- Reached by cuts, and by turning over the first two and cutting. -/
def Rch (p q : List Int) : Prop := ∀ S : List Int → Prop, S p → (∀ x y, S x → (y ∈ cutsL x ∨ y ∈ cutsL (flip2 x)) → S y) → S q
theorem rch_refl (p : List Int) : Rch p p := fun _ h _ => h
theorem rch_step {p x y : List Int} (h : Rch p x) (hy : y ∈ cutsL x ∨ y ∈ cutsL (flip2 x)) : Rch p y := fun S h0 hc => hc x y (h S h0 hc) hy
theorem rch_trans {p q r : List Int} (h : Rch p q) (k : Rch q r) : Rch p r := fun S h0 hc => k S (h S h0 hc) hc
theorem rch_good {p q : List Int} (hp : packetB p = true) (h : Rch p q) : Gd p q :=
  h (fun x => Gd p x) (gd_refl p) (fun x y hx hy => hy.elim (fun h1 => gd_cut hx h1) (fun h1 => gd_cut (gd_flip hx hp) h1))
theorem rch_sym {p q : List Int} (hp : packetB p = true) (h2 : 2 ≤ p.length) (h : Rch p q) : Rch q p := by
  refine (h (fun x => Gd p x ∧ Rch x p) ⟨gd_refl p, rch_refl p⟩ (fun x y hx hy => ?_)).2
  obtain ⟨g, r⟩ := hx
  have hc := ((packetB_iff x).mp (gd_packet g hp)).1
  have hl : 2 ≤ x.length := by rw [g.1]; exact h2
  rcases hy with hy | hy
  · exact ⟨gd_cut g hy, rch_trans (rch_step (rch_refl y) (.inl (cut_sym hy))) r⟩
  · refine ⟨gd_cut (gd_flip g hp) hy, rch_trans (rch_step (rch_step (rch_refl y) (.inl (cut_sym hy))) (.inr ?_)) r⟩
    rw [flip2_flip2 hc hl]
    exact cut_self x (by omega)
/- How many there are. -/
def allOf : Nat → List Int → List (List Int)
  | 0, _ => [[]]
  | n + 1, cs => cs.flatMap fun c => (allOf n (cs.erase c)).flatMap fun q => [c :: q, (-1 - c) :: q]
def szN : Nat → Nat
  | 0 => 1
  | n + 1 => (n + 1) * (szN n * 2)
theorem flatMap_le {α β : Type} (g : α → List β) (b : Nat) (l : List α) : (∀ x ∈ l, (g x).length ≤ b) → (l.flatMap g).length ≤ l.length * b := by
  induction l with
  | nil => intro _; simp
  | cons x l ih =>
    intro h
    have h1 := h x List.mem_cons_self
    have h2 := ih (fun y hy => h y (List.mem_cons_of_mem _ hy))
    rw [List.flatMap_cons, List.length_append, List.length_cons, Nat.add_mul, Nat.one_mul]
    omega
theorem allOf_len (n : Nat) : ∀ cs : List Int, cs.length = n → (allOf n cs).length ≤ szN n := by
  induction n with
  | zero => intro cs _; exact Nat.le_refl _
  | succ n ih =>
    intro cs hl
    have h := flatMap_le (fun c => (allOf n (cs.erase c)).flatMap fun q => [c :: q, (-1 - c) :: q]) (szN n * 2) cs (fun c hc => by
      have h1 := ih (cs.erase c) (by rw [List.length_erase_of_mem hc]; omega)
      have h2 := flatMap_le (fun q => [c :: q, (-1 - c) :: q]) 2 (allOf n (cs.erase c)) (fun _ _ => Nat.le_refl _)
      exact Nat.le_trans h2 (Nat.mul_le_mul_right 2 h1))
    rw [hl] at h
    exact h
theorem allOf_mem (q : List Int) : ∀ cs : List Int, (q.map cardOf).Perm cs → (∀ x ∈ q, 0 ≤ cardOf x) → q ∈ allOf q.length cs := by
  induction q with
  | nil => intro cs _ _; simp [allOf]
  | cons x q ih =>
    intro cs hp hc
    have hm : cardOf x ∈ cs := hp.mem_iff.mp (by simp)
    have h1 := hp.erase (cardOf x)
    rw [List.map_cons, List.erase_cons_head] at h1
    have h2 := ih (cs.erase (cardOf x)) h1 (fun y hy => hc y (List.mem_cons_of_mem _ hy))
    have h3 : x = cardOf x ∨ x = -1 - cardOf x := by
      have h4 := hc x List.mem_cons_self
      unfold cardOf at h4 ⊢
      repeat' split
      all_goals omega
    rw [List.length_cons]
    unfold allOf
    refine List.mem_flatMap.mpr ⟨cardOf x, hm, List.mem_flatMap.mpr ⟨q, h2, ?_⟩⟩
    rcases h3 with h3 | h3
    · rw [← h3]; exact List.mem_cons_self
    · rw [← h3]; exact List.mem_cons_of_mem _ List.mem_cons_self
theorem nodup_leR {α : Type} [DecidableEq α] (l : List α) : ∀ A : List α, l.Nodup → (∀ x ∈ l, x ∈ A) → l.length ≤ A.length := by
  induction l with
  | nil => intro A _ _; simp
  | cons x l ih =>
    intro A hn hs
    rw [List.nodup_cons] at hn
    have hx := hs x List.mem_cons_self
    have h1 := ih (A.erase x) hn.2 (fun y hy => (List.mem_erase_of_ne (fun e => hn.1 (by rw [← e]; exact hy))).mpr (hs y (List.mem_cons_of_mem _ hy)))
    rw [List.length_erase_of_mem hx] at h1
    have h2 := List.length_pos_of_mem hx
    rw [List.length_cons]
    omega
theorem good_count {p : List Int} (hp : packetB p = true) (h4 : p.length ≤ 4) (l : List (List Int)) (hn : l.Nodup) (h : ∀ x ∈ l, Gd p x) : l.length ≤ 384 := by
  have h1 := nodup_leR l (allOf p.length (p.map cardOf)) hn (fun x hx => by
    have g := h x hx
    rw [← g.1]
    exact allOf_mem x _ g.2 ((packetB_iff x).mp (gd_packet g hp)).1)
  have h2 := allOf_len p.length (p.map cardOf) (List.length_map _)
  have h3 : szN p.length ≤ 384 := by
    rcases (show p.length = 0 ∨ p.length = 1 ∨ p.length = 2 ∨ p.length = 3 ∨ p.length = 4 by omega) with e | e | e | e | e <;> rw [e] <;> decide
  omega
theorem strict_same {a b : List (List Int)} (ha : a.Pairwise (fun a b => lexC a b < 0)) (hb : b.Pairwise (fun a b => lexC a b < 0)) (hs : ∀ x ∈ a, x ∈ b) (hl : a.length = b.length) : a = b := by
  refine strict_unique ha hb (fun x => ⟨hs x, fun hx => ?_⟩)
  apply Classical.byContradiction
  intro hn
  have h1 := nodup_leR (x :: a) b (List.nodup_cons.mpr ⟨hn, strict_nodup ha⟩) (fun y hy => by
    rcases List.mem_cons.mp hy with rfl | hy
    · exact hx
    · exact hs y hy)
  rw [List.length_cons] at h1
  omega
/-- What is closed and holds p holds all that p reaches. -/
theorem rch_of_closed {p q : List Int} (S : List (List Int)) (h0 : p ∈ S) (hc : ∀ x ∈ S, ∀ y, (y ∈ cutsL x ∨ y ∈ cutsL (flip2 x)) → y ∈ S) (h : Rch p q) : q ∈ S :=
  h (fun x => x ∈ S) h0 (fun x y hx hy => hc x hx y hy)
end Go.Proofs.Ytobncomimkmoeaa.F
end
section
/- ReachedFrom of the program: the sorted list of all packets that are reached. -/
namespace Go.Proofs.Ytobncomimkmoeaa.F
open Go.RowKit Go.Proofs.YtobncomimkmoeaaW.PrintWords Go.Proofs.YtobncomimkmoeaaW.PrintLast Go.Proofs.YtobncomimkmoeaaW.PrintMore
set_option linter.unusedVariables false
set_option linter.unusedSimpArgs false
theorem rdLLr (pre : List (List Int)) (x : List Int) (rest : List (List Int)) : rd_L1 (pre ++ x :: rest) (pre.length : Int) = x := by
  unfold rd_L1
  simp
theorem cuts_at (p : List Int) (hb : p.length ≤ 100) (m : Nat) : ∀ (i : Nat) (out : List (List Int)), i + m = p.length → out.length = i →
    Ev (fun k => impl_cuts.l0 k p out (p.length : Int) (i : Int)) (out ++ cutsFrom p i m) := by
  induction m with
  | zero =>
    intro i out hi ho
    refine Ev.step (f := fun _ => some (out ++ [])) (fun k => ?_) (Ev.now _)
    show impl_cuts.l0 (k + 1) _ _ _ _ = _
    rw [impl_cuts.l0, if_neg (by omega), List.append_nil]
  | succ m ih =>
    intro i out hi ho
    have h := ih (i + 1) (out ++ [p.drop i ++ p.take i]) (by omega) (by simp [ho])
    rw [List.append_assoc] at h
    have w : wrap64 ((i : Int) + 1) = ((i + 1 : Nat) : Int) := by rw [w64_id (by omega) (by omega)]; omega
    have hc := cut_ev p (i : Int) (by omega) (by omega) (by omega)
    rw [Int.toNat_natCast] at hc
    refine Ev.stepb hc (fun k => by rw [impl_cuts.l0, if_pos (by omega), w]) ?_
    simp only [if_pos (show out.length < 5864062014805 by omega)]
    exact h
theorem cuts_ev (p : List Int) (hb : p.length ≤ 100) : Ev (fun k => impl_cuts.f k p) (cutsL p) := cuts_at p hb p.length 0 [] (by omega) rfl
def stepL (c : Int) (p : List Int) : List (List Int) := if c = 3 then cutsL (flip2 p) else cutsL p
theorem stepL_length (c : Int) (p : List Int) : (stepL c p).length = p.length := by
  unfold stepL
  split
  · rw [cuts_length, flip2_length]
  · rw [cuts_length]
theorem all_ev (p : List Int) (c : Int) (hc : c = 1 ∨ c = 3) (hp : packetB p = true) (h2 : 2 ≤ p.length) : Ev (fun k => impl_all.f k p c) (stepL c p, true) := by
  have hlen := packetB_len hp
  unfold impl_all.f stepL
  rcases hc with rfl | rfl
  · simp only [if_neg (show ¬ (1 : Int) = 0 by omega), if_neg (show ¬ (1 : Int) = 3 by omega), if_true]
    exact Ev.bind (cuts_ev p (by omega)) (Ev.now _)
  · simp only [if_neg (show ¬ (3 : Int) = 0 by omega), if_neg (show ¬ (3 : Int) = 1 by omega), if_neg (show ¬ (3 : Int) = 2 by omega), if_true, if_neg (show ¬ (p.length : Int) < 2 by omega)]
    have hf := flip_ev p 2 (by omega) (by omega) (by omega) (fun x hx => by have := card_small (((packetB_iff p).mp hp).1 x hx); omega)
    refine Ev.bind (a := flip2 p) hf (Ev.bind (cuts_ev (flip2 p) (by rw [flip2_length]; omega)) (Ev.now _))
theorem results_ev (p : List Int) (c : Int) (hc : c = 1 ∨ c = 3) (hp : packetB p = true) (h2 : 2 ≤ p.length) : Ev (fun k => impl_ResultsOf.f k p c) (sortP (stepL c p), true) := by
  have hlen := packetB_len hp
  have hsl := stepL_length c p
  have hle := sortP_length_le (stepL c p)
  unfold impl_ResultsOf.f
  refine Ev.bind (impl_PacketOk_ev p (by omega) (fun x hx => by have := card_small (((packetB_iff p).mp hp).1 x hx); omega)) ?_
  simp only [hp, if_true]
  have hs := sortPk_ev (stepL c p) (by omega) (fun x hx => by
    have h3 : x.length = p.length := by
      unfold stepL at hx
      split at hx
      · obtain ⟨j, _, rfl⟩ := (cuts_mem _ _).mp hx
        rw [(cut_perm _ j).length_eq, flip2_length]
      · obtain ⟨j, _, rfl⟩ := (cuts_mem _ _).mp hx
        rw [(cut_perm _ j).length_eq]
    omega)
  refine Ev.step (fun k => by
    show impl_ResultsOf.j0 (k + 1) p c ((p.length : Int) == 0) = _
    rw [show ((p.length : Int) == 0) = false from beq_eq_false_iff_ne.mpr (by omega), impl_ResultsOf.j0, if_neg (by decide)]) (Ev.bind (all_ev p c hc hp h2) (Ev.bind hs ?_))
  simp only [if_true, if_neg (show ¬ ((sortP (stepL c p)).length : Int) > 3000 by omega)]
  exact Ev.now _
def aftL (c : Int) : List (List Int) → List (List Int)
  | [] => []
  | p :: ps => sortP (stepL c p) ++ aftL c ps
theorem aftL_mem (c : Int) (x : List Int) (l : List (List Int)) : x ∈ aftL c l ↔ ∃ p ∈ l, x ∈ stepL c p := by
  induction l with
  | nil => simp [aftL]
  | cons p ps ih =>
    simp only [aftL, List.mem_append, sortP_mem, ih, List.mem_cons]
    constructor
    · rintro (h | ⟨q, hq, h⟩)
      · exact ⟨p, .inl rfl, h⟩
      · exact ⟨q, .inr hq, h⟩
    · rintro ⟨q, rfl | hq, h⟩
      · exact .inl h
      · exact .inr ⟨q, hq, h⟩
theorem aftL_len (c : Int) (l : List (List Int)) : (∀ p ∈ l, p.length ≤ 4) → (aftL c l).length ≤ 4 * l.length := by
  induction l with
  | nil => intro _; simp [aftL]
  | cons p ps ih =>
    intro h
    have h1 := h p List.mem_cons_self
    have h2 := ih (fun q hq => h q (List.mem_cons_of_mem _ hq))
    have h3 := sortP_length_le (stepL c p)
    rw [stepL_length] at h3
    simp only [aftL, List.length_append, List.length_cons]
    omega
def okL (l : List (List Int)) : Prop := ∀ p ∈ l, packetB p = true ∧ 2 ≤ p.length ∧ p.length ≤ 4
theorem after_at (c : Int) (hc : c = 1 ∨ c = 3) (rest : List (List Int)) : ∀ (pre out : List (List Int)), okL (pre ++ rest) → (pre ++ rest).length ≤ 700 → out.length ≤ 4 * pre.length → (∀ x ∈ out, x.length ≤ 4) →
    Ev (fun k => impl_ResultsAfter.l0 k c out (pre ++ rest) ((pre ++ rest).length : Int) (pre.length : Int)) (sortP (out ++ aftL c rest), true) := by
  induction rest with
  | nil =>
    intro pre out hk hb ho hx
    rw [List.append_nil] at hb ⊢
    have hs := sortPk_ev out (by omega) (fun x h => by have := hx x h; omega)
    have hle := sortP_length_le out
    refine Ev.stepb hs (fun k => by rw [impl_ResultsAfter.l0, if_neg (by omega)]) ?_
    simp only [if_neg (show ¬ ((sortP out).length : Int) > 3000 by omega), aftL, List.append_nil]
    exact Ev.now _
  | cons p ps ih =>
    intro pre out hk hb ho hx
    have hp := hk p (by simp)
    have hle := sortP_length_le (stepL c p)
    rw [stepL_length] at hle
    have hsx : ∀ x ∈ sortP (stepL c p), x.length ≤ 4 := fun x h => by
      have h := (sortP_mem x _).mp h
      unfold stepL at h
      split at h
      · obtain ⟨j, _, rfl⟩ := (cuts_mem _ _).mp h
        rw [(cut_perm _ j).length_eq, flip2_length]; exact hp.2.2
      · obtain ⟨j, _, rfl⟩ := (cuts_mem _ _).mp h
        rw [(cut_perm _ j).length_eq]; exact hp.2.2
    have hb2 : pre.length ≤ 700 := by simp at hb; omega
    have h := ih (pre ++ [p]) (out ++ sortP (stepL c p)) (by simpa using hk) (by simpa using hb) (by simp; omega) (fun x h => by
      rcases List.mem_append.mp h with h | h
      · exact hx x h
      · exact hsx x h)
    rw [List.append_assoc out] at h
    rw [← mid_cons, ← mid_succ pre p (by omega)] at h
    refine Ev.stepb (results_ev p c hc hp.1 hp.2.1) (fun k => by rw [impl_ResultsAfter.l0, if_pos (mid_lt _ _ _), if_pos (nn _), if_pos (mid_lt _ _ _), rdLLr]) ?_
    simp only [if_true, if_pos (show out.length + (sortP (stepL c p)).length < 5864062014805 by omega), Option.bind_some, if_neg (show ¬ ((out ++ sortP (stepL c p)).length : Int) > 12000 by rw [List.length_append]; omega)]
    exact h
theorem after_ev (c : Int) (hc : c = 1 ∨ c = 3) (l : List (List Int)) (hk : okL l) (hb : l.length ≤ 700) : Ev (fun k => impl_ResultsAfter.f k l c) (sortP (aftL c l), true) := after_at c hc l [] [] hk hb (by simp) (by simp)
theorem concat3_ev (a b c : List (List Int)) (ha : a.length ≤ 3000) (hb : b.length ≤ 3000) (hc : c.length ≤ 3000) : Ev (fun k => slices_Concat_LLint_Lint.f k [a, b, c]) (a ++ (b ++ c)) := by
  have w0 : wrap64 (0 + (a.length : Int)) = (a.length : Int) := by rw [Int.zero_add]; exact w64_id (by omega) (by omega)
  have w1 : wrap64 ((a.length : Int) + (b.length : Int)) = (a.length : Int) + (b.length : Int) := w64_id (by omega) (by omega)
  have w2 : wrap64 ((a.length : Int) + (b.length : Int) + (c.length : Int)) = (a.length : Int) + (b.length : Int) + (c.length : Int) := w64_id (by omega) (by omega)
  have i1 : wrap64 ((0 : Int) + 1) = 1 := w64_id (by omega) (by omega)
  have i2 : wrap64 ((1 : Int) + 1) = 2 := w64_id (by omega) (by omega)
  have i3 : wrap64 ((2 : Int) + 1) = 3 := w64_id (by omega) (by omega)
  have hl : (([a, b, c] : List (List (List Int))).length : Int) = 3 := rfl
  have r0 : rd_L2 [a, b, c] 0 = a := rfl
  have r1 : rd_L2 [a, b, c] 1 = b := rfl
  have r2 : rd_L2 [a, b, c] 2 = c := rfl
  refine Ev.at_ 20 (fun k hk => ?_)
  obtain ⟨m, rfl⟩ := Nat.exists_eq_add_of_le' hk
  have t1 : ∀ n, slices_Concat_LLint_Lint.l1 (n + 4) [] [a, b, c] 3 0 = some (a ++ (b ++ c)) := by
    intro n
    rw [show n + 4 = (n + 3) + 1 from rfl, slices_Concat_LLint_Lint.l1, if_pos (by decide), if_pos (by decide), hl, if_pos (by decide), r0, if_pos (by simp; omega), List.nil_append, i1]
    rw [show n + 3 = (n + 2) + 1 from rfl, slices_Concat_LLint_Lint.l1, if_pos (by decide), if_pos (by decide), hl, if_pos (by decide), r1, if_pos (by omega), i2]
    rw [show n + 2 = (n + 1) + 1 from rfl, slices_Concat_LLint_Lint.l1, if_pos (by decide), if_pos (by decide), hl, if_pos (by decide), r2, if_pos (by simp; omega), i3]
    rw [slices_Concat_LLint_Lint.l1, if_neg (by decide), List.append_assoc]
  unfold slices_Concat_LLint_Lint.f
  rw [hl]
  rw [show m + 20 = (m + 19) + 1 from rfl, slices_Concat_LLint_Lint.l0, if_pos (by decide), if_pos (by decide), hl, if_pos (by decide), r0, w0, if_neg (by omega), i1]
  rw [show m + 19 = (m + 18) + 1 from rfl, slices_Concat_LLint_Lint.l0, if_pos (by decide), if_pos (by decide), hl, if_pos (by decide), r1, w1, if_neg (by omega), i2]
  rw [show m + 18 = (m + 17) + 1 from rfl, slices_Concat_LLint_Lint.l0, if_pos (by decide), if_pos (by decide), hl, if_pos (by decide), r2, w2, if_neg (by omega), i3]
  rw [show m + 17 = (m + 16) + 1 from rfl, slices_Concat_LLint_Lint.l0, if_neg (by decide)]
  unfold slices_Grow_LLint_Lint__nil.f
  rw [if_pos (by omega), if_pos (by omega), Option.bind_some, hl]
  exact t1 (m + 12)
/-- One round more. -/
def nextL (l : List (List Int)) : List (List Int) := sortP (l ++ (sortP (aftL 3 l) ++ sortP (aftL 1 l)))
theorem nextL_mem (x : List Int) (l : List (List Int)) : x ∈ nextL l ↔ x ∈ l ∨ ∃ p ∈ l, x ∈ cutsL p ∨ x ∈ cutsL (flip2 p) := by
  unfold nextL
  simp only [sortP_mem, List.mem_append, aftL_mem]
  have e3 : ∀ p, stepL 3 p = cutsL (flip2 p) := fun p => if_pos rfl
  have e1 : ∀ p, stepL 1 p = cutsL p := fun p => if_neg (by decide)
  simp only [e3, e1]
  constructor
  · rintro (h | ⟨p, hp, h⟩ | ⟨p, hp, h⟩)
    · exact .inl h
    · exact .inr ⟨p, hp, .inr h⟩
    · exact .inr ⟨p, hp, .inl h⟩
  · rintro (h | ⟨p, hp, h | h⟩)
    · exact .inl h
    · exact .inr (.inr ⟨p, hp, h⟩)
    · exact .inr (.inl ⟨p, hp, h⟩)
theorem good_ok {p : List Int} (hp : packetB p = true) (h2 : 2 ≤ p.length) (h4 : p.length ≤ 4) {l : List (List Int)} (h : ∀ x ∈ l, Gd p x) : okL l := fun x hx => by
  have g := h x hx
  exact ⟨gd_packet g hp, by rw [g.1]; exact h2, by rw [g.1]; exact h4⟩
theorem next_ev (p : List Int) (hp : packetB p = true) (h2 : 2 ≤ p.length) (h4 : p.length ≤ 4) (l : List (List Int)) (hn : l.Nodup) (hr : ∀ x ∈ l, Rch p x) (n : Int) (hne : ¬ n = (l.length : Int)) (r : List (List Int) × Bool)
    (h : Ev (fun k => impl_ReachedFrom.l0 k (nextL l) (l.length : Int)) r) : Ev (fun k => impl_ReachedFrom.l0 k l n) r := by
  have hg : ∀ x ∈ l, Gd p x := fun x hx => rch_good hp (hr x hx)
  have hk := good_ok hp h2 h4 hg
  have hlen := good_count hp h4 l hn hg
  have l3 := aftL_len 3 l (fun x hx => (hk x hx).2.2)
  have l1 := aftL_len 1 l (fun x hx => (hk x hx).2.2)
  have s3 := sortP_length_le (aftL 3 l)
  have s1 := sortP_length_le (aftL 1 l)
  refine Ev.stepb (after_ev 3 (.inr rfl) l hk (by omega)) (fun k => by rw [impl_ReachedFrom.l0, if_neg hne]) ?_
  refine Ev.bind (after_ev 1 (.inl rfl) l hk (by omega)) (Ev.bind (concat3_ev l (sortP (aftL 3 l)) (sortP (aftL 1 l)) (by omega) (by omega) (by omega)) ?_)
  have hsl : ∀ c, c = 1 ∨ c = 3 → ∀ x ∈ sortP (aftL c l), x.length ≤ 4 := fun c _ x hx => by
    obtain ⟨q, hq, h⟩ := (aftL_mem c x l).mp ((sortP_mem x _).mp hx)
    unfold stepL at h
    split at h
    · obtain ⟨j, _, rfl⟩ := (cuts_mem _ _).mp h
      rw [(cut_perm _ j).length_eq, flip2_length]; exact (hk q hq).2.2
    · obtain ⟨j, _, rfl⟩ := (cuts_mem _ _).mp h
      rw [(cut_perm _ j).length_eq]; exact (hk q hq).2.2
  refine Ev.bind (sortPk_ev (l ++ (sortP (aftL 3 l) ++ sortP (aftL 1 l))) (by simp only [List.length_append]; omega) (fun x hx => ?_)) h
  rcases List.mem_append.mp hx with hx | hx
  · have := (hk x hx).2.2; omega
  · rcases List.mem_append.mp hx with hx | hx
    · have := hsl 3 (.inr rfl) x hx; omega
    · have := hsl 1 (.inl rfl) x hx; omega
theorem reach_loop (p : List Int) (hp : packetB p = true) (h2 : 2 ≤ p.length) (h4 : p.length ≤ 4) (m : Nat) : ∀ (l : List (List Int)) (n : Nat), l.Pairwise (fun a b => lexC a b < 0) → p ∈ l → (∀ x ∈ l, Rch p x) →
    (n = l.length → ∀ x ∈ l, ∀ y, (y ∈ cutsL x ∨ y ∈ cutsL (flip2 x)) → y ∈ l) → 385 ≤ l.length + m →
    ∃ L, Ev (fun k => impl_ReachedFrom.l0 k l (n : Int)) (L, true) ∧ L.Pairwise (fun a b => lexC a b < 0) ∧ ∀ x, x ∈ L ↔ Rch p x := by
  induction m with
  | zero =>
    intro l n hs h0 hr hc hm
    have := good_count hp h4 l (strict_nodup hs) (fun x hx => rch_good hp (hr x hx))
    omega
  | succ m ih =>
    intro l n hs h0 hr hc hm
    by_cases e : n = l.length
    · refine ⟨l, Ev.step (f := fun _ => some (l, true)) (fun k => ?_) (Ev.now _), hs, fun x => ⟨hr x, fun h => rch_of_closed l h0 (hc e) h⟩⟩
      show impl_ReachedFrom.l0 (k + 1) l (n : Int) = _
      rw [impl_ReachedFrom.l0, if_pos (by omega)]
    · have hsn : (nextL l).Pairwise (fun a b => lexC a b < 0) := sortP_sorted _
      have hsub : ∀ x ∈ l, x ∈ nextL l := fun x hx => (nextL_mem x l).mpr (.inl hx)
      have hrn : ∀ x ∈ nextL l, Rch p x := fun x hx => by
        rcases (nextL_mem x l).mp hx with h | ⟨q, hq, h⟩
        · exact hr x h
        · exact rch_step (hr q hq) h
      have hle : l.length ≤ (nextL l).length := nodup_leR l _ (strict_nodup hs) hsub
      by_cases e2 : l.length = (nextL l).length
      · have he := strict_same hs hsn hsub e2
        have hcl : ∀ x ∈ l, ∀ y, (y ∈ cutsL x ∨ y ∈ cutsL (flip2 x)) → y ∈ l := fun x hx y hy => by
          have h1 : y ∈ nextL l := (nextL_mem y l).mpr (.inr ⟨x, hx, hy⟩)
          rwa [← he] at h1
        refine ⟨l, next_ev p hp h2 h4 l (strict_nodup hs) hr (n : Int) (by omega) (l, true) ?_, hs, fun x => ⟨hr x, fun h => rch_of_closed l h0 hcl h⟩⟩
        rw [← he]
        refine Ev.step (f := fun _ => some (l, true)) (fun k => ?_) (Ev.now _)
        show impl_ReachedFrom.l0 (k + 1) l (l.length : Int) = _
        rw [impl_ReachedFrom.l0, if_pos rfl]
      · obtain ⟨L, h3, h5, h6⟩ := ih (nextL l) l.length hsn (hsub p h0) hrn (fun e3 => absurd e3 e2) (by omega)
        exact ⟨L, next_ev p hp h2 h4 l (strict_nodup hs) hr (n : Int) (by omega) (L, true) h3, h5, h6⟩
theorem reached_ev (p : List Int) (hp : packetB p = true) (hn : p.length = 2 ∨ p.length = 4) : ∃ L, Ev (fun k => impl_ReachedFrom.f k p) (L, true) ∧ L.Pairwise (fun a b => lexC a b < 0) ∧ ∀ x, x ∈ L ↔ Rch p x := by
  obtain ⟨L, h1, h2, h3⟩ := reach_loop p hp (by omega) (by omega) 385 [p] 0 (List.pairwise_singleton _ _) (by simp) (fun x hx => by rw [List.mem_singleton.mp hx]; exact rch_refl p) (fun e => by simp at e) (by omega)
  refine ⟨L, ?_, h2, h3⟩
  have hlen := packetB_len hp
  have hcl : slices_Clone_Lint_int.f p = some p := by
    unfold slices_Clone_Lint_int.f
    rw [if_pos (by omega)]
  unfold impl_ReachedFrom.f
  refine Ev.bind (impl_PacketOk_ev p (by omega) (fun x hx => by have := card_small (((packetB_iff p).mp hp).1 x hx); omega)) ?_
  simp only [hp, if_true]
  have hj : Ev (fun k => impl_ReachedFrom.j0 k p false) (L, true) := by
    refine Ev.step (fun k => ?_) h1
    show impl_ReachedFrom.j0 (k + 1) p false = _
    rw [impl_ReachedFrom.j0, if_neg (by decide), hcl, Option.bind_some]
    rfl
  rcases hn with hn | hn
  · simp only [if_pos (show (p.length : Int) = 2 by omega)]
    exact hj
  · simp only [if_neg (show ¬ (p.length : Int) = 2 by omega), show ((p.length : Int) != 4) = false from by rw [hn]; rfl]
    exact hj
end Go.Proofs.Ytobncomimkmoeaa.F
end
section
/- Cards that lie face up: the program's function. -/
namespace Go.Proofs.Ytobncomimkmoeaa.F
open Go.RowKit Go.Proofs.YtobncomimkmoeaaW.PrintWords Go.Proofs.YtobncomimkmoeaaW.PrintLast Go.Proofs.YtobncomimkmoeaaW.PrintMore
set_option linter.unusedVariables false
set_option linter.unusedSimpArgs false
def isUp (x : Int) : Bool := decide (-12 ≤ x ∧ x ≤ -1)
theorem impl_IsUp_eq (x : Int) (h0 : -9223372036854775808 ≤ x) : impl_IsUp.f x = some (isUp x) := by
  unfold impl_IsUp.f isUp
  by_cases h : x < 0
  · rw [if_pos h, impl_CardOf_eq x h0]
    unfold cardOf
    simp only [Option.bind_some]
    congr 1
    by_cases k : -12 ≤ x
    · rw [if_neg (by omega), if_pos (by omega)]; simp; omega
    · rw [if_neg (by omega), if_neg (by omega)]; simp; omega
  · rw [if_neg h]; simp; omega
end Go.Proofs.Ytobncomimkmoeaa.F
end
section
/- The balance: the program's function. -/
namespace Go.Proofs.Ytobncomimkmoeaa.F
open Go.RowKit Go.Proofs.YtobncomimkmoeaaW.PrintWords Go.Proofs.YtobncomimkmoeaaW.PrintLast Go.Proofs.YtobncomimkmoeaaW.PrintMore
set_option linter.unusedVariables false
set_option linter.unusedSimpArgs false
def balGo : Nat → List Int → Int → Int
  | _, [], n => n
  | i, x :: xs, n => balGo (i + 1) xs (if (isUp x == (Int.tmod (i : Int) 2 == 0)) = true then wrap64 (n + 1) else n)
theorem impl_bal_at (rest : List Int) : ∀ (pre : List Int) (n : Int), (pre ++ rest).length ≤ 4611686018427387904 → (∀ x ∈ rest, -9223372036854775808 ≤ x) →
    Ev (fun k => impl_BalanceOf.l0 k n (pre ++ rest) ((pre ++ rest).length : Int) (pre.length : Int)) (balGo pre.length rest n, true) := by
  induction rest with
  | nil =>
    intro pre n hb hw
    exact Ev.step (f := fun _ => some (n, true)) (fun k => by rw [impl_BalanceOf.l0, if_neg (mid_nlt _)]) (Ev.now _)
  | cons x rest ih =>
    intro pre n hb hw
    have hx := hw x (by simp)
    have hs := mid_succ pre x (by simp at hb; omega)
    unfold balGo
    have h := ih (pre ++ [x]) (if (isUp x == (Int.tmod (pre.length : Int) 2 == 0)) = true then wrap64 (n + 1) else n) (by simpa using hb) (fun y hy => hw y (by simp [hy]))
    rw [← mid_cons, show (pre ++ [x]).length = pre.length + 1 by simp] at h
    rw [show (pre ++ [x]).length = pre.length + 1 by simp] at hs
    by_cases c : (isUp x == (Int.tmod (pre.length : Int) 2 == 0)) = true
    · rw [if_pos c] at h ⊢
      exact Ev.step (fun k => by rw [impl_BalanceOf.l0, if_pos (mid_lt _ _ _), if_pos (nn _), if_pos (mid_lt _ _ _), mid_rd, impl_IsUp_eq x hx]; simp only [Option.bind_some]; rw [if_pos c, hs]) h
    · rw [if_neg c] at h ⊢
      exact Ev.step (fun k => by rw [impl_BalanceOf.l0, if_pos (mid_lt _ _ _), if_pos (nn _), if_pos (mid_lt _ _ _), mid_rd, impl_IsUp_eq x hx]; simp only [Option.bind_some]; rw [if_neg c, hs]) h
def balanceOf (l : List Int) : Int × Bool := if packetB l = true ∧ (l.length : Int) % 2 = 0 then (balGo 0 l 0, true) else (0, false)
theorem impl_bal_ev (l : List Int) (hb : l.length ≤ 4611686018427387904) (hw : ∀ x ∈ l, -9223372036854775808 ≤ x) : Ev (fun k => impl_BalanceOf.f k l) (balanceOf l) := by
  unfold impl_BalanceOf.f balanceOf
  refine Ev.bind (impl_PacketOk_ev l hb hw) ?_
  by_cases p : packetB l = true
  · by_cases e : (l.length : Int) % 2 = 0
    · simp only [p, e, if_true, true_and]
      refine Ev.succ ?_
      simp only [impl_BalanceOf.j0, bne_self_eq_false, Bool.false_eq_true, if_false]
      exact impl_bal_at l [] 0 hb hw
    · have e' : ((l.length : Int) % 2 != 0) = true := by simpa using e
      simp only [p, e, e', if_true, if_false, true_and]
      refine Ev.succ ?_
      simp only [impl_BalanceOf.j0, if_true]
      exact Ev.now _
  · simp only [p, if_false, false_and]
    refine Ev.succ ?_
    simp only [impl_BalanceOf.j0, if_true]
    exact Ev.now _
end Go.Proofs.Ytobncomimkmoeaa.F
end
section
/- What the makers of arguments give: numbers in their bounds, whatever the code is. -/
namespace Go.Proofs.Ytobncomimkmoeaa.F
open Go.RowKit Go.Proofs.YtobncomimkmoeaaW.PrintWords Go.Proofs.YtobncomimkmoeaaW.PrintLast Go.Proofs.YtobncomimkmoeaaW.PrintMore
set_option linter.unusedVariables false
set_option linter.unusedSimpArgs false
theorem and_255 (x : Int) : 0 ≤ Go.bits .and .i64 x 255 ∧ Go.bits .and .i64 x 255 ≤ 255 := by
  have h : (BitVec.ofInt 64 x &&& BitVec.ofInt 64 255).toNat ≤ 255 := by
    rw [BitVec.toNat_and]
    exact Nat.le_trans Nat.and_le_right (by decide)
  have e : Go.bits .and .i64 x 255 = wrap64 (((BitVec.ofInt 64 x &&& BitVec.ofInt 64 255).toNat : Nat) : Int) := i64_w _
  rw [e, w64_id (by omega) (by omega)]
  omega
/-- The cursor stands within its code. -/
def curB (f0 : List Int) (f1 : Int) : Prop := 0 ≤ f1 ∧ f1 ≤ (f0.length : Int) ∧ f0.length ≤ 1048576
theorem byte_ex (f0 : List Int) (f1 f2 : Int) (h : curB f0 f1) : ∃ b g1 g2, spec_l01Byte.f f0 f1 f2 = some (b, g1, g2) ∧ 0 ≤ b ∧ b ≤ 255 ∧ curB f0 g1 := by
  obtain ⟨h0, h1, h2⟩ := h
  unfold spec_l01Byte.f
  by_cases c : f1 < (f0.length : Int)
  · rw [if_pos c, if_pos h0]
    have hw : wrap64 (f1 + 1) = f1 + 1 := w64_id (by omega) (by omega)
    exact ⟨_, _, _, rfl, (and_255 _).1, (and_255 _).2, by rw [hw]; omega, by rw [hw]; omega, h2⟩
  · rw [if_neg c]
    exact ⟨_, _, _, rfl, (and_255 _).1, (and_255 _).2, h0, h1, h2⟩
theorem below_ex (f0 : List Int) (f1 f2 n : Int) (h : curB f0 f1) (h0 : 1 ≤ n) (h1 : n ≤ 256) : ∃ b g1 g2, spec_l01Below.f f0 f1 f2 n = some (b, g1, g2) ∧ 0 ≤ b ∧ b < n ∧ curB f0 g1 := by
  obtain ⟨b, g1, g2, hb, b0, b1, hc⟩ := byte_ex f0 f1 f2 h
  unfold spec_l01Below.f
  rw [if_neg (by omega), if_pos h1, hb, Option.bind_some, if_neg (by omega)]
  refine ⟨_, _, _, rfl, ?_, ?_, hc⟩
  · exact Int.tmod_nonneg _ b0
  · exact Int.tmod_lt_of_pos _ (by omega)
theorem new_at (rest : List Int) : ∀ (pre : List Int) (h : Int), (pre ++ rest).length ≤ 1048576 →
    ∃ r, Ev (fun k => spec_l01New.l0 k (pre ++ rest) h (pre.length : Int)) (pre ++ rest, 0, r) := by
  induction rest with
  | nil =>
    intro pre h hb
    refine ⟨h, Ev.step (f := fun _ => some (pre ++ [], 0, h)) (fun k => ?_) (Ev.now _)⟩
    show spec_l01New.l0 (k + 1) _ h _ = _
    rw [spec_l01New.l0, if_neg (mid_nlt _)]
  | cons x rest ih =>
    intro pre h hb
    by_cases c : (pre.length : Int) < 4000
    · obtain ⟨r, hr⟩ := ih (pre ++ [x]) (Go.bits .and .i64 (wrap64 ((wrap64 ((wrap64 (h * 101)) + (wrap64 x))) + 7)) 1073741823) (by simpa using hb)
      rw [← mid_cons, ← mid_succ pre x (by simp at hb; omega)] at hr
      refine ⟨r, Ev.step (fun k => ?_) hr⟩
      show spec_l01New.l0 (k + 1) _ h _ = _
      rw [spec_l01New.l0, if_pos (mid_lt _ _ _), if_pos c, if_pos (nn _), mid_rd]
    · refine ⟨h, Ev.step (f := fun _ => some (pre ++ x :: rest, 0, h)) (fun k => ?_) (Ev.now _)⟩
      show spec_l01New.l0 (k + 1) _ h _ = _
      rw [spec_l01New.l0, if_pos (mid_lt _ _ _), if_neg c]
theorem new_ev (l : List Int) (hb : l.length ≤ 1048576) : ∃ r, Ev (fun k => spec_l01New.f k l) (l, 0, r) := new_at l [] _ hb
theorem l23_at (f0 : List Int) (n : Nat) : ∀ (i : Int) (a f1 f2 : Int), i + n = a → 0 ≤ i → a ≤ 1048576 → curB f0 f1 →
    ∃ g1 g2, Ev (fun k => spec_l23New.l0 k a f0 f1 f2 i) (f0, g1, g2) ∧ curB f0 g1 := by
  induction n with
  | zero =>
    intro i a f1 f2 hn hi ha h
    refine ⟨f1, f2, Ev.step (f := fun _ => some (f0, f1, f2)) (fun k => ?_) (Ev.now _), h⟩
    show spec_l23New.l0 (k + 1) a f0 f1 f2 i = _
    rw [spec_l23New.l0, if_neg (by omega)]
  | succ n ih =>
    intro i a f1 f2 hn hi ha h
    obtain ⟨b, g1, g2, hb, _, _, hc⟩ := byte_ex f0 f1 f2 h
    obtain ⟨e1, e2, he, hf⟩ := ih (i + 1) a g1 g2 (by omega) (by omega) ha hc
    refine ⟨e1, e2, Ev.step (fun k => ?_) he, hf⟩
    show spec_l23New.l0 (k + 1) a f0 f1 f2 i = _
    rw [spec_l23New.l0, if_pos (by omega), hb, Option.bind_some, w64_id (by omega) (by omega)]
theorem l23_ev (l : List Int) (a : Int) (hb : l.length ≤ 1048576) (h0 : 0 ≤ a) (h1 : a ≤ 1048576) : ∃ g1 g2, Ev (fun k => spec_l23New.f k l a) (l, g1, g2) ∧ curB l g1 := by
  obtain ⟨r, hr⟩ := new_ev l hb
  obtain ⟨g1, g2, hg, hc⟩ := l23_at l a.toNat 0 a 0 r (by omega) (by omega) h1 ⟨by omega, by omega, hb⟩
  unfold spec_l23New.f
  exact ⟨g1, g2, Ev.bind hr hg, hc⟩
theorem num_ev (l : List Int) (a : Int) (hb : l.length ≤ 1048576) (h0 : 0 ≤ a) (h1 : a ≤ 1048576) : ∃ v, Ev (fun k => spec_MakeNum.f k l a) v ∧ 0 ≤ v ∧ v ≤ 65535 := by
  obtain ⟨g1, g2, hg, hc⟩ := l23_ev l a hb h0 h1
  obtain ⟨b, c1, c2, hb1, b0, b1, hc1⟩ := byte_ex l g1 g2 hc
  obtain ⟨d, e1, e2, hd1, d0, d1, hc2⟩ := byte_ex l c1 c2 hc1
  refine ⟨b * 256 + d, ?_, by omega, by omega⟩
  unfold spec_MakeNum.f
  refine Ev.bind hg ?_
  simp only [hb1, hd1, Option.bind_some]
  rw [w64_id (show -9223372036854775808 ≤ b * 256 by omega) (by omega), w64_id (by omega) (by omega)]
  exact Ev.now _
end Go.Proofs.Ytobncomimkmoeaa.F
end
section
/- Numbers from a on. -/
namespace Go.Proofs.Ytobncomimkmoeaa.F
open Go.RowKit Go.Proofs.YtobncomimkmoeaaW.PrintWords Go.Proofs.YtobncomimkmoeaaW.PrintLast Go.Proofs.YtobncomimkmoeaaW.PrintMore
set_option linter.unusedVariables false
set_option linter.unusedSimpArgs false
theorem mem_seqFrom (n : Nat) : ∀ (a x : Int), x ∈ seqFrom a n ↔ a ≤ x ∧ x < a + n := by
  induction n with
  | zero =>
    intro a x
    simp only [seqFrom, List.not_mem_nil, false_iff]
    omega
  | succ n ih =>
    intro a x
    rw [show seqFrom a (n + 1) = a :: seqFrom (a + 1) n from rfl, List.mem_cons, ih]
    omega
theorem nodup_seqFrom (n : Nat) : ∀ a : Int, (seqFrom a n).Nodup := by
  induction n with
  | zero => intro a; simp [seqFrom]
  | succ n ih =>
    intro a
    rw [show seqFrom a (n + 1) = a :: seqFrom (a + 1) n from rfl, List.nodup_cons, mem_seqFrom]
    exact ⟨by omega, ih _⟩
end Go.Proofs.Ytobncomimkmoeaa.F
end
section
/- Shuffled packets: a permutation of the numbers below n, some of which are turned over. -/
namespace Go.Proofs.Ytobncomimkmoeaa.F
open Go.RowKit Go.Proofs.YtobncomimkmoeaaW.PrintWords Go.Proofs.YtobncomimkmoeaaW.PrintLast Go.Proofs.YtobncomimkmoeaaW.PrintMore
set_option linter.unusedVariables false
set_option linter.unusedSimpArgs false
theorem seqFrom_snoc (n : Nat) : ∀ a : Int, seqFrom a (n + 1) = seqFrom a n ++ [a + n] := by
  induction n with
  | zero => intro a; simp [seqFrom]
  | succ n ih =>
    intro a
    rw [show seqFrom a (n + 1 + 1) = a :: seqFrom (a + 1) (n + 1) from rfl, ih (a + 1), show seqFrom a (n + 1) = a :: seqFrom (a + 1) n from rfl]
    simp
    omega
theorem swap_perm (x : List Int) (j : Nat) (hj : j < x.length) (v : Int) : (x.set j v ++ [x.getD j 0]).Perm (x ++ [v]) := by
  have e : x = x.take j ++ x.getD j 0 :: x.drop (j + 1) := by
    rw [List.getD_eq_getElem?_getD, List.getElem?_eq_getElem hj]
    simp
  have e2 : x.set j v = x.take j ++ v :: x.drop (j + 1) := List.set_eq_take_append_cons_drop.trans (by rw [if_pos hj])
  rw [e2]
  conv => rhs; rw [e]
  generalize x.getD j 0 = a
  generalize x.take j = p
  generalize x.drop (j + 1) = q
  rw [List.append_assoc, List.append_assoc, List.cons_append, List.cons_append]
  refine List.Perm.append_left p ?_
  have h1 : (v :: (q ++ [a])).Perm (v :: a :: q) := (List.perm_append_singleton a q).cons v
  have h2 : (a :: (q ++ [v])).Perm (a :: v :: q) := (List.perm_append_singleton v q).cons a
  exact h1.trans ((List.Perm.swap a v q).trans h2.symm)
theorem shuffle_at (f0 : List Int) (m : Nat) : ∀ (n : Nat) (x : List Int) (f1 f2 : Int), n + m ≤ 256 → x.Perm (seqFrom 0 n) → curB f0 f1 →
    ∃ r g1 g2, Ev (fun k => spec_l02Shuffle.l0 k ((n + m : Nat) : Int) x (n : Int) f0 f1 f2) (r, g1, g2) ∧ r.Perm (seqFrom 0 (n + m)) ∧ curB f0 g1 := by
  induction m with
  | zero =>
    intro n x f1 f2 hb hp hc
    refine ⟨x, f1, f2, Ev.step (f := fun _ => some (x, f1, f2)) (fun k => ?_) (Ev.now _), hp, hc⟩
    show spec_l02Shuffle.l0 (k + 1) _ x _ f0 f1 f2 = _
    rw [spec_l02Shuffle.l0, if_neg (by omega)]
  | succ m ih =>
    intro n x f1 f2 hb hp hc
    have hlen : x.length = n := by rw [hp.length_eq, seqFrom_length]
    obtain ⟨b, g1, g2, hbl, b0, b1, hcg⟩ := below_ex f0 f1 f2 ((n : Int) + 1) hc (by omega) (by omega)
    obtain ⟨j, rfl⟩ := Int.eq_ofNat_of_zero_le b0
    have hw : wrap64 ((n : Int) + 1) = (n : Int) + 1 := w64_id (by omega) (by omega)
    have hnew : (((x ++ [(n : Int)]).set n (rd (x ++ [(n : Int)]) (j : Int))).set j (n : Int)).Perm (seqFrom 0 (n + 1)) := by
      rw [seqFrom_snoc, Int.zero_add]
      by_cases e : j = n
      · subst e
        have e1 : rd (x ++ [(j : Int)]) (j : Int) = (j : Int) := by
          have := mid_rd x (j : Int) []
          rwa [hlen] at this
        rw [e1]
        have e2 : ((x ++ [(j : Int)]).set j (j : Int)) = x ++ [(j : Int)] := by
          have := mid_set x (j : Int) (j : Int) []
          rw [hlen, Int.toNat_natCast] at this
          simpa using this
        rw [e2, e2]
        exact hp.append_right _
      · have hj : j < x.length := by omega
        have e1 : rd (x ++ [(n : Int)]) (j : Int) = x.getD j 0 := by
          unfold rd
          simp [List.getD_eq_getElem?_getD, List.getElem?_append_left hj]
        have e2 : ((x ++ [(n : Int)]).set n (x.getD j 0)) = x ++ [x.getD j 0] := by
          have := mid_set x (n : Int) (x.getD j 0) []
          rw [hlen, Int.toNat_natCast] at this
          simpa using this
        rw [e1, e2, List.set_append_left _ _ hj]
        exact (swap_perm x j hj (n : Int)).trans (hp.append_right _)
    obtain ⟨r, e1, e2, he, hr, hc2⟩ := ih (n + 1) _ g1 g2 (by omega) hnew hcg
    refine ⟨r, e1, e2, Ev.step (fun k => ?_) he, by rw [show n + (m + 1) = n + 1 + m by omega]; exact hr, hc2⟩
    show spec_l02Shuffle.l0 (k + 1) _ x _ f0 f1 f2 = _
    have hl2 : ((x ++ [(n : Int)]).length : Int) = (n : Int) + 1 := by rw [List.length_append, hlen]; simp
    rw [spec_l02Shuffle.l0, if_pos (by omega), hw, hbl, Option.bind_some, if_pos (by omega), Option.bind_some, if_pos b0, if_pos (by rw [hl2]; exact b1), if_pos (by omega), if_pos (by rw [hl2]; omega), Int.toNat_natCast, Int.toNat_natCast]
    rw [show ((n + 1 : Nat) : Int) = (n : Int) + 1 by omega, show ((n + (m + 1) : Nat) : Int) = ((n + 1 + m : Nat) : Int) by omega]
theorem shuffle_ev (f0 : List Int) (n : Nat) (f1 f2 : Int) (hn : n ≤ 256) (hc : curB f0 f1) : ∃ r g1 g2, Ev (fun k => spec_l02Shuffle.f k f0 f1 f2 (n : Int)) (r, g1, g2) ∧ r.Perm (seqFrom 0 n) ∧ curB f0 g1 := by
  have h := shuffle_at f0 n 0 [] f1 f2 (by omega) (by simp [seqFrom]) hc
  rw [Nat.zero_add] at h
  exact h
end Go.Proofs.Ytobncomimkmoeaa.F
end
section
/- Packets that are drawn are packets; the maker of permutations. -/
namespace Go.Proofs.Ytobncomimkmoeaa.F
open Go.RowKit Go.Proofs.YtobncomimkmoeaaW.PrintWords Go.Proofs.YtobncomimkmoeaaW.PrintLast Go.Proofs.YtobncomimkmoeaaW.PrintMore
set_option linter.unusedVariables false
set_option linter.unusedSimpArgs false
/-- A packet of the cards below n, turned or not. -/
def drawn (r : List Int) (n : Nat) : Prop := (r.map cardOf).Perm (seqFrom 0 n) ∧ ∀ x ∈ r, -12 ≤ x ∧ x ≤ 11
theorem drawn_len {r : List Int} {n : Nat} (h : drawn r n) : r.length = n := by
  have := h.1.length_eq
  rwa [List.length_map, seqFrom_length] at this
theorem drawn_packet {r : List Int} {n : Nat} (h : drawn r n) : packetB r = true := by
  have hn : (r.map cardOf).Nodup := h.1.nodup_iff.mpr (nodup_seqFrom n 0)
  refine (packetB_iff r).mpr ⟨fun x hx => ?_, hn⟩
  have hm : cardOf x ∈ seqFrom 0 n := h.1.mem_iff.mp (List.mem_map.mpr ⟨x, hx, rfl⟩)
  exact ((mem_seqFrom n 0 _).mp hm).1
theorem cardOf_id (x : Int) (h0 : 0 ≤ x) (h1 : x ≤ 11) : cardOf x = x := by
  unfold cardOf
  rw [if_pos ⟨h0, h1⟩]
theorem drawn_plain {r : List Int} {n : Nat} (h : r.Perm (seqFrom 0 n)) (hn : n ≤ 12) : drawn r n := by
  have hr : ∀ x ∈ r, 0 ≤ x ∧ x ≤ 11 := fun x hx => by
    have := (mem_seqFrom n 0 x).mp (h.mem_iff.mp hx)
    omega
  refine ⟨?_, fun x hx => by have := hr x hx; omega⟩
  rw [List.map_congr_left (g := id) (fun x hx => cardOf_id x (hr x hx).1 (hr x hx).2), List.map_id]
  exact h
theorem cardOf_turn (x : Int) (h0 : -12 ≤ x) (h1 : x ≤ 11) : cardOf (-1 - x) = cardOf x := by
  unfold cardOf
  by_cases c : 0 ≤ x
  · rw [if_neg (by omega), if_pos (by omega), if_pos (by omega)]
    omega
  · rw [if_pos (by omega), if_neg (by omega), if_pos (by omega)]
theorem perm_ev (l : List Int) (a b : Int) (hb : l.length ≤ 1048576) (h0 : 0 ≤ a) (h1 : a ≤ 1048576) (b0 : 1 ≤ b) (b1 : b ≤ 12) : ∃ r, Ev (fun k => spec_MakePerm.f k l a b) r ∧ r.Perm (seqFrom 0 b.toNat) := by
  obtain ⟨g1, g2, hg, hc⟩ := l23_ev l a hb h0 h1
  have hm : mx 1 (mn b 12) = ((b.toNat : Nat) : Int) := by unfold mx mn; repeat' split <;> omega
  obtain ⟨r, e1, e2, he, hd, _⟩ := shuffle_ev l b.toNat g1 g2 (by omega) hc
  refine ⟨r, ?_, hd⟩
  unfold spec_MakePerm.f
  rw [hm]
  exact Ev.bind hg (Ev.bind he (Ev.now _))
end Go.Proofs.Ytobncomimkmoeaa.F
end
section
/- Of LawFnParity what names the program's functions alone. -/
namespace Go.Proofs.Ytobncomimkmoeaa.F
open Go.RowKit Go.Proofs.YtobncomimkmoeaaW.PrintWords Go.Proofs.YtobncomimkmoeaaW.PrintLast Go.Proofs.YtobncomimkmoeaaW.PrintMore
set_option linter.unusedVariables false
set_option linter.unusedSimpArgs false
def balB : Bool → List Int → Nat
  | _, [] => 0
  | b, x :: xs => (if (isUp x == b) = true then 1 else 0) + balB (!b) xs
theorem balB_le (l : List Int) : ∀ b, balB b l ≤ l.length := by
  induction l with
  | nil => intro b; exact Nat.le_refl _
  | cons x l ih =>
    intro b
    have := ih (!b)
    simp only [balB, List.length_cons]
    split <;> omega
theorem par_b (i : Nat) : (Int.tmod (i : Int) 2 == 0) = decide (i % 2 = 0) := by
  have e : Int.tmod (i : Int) 2 = ((i % 2 : Nat) : Int) := (Int.ofNat_tmod i 2).symm
  rw [e]
  rcases Nat.mod_two_eq_zero_or_one i with h | h <;> rw [h] <;> decide
theorem par_not (i : Nat) : decide ((i + 1) % 2 = 0) = !decide (i % 2 = 0) := by
  rcases Nat.mod_two_eq_zero_or_one i with h | h
  · rw [h, show (i + 1) % 2 = 1 by omega]; decide
  · rw [h, show (i + 1) % 2 = 0 by omega]; decide
theorem balGo_eq (l : List Int) : ∀ (i : Nat) (n : Int), 0 ≤ n → n + l.length ≤ 1000000 → balGo i l n = n + balB (decide (i % 2 = 0)) l := by
  induction l with
  | nil => intro i n _ _; simp [balGo, balB]
  | cons x l ih =>
    intro i n h0 h1
    simp only [List.length_cons] at h1
    unfold balGo balB
    rw [par_b, ← par_not]
    by_cases c : (isUp x == decide (i % 2 = 0)) = true
    · rw [if_pos c, if_pos c, w64_id (by omega) (by omega), ih (i + 1) (n + 1) (by omega) (by omega)]
      omega
    · rw [if_neg c, if_neg c, ih (i + 1) n h0 (by omega)]
      omega
theorem balB_not (l : List Int) : ∀ b, balB (!b) l + balB b l = l.length := by
  induction l with
  | nil => intro b; rfl
  | cons x l ih =>
    intro b
    have h := ih (!b)
    simp only [balB, List.length_cons]
    cases hx : isUp x <;> cases b <;> simp at h ⊢ <;> omega
theorem balB_app (l m : List Int) : ∀ b, balB b (l ++ m) = balB b l + balB (if l.length % 2 = 0 then b else !b) m := by
  induction l with
  | nil => intro b; simp [balB]
  | cons x l ih =>
    intro b
    rw [List.cons_append]
    simp only [balB, List.length_cons]
    rw [ih (!b)]
    rcases Nat.mod_two_eq_zero_or_one l.length with h | h
    · rw [if_pos h, if_neg (show ¬ ((l.length + 1) % 2 = 0) by omega)]; omega
    · rw [if_neg (show ¬ (l.length % 2 = 0) by omega), if_pos (show (l.length + 1) % 2 = 0 by omega), Bool.not_not]; omega
theorem balB_cut (l : List Int) (k : Nat) (hk : k ≤ l.length) (hn : l.length % 2 = 0) : balB true (l.drop k ++ l.take k) = balB true l ∨ balB true (l.drop k ++ l.take k) = l.length - balB true l := by
  have e : balB true l = balB true (l.take k) + balB (if (l.take k).length % 2 = 0 then true else !true) (l.drop k) := by
    conv => lhs; rw [← List.take_append_drop k l]
    exact balB_app _ _ _
  rw [balB_app, e]
  have h1 : (l.take k).length = k := by simp; omega
  have h2 : (l.drop k).length = l.length - k := by simp
  have n1 := balB_not (l.take k) true
  have n2 := balB_not (l.drop k) true
  rw [h1, h2]
  rw [h1] at n1
  rw [h2] at n2
  rcases Nat.mod_two_eq_zero_or_one k with h | h
  · left; rw [if_pos h, if_pos (by omega)]; omega
  · right
    rw [if_neg (by omega), if_neg (by omega)]
    simp only [Bool.not_true] at n1 n2 ⊢
    omega
theorem up_turn {x : Int} (h : 0 ≤ cardOf x) : isUp (turnC x) = !isUp x := by
  have hs := card_small h
  unfold turnC isUp
  rw [if_neg (by omega)]
  by_cases c : x ≤ -1
  · rw [decide_eq_false (by omega), decide_eq_true (by omega)]; rfl
  · rw [decide_eq_true (by omega), decide_eq_false (by omega)]; rfl
/-- A packet of n cards, n even. -/
structure Pk (q : List Int) (n : Nat) : Prop where
  pk : packetB q = true
  len : q.length = n
theorem Pk.low {q : List Int} {n : Nat} (h : Pk q n) : ∀ x ∈ q, -9223372036854775808 ≤ x := fun x hx => by
  have := card_small (packetB_card h.pk x hx); omega
theorem pk_bal {q : List Int} {n : Nat} (h : Pk q n) (hn : n ≤ 12) (he : n % 2 = 0) : Ev (fun k => impl_BalanceOf.f k q) ((balB true q : Int), true) := by
  have E := impl_bal_ev q (by have := h.len; omega) (Pk.low h)
  have e : balanceOf q = ((balB true q : Int), true) := by
    unfold balanceOf
    rw [if_pos ⟨h.pk, by rw [h.len]; omega⟩, balGo_eq q 0 0 (by omega) (by have := h.len; omega)]
    simp
  rw [e] at E
  exact E
/-- The one is the other's balance or its complement. -/
def Rel (n : Nat) (q q' : List Int) : Prop := balB true q' = balB true q ∨ balB true q' = n - balB true q
theorem pk_cut {q : List Int} {n : Nat} (h : Pk q n) (he : n % 2 = 0) (k : Nat) (hk : k ≤ n) : Pk (q.drop k ++ q.take k) n ∧ Rel n q (q.drop k ++ q.take k) := by
  have hp : (q.drop k ++ q.take k).Perm q := by
    have h1 : (q.drop k ++ q.take k).Perm (q.take k ++ q.drop k) := List.perm_append_comm
    rwa [List.take_append_drop] at h1
  refine ⟨⟨packetB_perm (hp.map _) h.pk, by rw [hp.length_eq]; exact h.len⟩, ?_⟩
  have := balB_cut q k (by rw [h.len]; exact hk) (by rw [h.len]; exact he)
  rw [h.len] at this
  exact this
theorem card_turn_ {x : Int} (h : 0 ≤ cardOf x) : cardOf (turnC x) = cardOf x := by
  have hs := card_small h
  have e : turnC x = -1 - x := by unfold turnC; rw [if_neg (by omega)]
  rw [e]
  exact cardOf_turn x hs.1 hs.2
theorem pk_flip {a b : Int} {q : List Int} {n : Nat} (h : Pk (a :: b :: q) n) : Pk (turnC b :: turnC a :: q) n ∧ Rel n (a :: b :: q) (turnC b :: turnC a :: q) := by
  have ha := packetB_card h.pk a List.mem_cons_self
  have hb := packetB_card h.pk b (List.mem_cons_of_mem _ List.mem_cons_self)
  refine ⟨⟨packetB_perm ?_ h.pk, by have := h.len; simpa using this⟩, .inl ?_⟩
  · simp only [List.map_cons, card_turn_ ha, card_turn_ hb]
    exact List.Perm.swap _ _ _
  · simp only [balB, up_turn ha, up_turn hb]
    cases isUp a <;> cases isUp b <;> first | rfl | (simp; done) | (simp; omega)
theorem drawn_set {p : List Int} {n : Nat} (h : drawn p n) (i : Nat) (hi : i < p.length) : drawn (p.set i (-1 - p[i])) n := by
  have hx := h.2 p[i] (List.getElem_mem hi)
  refine ⟨?_, fun x hx2 => ?_⟩
  · have e : (p.set i (-1 - p[i])).map cardOf = p.map cardOf := by
      rw [List.map_set, cardOf_turn _ hx.1 hx.2]
      have : cardOf p[i] = (p.map cardOf)[i]'(by simpa using hi) := by simp
      rw [this, List.set_getElem_self]
    rw [e]; exact h.1
  · rcases List.mem_or_eq_of_mem_set hx2 with h1 | h1
    · exact h.2 x h1
    · rw [h1]; omega
end Go.Proofs.Ytobncomimkmoeaa.F
end
section
/- FnHummer: every packet of two or four cards, however turned. -/
namespace Go.Proofs.Ytobncomimkmoeaa.Pure
open Go.RowKit Go.Proofs.Ytobncomimkmoeaa.F Go.Proofs.YtobncomimkmoeaaW.PrintWords Go.Proofs.YtobncomimkmoeaaW.PrintLast Go.Proofs.YtobncomimkmoeaaW.PrintMore
set_option linter.unusedVariables false
set_option linter.unusedSimpArgs false
theorem hum_ev (p q : List Int) (hp : packetB p = true) (hn : p.length = 2 ∨ p.length = 4) (h : Rch p q) : Ev (fun k => impl_IsHummer.f k p q) true := by
  obtain ⟨L, h1, _, h3⟩ := reached_ev p hp hn
  unfold impl_IsHummer.f
  refine Ev.bind h1 ?_
  have e : (L.any fun s => decide (s = q)) = true := List.any_eq_true.mpr ⟨q, (h3 q).mpr h, decide_eq_true rfl⟩
  simp only [e]
  exact Ev.now _
theorem rel_or {n : Nat} {p q r : List Int} (hp : Pk p n) (hq : Pk q n) (h : Rel n p q) (k : Rel n q r) : Rel n p r := by
  have h1 := balB_le p true
  have h2 := balB_le q true
  rw [hp.len] at h1
  rw [hq.len] at h2
  unfold Rel at *
  omega
theorem reach_rel {p q : List Int} {n : Nat} (hp : Pk p n) (he : n % 2 = 0) (h2 : 2 ≤ n) (h : Rch p q) : Pk q n ∧ Rel n p q := by
  have cut : ∀ x y : List Int, Pk x n → y ∈ cutsL x → Pk y n ∧ Rel n x y := fun x y hx hy => by
    obtain ⟨j, hj, rfl⟩ := (cuts_mem x y).mp hy
    exact pk_cut hx he j (by have := hx.len; omega)
  refine h (fun x => Pk x n ∧ Rel n p x) ⟨hp, .inl rfl⟩ (fun x y hx hy => ?_)
  rcases hy with hy | hy
  · have h1 := cut x y hx.1 hy
    exact ⟨h1.1, rel_or hp hx.1 hx.2 h1.2⟩
  · have hxl := hx.1.len
    have hf : Pk (flip2 x) n ∧ Rel n x (flip2 x) := by
      match x, hx, hxl with
      | [], _, e => simp at e; omega
      | [_], _, e => simp at e; omega
      | a :: b :: r, hx, _ => exact pk_flip hx.1
    have h1 := cut (flip2 x) y hf.1 hy
    exact ⟨h1.1, rel_or hp hf.1 (rel_or hp hx.1 hx.2 hf.2) h1.2⟩
theorem hum_end (l p : List Int) (hl : l.length ≤ 1048576) (n : Nat) (hn : n = 2 ∨ n = 4) (h : Pk p n) : Ev (fun k => laws_FnHummer.l0 k l (n : Int) p (n : Int) (n : Int)) true := by
  have hn2 : p.length = 2 ∨ p.length = 4 := by rw [h.len]; exact hn
  obtain ⟨L, e1, s1, m1⟩ := reached_ev p h.pk hn2
  have hpL : p ∈ L := (m1 p).mpr (rch_refl p)
  have hL0 := List.length_pos_of_mem hpL
  have hLn := good_count h.pk (by rcases hn2 with e | e <;> omega) L (strict_nodup s1) (fun x hx => rch_good h.pk ((m1 x).mp hx))
  have hb := pk_bal h (by rcases hn with e | e <;> omega) (by rcases hn with e | e <;> omega)
  refine Ev.stepb e1 (fun k => by rw [laws_FnHummer.l0, if_neg (by omega)]) ?_
  refine Ev.bind hb ?_
  simp only [if_true, if_neg (show ¬ (L.length : Int) = 0 by omega)]
  refine Ev.bind (hum_ev p p h.pk hn2 (rch_refl p)) ?_
  obtain ⟨t, ht, t0, t1⟩ := num_ev l 50 hl (by omega) (by omega)
  have u0 := Int.tmod_nonneg (L.length : Int) t0
  have u1 := Int.tmod_lt_of_pos t (show (0 : Int) < (L.length : Int) by omega)
  refine Ev.stepb ht (fun k => by
    show laws_FnHummer.j1 (k + 1) l (n : Int) p L (balB true p : Int) (!true) = _
    rw [laws_FnHummer.j1, if_neg (by decide)]) ?_
  simp only [if_neg (show ¬ (L.length : Int) = 0 by omega), if_pos u0, if_pos u1]
  obtain ⟨i, hi⟩ := Int.eq_ofNat_of_zero_le u0
  rw [hi] at u1
  have hil : i < L.length := by omega
  have hrd : rd_L1 L (Int.tmod t (L.length : Int)) = L[i] := by
    rw [hi]
    unfold rd_L1
    rw [Int.toNat_natCast, List.getD_eq_getElem?_getD, List.getElem?_eq_getElem hil]
    rfl
  have hq : Rch p L[i] := (m1 _).mp (List.getElem_mem hil)
  rw [hrd]
  generalize L[i] = q at hq
  obtain ⟨hqk, hrel⟩ := reach_rel h (by rcases hn with e | e <;> omega) (by rcases hn with e | e <;> omega) hq
  have hqn : q.length = 2 ∨ q.length = 4 := by rw [hqk.len]; exact hn
  have hsym : Rch q p := rch_sym h.pk (by rcases hn2 with e | e <;> omega) hq
  obtain ⟨M, e2, s2, m2⟩ := reached_ev q hqk.pk hqn
  have hML : M = L := strict_unique s2 s1 (fun x => by rw [m1, m2]; exact ⟨fun k => rch_trans hq k, fun k => rch_trans hsym k⟩)
  subst hML
  have hb2 := pk_bal hqk (by rcases hn with e | e <;> omega) (by rcases hn with e | e <;> omega)
  refine Ev.bind hb2 (Ev.bind e2 ?_)
  simp only [if_true]
  have hle := balB_le p true
  rw [h.len] at hle
  have x1 := hum_ev p q h.pk hn2 hq
  have x2 := hum_ev q p hqk.pk hqn hsym
  by_cases c : (balB true q : Int) = (balB true p : Int)
  · simp only [if_pos c]
    refine Ev.bind x1 ?_
    simp only [if_true]
    refine Ev.bind x2 ?_
    simp only [if_true, beq_self_eq_true]
    exact Ev.now _
  · have hr2 : balB true q = n - balB true p := hrel.resolve_left (fun e => c (by rw [e]))
    have e3 : wrap64 ((n : Int) - (balB true p : Int)) = (balB true q : Int) := by rw [w64_id (by omega) (by omega), hr2]; omega
    simp only [if_neg c, e3, if_true]
    refine Ev.bind x1 ?_
    simp only [if_true]
    refine Ev.bind x2 ?_
    simp only [if_true, beq_self_eq_true]
    exact Ev.now _
theorem hum_turns (l : List Int) (hl : l.length ≤ 1048576) {n : Nat} (hn : n = 2 ∨ n = 4) (m : Nat) : ∀ (p : List Int) (i : Nat), i + m = n → drawn p n →
    Ev (fun k => laws_FnHummer.l0 k l (n : Int) p (n : Int) (i : Int)) true := by
  induction m with
  | zero =>
    intro p i hi hd
    have hlen := drawn_len hd
    obtain rfl : i = n := by omega
    exact hum_end l p hl i hn ⟨drawn_packet hd, hlen⟩
  | succ m ih =>
    intro p i hi hd
    have hlen := drawn_len hd
    have h4 : n ≤ 4 := by rcases hn with e | e <;> omega
    have w1 : wrap64 (30 + (i : Int)) = 30 + (i : Int) := w64_id (by omega) (by omega)
    have w3 : wrap64 ((i : Int) + 1) = ((i + 1 : Nat) : Int) := by rw [w64_id (by omega) (by omega)]; omega
    obtain ⟨t, ht, t0, t1⟩ := num_ev l (30 + (i : Int)) hl (by omega) (by omega)
    refine Ev.stepb ht (fun k => by rw [laws_FnHummer.l0, if_pos (by omega), w1]) ?_
    by_cases c : Int.tmod t 2 = 1
    · have hil : i < p.length := by omega
      have hx := hd.2 p[i] (List.getElem_mem hil)
      have hrd : rd p (i : Int) = p[i] := by
        show p.getD i 0 = p[i]
        rw [List.getD_eq_getElem?_getD, List.getElem?_eq_getElem hil]; rfl
      simp only [if_pos c, if_pos (show (0 : Int) ≤ (i : Int) by omega), if_pos (show (i : Int) < (p.length : Int) by omega), w3, hrd, Int.toNat_natCast]
      rw [w64_id (show -9223372036854775808 ≤ -1 - p[i] by omega) (by omega)]
      exact ih _ (i + 1) (by omega) (drawn_set hd i hil)
    · simp only [if_neg c, w3]
      exact ih p (i + 1) (by omega) hd
theorem FnHummer : laws_FnHummer.Pure := by
  intro l hm hb hw
  by_cases hbig : (l.length : Int) > 1048576
  · exact ⟨0, by unfold laws_FnHummer.f; rw [if_pos hbig]⟩
  obtain ⟨v, hv, v0, v1⟩ := num_ev l 1 (by omega) (by omega) (by omega)
  have m0 := Int.tmod_nonneg 2 v0
  have m1 := Int.tmod_lt_of_pos v (show (0 : Int) < 2 by omega)
  obtain ⟨r, hr⟩ := Int.eq_ofNat_of_zero_le m0
  have hn : wrap64 (2 + wrap64 (2 * Int.tmod v 2)) = ((2 + 2 * r : Nat) : Int) := by
    rw [hr, w64_id (show -9223372036854775808 ≤ 2 * ((r : Nat) : Int) by omega) (by omega), w64_id (by omega) (by omega)]; omega
  have hr2 : r < 2 := by omega
  obtain ⟨p, hp, hperm⟩ := perm_ev l 3 ((2 + 2 * r : Nat) : Int) (by omega) (by omega) (by omega) (by omega) (by omega)
  rw [Int.toNat_natCast] at hperm
  have hd := drawn_plain hperm (by omega)
  have hlen := drawn_len hd
  have main2 : Ev (fun k => laws_FnHummer.f k l) true := by
    unfold laws_FnHummer.f
    simp only [if_neg hbig]
    refine Ev.bind hv ?_
    rw [hn]
    refine Ev.bind hp ?_
    rw [hlen]
    exact hum_turns l (by omega) (by omega) (2 + 2 * r) p 0 (by omega) hd
  exact main2.imp fun K hK => hK K (Nat.le_refl _)
end Go.Proofs.Ytobncomimkmoeaa.Pure
end
