import Derived.Test.YtlobampnikhmnaaZFnParity4
import Derived.Test.YtlobampnikhmnaaZFnParity5
import Derived.Test.YtlobampnikhmnaaZFnParity9
import Derived.Test.YtlobampnikhmnaaZFnParity6
import Derived.Test.YtlobampnikhmnaaZFnParity8
import Derived.Test.YtlobampnikhmnaaZFnParity10
section
/- Cards, and when a list is a packet: the program's and the reference's functions tell one thing. -/
namespace Go.Proofs.Ytlobampnikhmnaa.F
open Go.RowKit Go.Proofs.YtlobampnikhmnaaW.PrintWords Go.Proofs.YtlobampnikhmnaaW.PrintLast Go.Proofs.YtlobampnikhmnaaW.PrintMore
set_option linter.unusedVariables false
set_option linter.unusedSimpArgs false
def cardOf (x : Int) : Int := if 0 ≤ x ∧ x ≤ 11 then x else if -12 ≤ x ∧ x ≤ -1 then -1 - x else -1
theorem cardOf_lt (x : Int) : cardOf x < 12 := by
  unfold cardOf
  repeat' split
  all_goals omega
theorem impl_CardOf_eq (x : Int) (h0 : -9223372036854775808 ≤ x) : impl_CardOf.f x = some (cardOf x) := by
  unfold impl_CardOf.f cardOf
  by_cases h : x < 0
  · have e : wrap64 (-1 - x) = -1 - x := w64_id (by omega) (by omega)
    simp only [if_pos h, e]
    by_cases k : -1 - x ≥ 12
    · rw [if_pos k, if_neg (by omega), if_neg (by omega)]
    · rw [if_neg k, if_neg (by omega), if_pos (by omega)]
  · simp only [if_neg h]
    by_cases k : x ≥ 12
    · rw [if_pos k, if_neg (by omega), if_neg (by omega)]
    · rw [if_neg k, if_pos (by omega)]
/-- Is a list a packet: the cards met so far are told by twelve bools. -/
def packetM : List Bool → List Int → Bool
  | _, [] => true
  | met, x :: xs => if cardOf x < 0 then false else if met.getD (cardOf x).toNat false = true then false else packetM (met.set (cardOf x).toNat true) xs
def packetB (l : List Int) : Bool := packetM (List.replicate 12 false) l
theorem impl_PacketOk_at (rest : List Int) : ∀ (pre : List Int) (met : List Bool), (pre ++ rest).length ≤ 4611686018427387904 → (∀ x ∈ rest, -9223372036854775808 ≤ x) →
    Ev (fun k => impl_PacketOk.l0 k (pre ++ rest) met (pre.length : Int)) (packetM met rest) := by
  induction rest with
  | nil =>
    intro pre met hb hw
    exact Ev.step (f := fun _ => some true) (fun k => by rw [impl_PacketOk.l0, if_neg (mid_nlt _)]) (Ev.now _)
  | cons x rest ih =>
    intro pre met hb hw
    have hx := hw x (by simp)
    unfold packetM
    by_cases c : cardOf x < 0
    · rw [if_pos c]
      exact Ev.step (f := fun _ => some false) (fun k => by rw [impl_PacketOk.l0, if_pos (mid_lt _ _ _), if_pos (nn _), mid_rd, impl_CardOf_eq x hx]; simp only [Option.bind_some]; rw [if_pos c]) (Ev.now _)
    · rw [if_neg c]
      by_cases m : met.getD (cardOf x).toNat false = true
      · rw [if_pos m]
        exact Ev.step (f := fun _ => some false) (fun k => by rw [impl_PacketOk.l0, if_pos (mid_lt _ _ _), if_pos (nn _), mid_rd, impl_CardOf_eq x hx]; simp only [Option.bind_some]; rw [if_neg c, if_pos (cardOf_lt x), if_pos m]) (Ev.now _)
      · rw [if_neg m]
        have h := ih (pre ++ [x]) (met.set (cardOf x).toNat true) (by simpa using hb) (fun y hy => hw y (by simp [hy]))
        rw [← mid_cons] at h
        exact Ev.step (fun k => by rw [impl_PacketOk.l0, if_pos (mid_lt _ _ _), if_pos (nn _), mid_rd, impl_CardOf_eq x hx]; simp only [Option.bind_some]; rw [if_neg c, if_pos (cardOf_lt x), if_neg m, mid_succ pre x (by simp at hb; omega)]) h
theorem impl_PacketOk_ev (l : List Int) (hb : l.length ≤ 4611686018427387904) (hw : ∀ x ∈ l, -9223372036854775808 ≤ x) : Ev (fun k => impl_PacketOk.f k l) (packetB l) := impl_PacketOk_at l [] _ hb hw
theorem count_set (l : List Bool) : ∀ i, i < l.length → l.getD i false ≠ true → (l.set i true).count true = l.count true + 1 := by
  induction l with
  | nil => intro i h; simp at h
  | cons b l ih =>
    intro i h hb
    cases i with
    | zero =>
      cases b with
      | true => simp at hb
      | false => simp
    | succ i =>
      have := ih i (by simpa using h) (by simpa using hb)
      simp only [List.set_cons_succ, List.count_cons]
      omega
theorem packetM_len (xs : List Int) : ∀ met : List Bool, met.length = 12 → packetM met xs = true → met.count true + xs.length ≤ 12 := by
  induction xs with
  | nil =>
    intro met hl _
    have := List.count_le_length (a := true) (l := met)
    simp; omega
  | cons x xs ih =>
    intro met hl h
    unfold packetM at h
    by_cases c : cardOf x < 0
    · rw [if_pos c] at h; cases h
    · rw [if_neg c] at h
      by_cases m : met.getD (cardOf x).toNat false = true
      · rw [if_pos m] at h; cases h
      · rw [if_neg m] at h
        have h1 := ih _ (by simpa using hl) h
        have := cardOf_lt x
        rw [count_set met _ (by omega) m] at h1
        simp; omega
theorem packetB_len {l : List Int} (h : packetB l = true) : l.length ≤ 12 := by
  have := packetM_len l _ (by simp) h
  simp at this
  omega
theorem set_getD (met : List Bool) (i j : Nat) (hi : i < met.length) : (met.set i true).getD j false = (decide (j = i) || met.getD j false) := by
  by_cases e : j = i
  · subst e
    simp [List.getD_eq_getElem?_getD, hi]
  · have e' : ¬ i = j := fun h => e h.symm
    simp [List.getD_eq_getElem?_getD, List.getElem?_set, e, e']
theorem packetM_cards (xs : List Int) : ∀ met : List Bool, packetM met xs = true → ∀ x ∈ xs, 0 ≤ cardOf x := by
  induction xs with
  | nil => intro met _ x hx; cases hx
  | cons y xs ih =>
    intro met h x hx
    unfold packetM at h
    by_cases c : cardOf y < 0
    · rw [if_pos c] at h; cases h
    · rw [if_neg c] at h
      by_cases m : met.getD (cardOf y).toNat false = true
      · rw [if_pos m] at h; cases h
      · rw [if_neg m] at h
        rcases List.mem_cons.1 hx with rfl | hx
        · omega
        · exact ih _ h x hx
theorem packetB_card {l : List Int} (h : packetB l = true) : ∀ x ∈ l, 0 ≤ cardOf x := packetM_cards l _ h
end Go.Proofs.Ytlobampnikhmnaa.F
end
section
/- Cards that lie face up: the program's function. -/
namespace Go.Proofs.Ytlobampnikhmnaa.F
open Go.RowKit Go.Proofs.YtlobampnikhmnaaW.PrintWords Go.Proofs.YtlobampnikhmnaaW.PrintLast Go.Proofs.YtlobampnikhmnaaW.PrintMore
set_option linter.unusedVariables false
set_option linter.unusedSimpArgs false
def isUp (x : Int) : Bool := decide (-12 ≤ x ∧ x ≤ -1)
theorem impl_IsUp_eq (x : Int) (h0 : -9223372036854775808 ≤ x) : impl_IsUp.f x = some (isUp x) := by
  unfold impl_IsUp.f isUp
  by_cases h : x < 0
  · rw [if_pos h, impl_CardOf_eq x h0]
    unfold cardOf
    simp only [Option.bind_some]
    congr 1
    by_cases k : -12 ≤ x
    · rw [if_neg (by omega), if_pos (by omega)]; simp; omega
    · rw [if_neg (by omega), if_neg (by omega)]; simp; omega
  · rw [if_neg h]; simp; omega
end Go.Proofs.Ytlobampnikhmnaa.F
end
section
/- The balance: the program's function. -/
namespace Go.Proofs.Ytlobampnikhmnaa.F
open Go.RowKit Go.Proofs.YtlobampnikhmnaaW.PrintWords Go.Proofs.YtlobampnikhmnaaW.PrintLast Go.Proofs.YtlobampnikhmnaaW.PrintMore
set_option linter.unusedVariables false
set_option linter.unusedSimpArgs false
def balGo : Nat → List Int → Int → Int
  | _, [], n => n
  | i, x :: xs, n => balGo (i + 1) xs (if (isUp x == (Int.tmod (i : Int) 2 == 0)) = true then wrap64 (n + 1) else n)
theorem impl_bal_at (rest : List Int) : ∀ (pre : List Int) (n : Int), (pre ++ rest).length ≤ 4611686018427387904 → (∀ x ∈ rest, -9223372036854775808 ≤ x) →
    Ev (fun k => impl_BalanceOf.l0 k n (pre ++ rest) ((pre ++ rest).length : Int) (pre.length : Int)) (balGo pre.length rest n, true) := by
  induction rest with
  | nil =>
    intro pre n hb hw
    exact Ev.step (f := fun _ => some (n, true)) (fun k => by rw [impl_BalanceOf.l0, if_neg (mid_nlt _)]) (Ev.now _)
  | cons x rest ih =>
    intro pre n hb hw
    have hx := hw x (by simp)
    have hs := mid_succ pre x (by simp at hb; omega)
    unfold balGo
    have h := ih (pre ++ [x]) (if (isUp x == (Int.tmod (pre.length : Int) 2 == 0)) = true then wrap64 (n + 1) else n) (by simpa using hb) (fun y hy => hw y (by simp [hy]))
    rw [← mid_cons, show (pre ++ [x]).length = pre.length + 1 by simp] at h
    rw [show (pre ++ [x]).length = pre.length + 1 by simp] at hs
    by_cases c : (isUp x == (Int.tmod (pre.length : Int) 2 == 0)) = true
    · rw [if_pos c] at h ⊢
      exact Ev.step (fun k => by rw [impl_BalanceOf.l0, if_pos (mid_lt _ _ _), if_pos (nn _), if_pos (mid_lt _ _ _), mid_rd, impl_IsUp_eq x hx]; simp only [Option.bind_some]; rw [if_pos c, hs]) h
    · rw [if_neg c] at h ⊢
      exact Ev.step (fun k => by rw [impl_BalanceOf.l0, if_pos (mid_lt _ _ _), if_pos (nn _), if_pos (mid_lt _ _ _), mid_rd, impl_IsUp_eq x hx]; simp only [Option.bind_some]; rw [if_neg c, hs]) h
def balanceOf (l : List Int) : Int × Bool := if packetB l = true ∧ (l.length : Int) % 2 = 0 then (balGo 0 l 0, true) else (0, false)
theorem impl_bal_ev (l : List Int) (hb : l.length ≤ 4611686018427387904) (hw : ∀ x ∈ l, -9223372036854775808 ≤ x) : Ev (fun k => impl_BalanceOf.f k l) (balanceOf l) := by
  unfold impl_BalanceOf.f balanceOf
  refine Ev.bind (impl_PacketOk_ev l hb hw) ?_
  by_cases p : packetB l = true
  · by_cases e : (l.length : Int) % 2 = 0
    · simp only [p, e, if_true, true_and]
      refine Ev.succ ?_
      simp only [impl_BalanceOf.j0, bne_self_eq_false, Bool.false_eq_true, if_false]
      exact impl_bal_at l [] 0 hb hw
    · have e' : ((l.length : Int) % 2 != 0) = true := by simpa using e
      simp only [p, e, e', if_true, if_false, true_and]
      refine Ev.succ ?_
      simp only [impl_BalanceOf.j0, if_true]
      exact Ev.now _
  · simp only [p, if_false, false_and]
    refine Ev.succ ?_
    simp only [impl_BalanceOf.j0, if_true]
    exact Ev.now _
end Go.Proofs.Ytlobampnikhmnaa.F
end
section
/- Cards turned over: the program's function. -/
namespace Go.Proofs.Ytlobampnikhmnaa.F
open Go.RowKit Go.Proofs.YtlobampnikhmnaaW.PrintWords Go.Proofs.YtlobampnikhmnaaW.PrintLast Go.Proofs.YtlobampnikhmnaaW.PrintMore
set_option linter.unusedVariables false
set_option linter.unusedSimpArgs false
def turnC (x : Int) : Int := if cardOf x < 0 then x else -1 - x
theorem card_small {x : Int} (h : 0 ≤ cardOf x) : -12 ≤ x ∧ x ≤ 11 := by
  unfold cardOf at h
  by_cases c : 0 ≤ x ∧ x ≤ 11
  · omega
  · rw [if_neg c] at h
    by_cases d : -12 ≤ x ∧ x ≤ -1
    · omega
    · rw [if_neg d] at h; omega
theorem impl_turn (x : Int) (h : -9223372036854775808 ≤ x) : impl_TurnCard.f x = some (turnC x) := by
  unfold impl_TurnCard.f turnC
  rw [impl_CardOf_eq x h]
  simp only [Option.bind_some]
  by_cases c : cardOf x < 0
  · rw [if_pos c, if_pos c]
  · have := card_small (x := x) (by omega)
    rw [if_neg c, if_neg c, w64_id (by omega) (by omega)]
theorem turn_low (x : Int) (h : -9223372036854775808 ≤ x) : -9223372036854775808 ≤ turnC x := by
  unfold turnC
  by_cases c : cardOf x < 0
  · rw [if_pos c]; exact h
  · have := card_small (x := x) (by omega)
    rw [if_neg c]; omega
end Go.Proofs.Ytlobampnikhmnaa.F
end
section
/- Counting cards that lie face up, and the two sides: the program's functions. -/
namespace Go.Proofs.Ytlobampnikhmnaa.F
open Go.RowKit Go.Proofs.YtlobampnikhmnaaW.PrintWords Go.Proofs.YtlobampnikhmnaaW.PrintLast Go.Proofs.YtlobampnikhmnaaW.PrintMore
set_option linter.unusedVariables false
set_option linter.unusedSimpArgs false
def countGo : List Int → Int → Int
  | [], n => n
  | x :: xs, n => countGo xs (if isUp x = true then wrap64 (n + 1) else n)
def turnB : Bool → List Int → List Int
  | _, [] => []
  | true, x :: xs => turnC x :: turnB false xs
  | false, x :: xs => x :: turnB true xs
theorem countUp_at (rest : List Int) : ∀ (pre : List Int) (n : Int), (pre ++ rest).length ≤ 4611686018427387904 → (∀ x ∈ rest, -9223372036854775808 ≤ x) →
    Ev (fun k => impl_CountUp.l0 k n (pre ++ rest) ((pre ++ rest).length : Int) (pre.length : Int)) (countGo rest n) := by
  induction rest with
  | nil =>
    intro pre n hb hw
    exact Ev.step (f := fun _ => some n) (fun k => by rw [impl_CountUp.l0, if_neg (mid_nlt _)]) (Ev.now _)
  | cons x rest ih =>
    intro pre n hb hw
    have hx := hw x (by simp)
    have hs := mid_succ pre x (by simp at hb; omega)
    have h := ih (pre ++ [x]) (if isUp x = true then wrap64 (n + 1) else n) (by simpa using hb) (fun y hy => hw y (by simp [hy]))
    rw [← mid_cons] at h
    unfold countGo
    by_cases c : isUp x = true
    · rw [if_pos c] at h ⊢
      exact Ev.step (fun k => by rw [impl_CountUp.l0, if_pos (mid_lt _ _ _), if_pos (nn _), if_pos (mid_lt _ _ _), mid_rd, impl_IsUp_eq x hx]; simp only [Option.bind_some]; rw [if_pos c, hs]) h
    · rw [if_neg c] at h ⊢
      exact Ev.step (fun k => by rw [impl_CountUp.l0, if_pos (mid_lt _ _ _), if_pos (nn _), if_pos (mid_lt _ _ _), mid_rd, impl_IsUp_eq x hx]; simp only [Option.bind_some]; rw [if_neg c, hs]) h
theorem countUp_ev (l : List Int) (hb : l.length ≤ 4611686018427387904) (hw : ∀ x ∈ l, -9223372036854775808 ≤ x) : Ev (fun k => impl_CountUp.f k l) (countGo l 0) := countUp_at l [] 0 hb hw
theorem step2 (n : Nat) (h : n ≤ 4611686018427387904) : wrap64 ((n : Int) + 2) = ((n + 2 : Nat) : Int) := by
  rw [w64_id (by omega) (by omega)]
  omega
theorem up_impl_at0 (pre : List Int) (hb : pre.length ≤ 1048576) (hw : ∀ x ∈ pre, -9223372036854775808 ≤ x) (i : Int) (hi : ¬ i < (pre.length : Int)) :
    Ev (fun k => impl_UpCountAfter.l0 k pre i) (countGo pre 0, true) := by
  have hc := countUp_ev pre (by omega) hw
  refine Ev.stepb hc (fun k => by rw [impl_UpCountAfter.l0, if_neg hi]) ?_
  exact Ev.now _
theorem up_impl_at1 (pre : List Int) (y : Int) (rest : List Int) (hb : (pre ++ y :: rest).length ≤ 1048576) (hy : -9223372036854775808 ≤ y) (r : Int × Bool)
    (h : Ev (fun k => impl_UpCountAfter.l0 k (pre ++ [turnC y] ++ rest) ((pre.length + 2 : Nat) : Int)) r) : Ev (fun k => impl_UpCountAfter.l0 k (pre ++ y :: rest) (pre.length : Int)) r := by
  have hs := step2 pre.length (by simp at hb; omega)
  refine Ev.step (fun k => ?_) h
  rw [impl_UpCountAfter.l0, if_pos (mid_lt _ _ _), if_pos (nn _), mid_rd, impl_turn y hy]
  simp only [Option.bind_some]
  rw [mid_set, hs]
theorem up_impl_at (n : Nat) : ∀ (rest pre : List Int), rest.length ≤ n → (pre ++ rest).length ≤ 1048576 → (∀ x ∈ pre, -9223372036854775808 ≤ x) → (∀ x ∈ rest, -9223372036854775808 ≤ x) →
    Ev (fun k => impl_UpCountAfter.l0 k (pre ++ rest) (pre.length : Int)) (countGo (pre ++ turnB true rest) 0, true) := by
  induction n with
  | zero =>
    intro rest pre hn hb hp hr
    obtain rfl : rest = [] := List.eq_nil_of_length_eq_zero (by omega)
    have := up_impl_at0 pre (by simpa using hb) hp pre.length (by omega)
    simpa [turnB] using this
  | succ n ih =>
    intro rest pre hn hb hp hr
    cases rest with
    | nil =>
      have := up_impl_at0 pre (by simpa using hb) hp pre.length (by omega)
      simpa [turnB] using this
    | cons y rest =>
      have hy := hr y (by simp)
      have hty := turn_low y hy
      refine up_impl_at1 pre y rest hb hy _ ?_
      cases rest with
      | nil =>
        have := up_impl_at0 (pre ++ [turnC y]) (by simpa using hb) (by
          intro z hz
          rcases List.mem_append.1 hz with hz | hz
          · exact hp z hz
          · rw [List.mem_singleton.1 hz]; exact hty) ((pre.length + 2 : Nat) : Int) (by rw [List.length_append]; simp only [List.length_cons, List.length_nil]; omega)
        simpa [turnB] using this
      | cons x rest =>
        have hx := hr x (by simp)
        have h := ih rest (pre ++ [turnC y, x]) (by simp at hn; omega) (by simpa using hb) (by
          intro z hz
          rcases List.mem_append.1 hz with hz | hz
          · exact hp z hz
          · simp at hz
            rcases hz with rfl | rfl
            · exact hty
            · exact hx) (fun z hz => hr z (by simp [hz]))
        simpa [turnB] using h
def upCount (l : List Int) : Int × Bool := if packetB l = true ∧ (l.length : Int) % 2 = 0 then (countGo (turnB false l) 0, true) else (0, false)
theorem up_impl_all (l : List Int) (hb : l.length ≤ 1048576) (hw : ∀ x ∈ l, -9223372036854775808 ≤ x) : Ev (fun k => impl_UpCountAfter.l0 k l 1) (countGo (turnB false l) 0, true) := by
  cases l with
  | nil =>
    have hc := countUp_ev [] (by simp) (by simp)
    refine Ev.stepb hc (fun k => by rw [impl_UpCountAfter.l0, if_neg (by simp)]) ?_
    exact Ev.now _
  | cons x xs =>
    have h := up_impl_at xs.length xs [x] (Nat.le_refl _) (by simpa using hb) (fun z hz => hw z (by simp at hz; simp [hz])) (fun z hz => hw z (by simp [hz]))
    simpa [turnB] using h
theorem up_impl_ev (l : List Int) (hb : l.length ≤ 1048576) (hw : ∀ x ∈ l, -9223372036854775808 ≤ x) : Ev (fun k => impl_UpCountAfter.f k l) (upCount l) := by
  unfold impl_UpCountAfter.f upCount
  refine Ev.bind (impl_PacketOk_ev l (by omega) hw) ?_
  by_cases p : packetB l = true
  · by_cases e : (l.length : Int) % 2 = 0
    · simp only [p, e, if_true, true_and]
      refine Ev.succ ?_
      have hcl : slices_Clone_Lint_int.f l = some l := by
        unfold slices_Clone_Lint_int.f
        rw [if_pos (by omega)]
      simp only [impl_UpCountAfter.j0, bne_self_eq_false, Bool.false_eq_true, if_false, hcl, Option.bind_some]
      exact up_impl_all l hb hw
    · have e' : ((l.length : Int) % 2 != 0) = true := by simpa using e
      simp only [p, e, e', if_true, if_false, true_and]
      refine Ev.succ ?_
      simp only [impl_UpCountAfter.j0, if_true]
      exact Ev.now _
  · simp only [p, if_false, false_and]
    refine Ev.succ ?_
    simp only [impl_UpCountAfter.j0, if_true]
    exact Ev.now _
def splitGo : List Int → List Int × List Int
  | [] => ([], [])
  | x :: xs => if isUp x = true then (cardOf x :: (splitGo xs).1, (splitGo xs).2) else if 0 ≤ cardOf x then ((splitGo xs).1, cardOf x :: (splitGo xs).2) else splitGo xs
theorem up_card {x : Int} (h : isUp x = true) : 0 ≤ cardOf x := by
  unfold isUp at h
  unfold cardOf
  have := of_decide_eq_true h
  rw [if_neg (by omega), if_pos this]
  omega
theorem split_at (rest : List Int) : ∀ (pre u d : List Int), (pre ++ rest).length ≤ 1048576 → (∀ x ∈ rest, -9223372036854775808 ≤ x) → u.length ≤ pre.length → d.length ≤ pre.length →
    Ev (fun k => impl_SplitSides.l0 k u d (pre ++ rest) ((pre ++ rest).length : Int) (pre.length : Int)) (u ++ (splitGo rest).1, d ++ (splitGo rest).2) := by
  induction rest with
  | nil =>
    intro pre u d hb hw hu hd
    refine Ev.step (f := fun _ => some (u, d)) (fun k => by rw [impl_SplitSides.l0, if_neg (mid_nlt _)]) ?_
    simpa [splitGo] using Ev.now _
  | cons x rest ih =>
    intro pre u d hb hw hu hd
    have hx := hw x (by simp)
    have hw' : ∀ y ∈ rest, -9223372036854775808 ≤ y := fun y hy => hw y (by simp [hy])
    have hlu : u.length < 17592186044416 := by simp at hb; omega
    have hld : d.length < 17592186044416 := by simp at hb; omega
    have hs := mid_succ pre x (by simp at hb; omega)
    unfold splitGo
    by_cases c : isUp x = true
    · have h := ih (pre ++ [x]) (u ++ [cardOf x]) d (by simpa using hb) hw' (by simp; omega) (by simp; omega)
      rw [← mid_cons] at h
      rw [if_pos c]
      rw [show u ++ (cardOf x :: (splitGo rest).1, (splitGo rest).2).1 = u ++ [cardOf x] ++ (splitGo rest).1 by simp]
      have := up_card c
      exact Ev.step (fun k => by rw [impl_SplitSides.l0, if_pos (mid_lt _ _ _), if_pos (nn _), if_pos (mid_lt _ _ _), mid_rd, impl_IsUp_eq x hx, impl_CardOf_eq x hx]; simp only [Option.bind_some]; rw [if_neg (by omega), if_pos c, if_pos hlu, hs]) h
    · rw [if_neg c]
      by_cases e : 0 ≤ cardOf x
      · have h := ih (pre ++ [x]) u (d ++ [cardOf x]) (by simpa using hb) hw' (by simp; omega) (by simp; omega)
        rw [← mid_cons] at h
        rw [if_pos e]
        rw [show d ++ ((splitGo rest).1, cardOf x :: (splitGo rest).2).2 = d ++ [cardOf x] ++ (splitGo rest).2 by simp]
        exact Ev.step (fun k => by rw [impl_SplitSides.l0, if_pos (mid_lt _ _ _), if_pos (nn _), if_pos (mid_lt _ _ _), mid_rd, impl_IsUp_eq x hx, impl_CardOf_eq x hx]; simp only [Option.bind_some]; rw [if_neg (by omega), if_neg c, if_pos hld, hs]) h
      · have h := ih (pre ++ [x]) u d (by simpa using hb) hw' (by simp; omega) (by simp; omega)
        rw [← mid_cons] at h
        rw [if_neg e]
        exact Ev.step (fun k => by rw [impl_SplitSides.l0, if_pos (mid_lt _ _ _), if_pos (nn _), if_pos (mid_lt _ _ _), mid_rd, impl_CardOf_eq x hx]; simp only [Option.bind_some]; rw [if_pos (by omega), hs]) h
end Go.Proofs.Ytlobampnikhmnaa.F
end
section
/- Lists put together, and lists in reverse order. -/
namespace Go.Proofs.Ytlobampnikhmnaa.F
open Go.RowKit Go.Proofs.YtlobampnikhmnaaW.PrintWords Go.Proofs.YtlobampnikhmnaaW.PrintLast Go.Proofs.YtlobampnikhmnaaW.PrintMore
set_option linter.unusedVariables false
set_option linter.unusedSimpArgs false
def lens (l : List (List Int)) : Nat := (l.map List.length).sum
theorem lens_cons (x : List Int) (l : List (List Int)) : lens (x :: l) = x.length + lens l := by simp [lens]
theorem mid_rdLL (pre : List (List Int)) (x : List Int) (rest : List (List Int)) : rd_L1 (pre ++ x :: rest) (pre.length : Int) = x := by
  unfold rd_L1
  simp
theorem concat_l1 (rest : List (List Int)) : ∀ (pre : List (List Int)) (acc : List Int), (pre ++ rest).length ≤ 4611686018427387904 → acc.length + lens rest < 17592186044416 →
    Ev (fun k => slices_Concat_Lint_int.l1 k acc (pre ++ rest) ((pre ++ rest).length : Int) (pre.length : Int)) (acc ++ rest.flatten) := by
  induction rest with
  | nil =>
    intro pre acc hb hl
    rw [show acc ++ ([] : List (List Int)).flatten = acc by simp]
    refine Ev.step (f := fun _ => some acc) (fun k => ?_) (Ev.now _)
    show slices_Concat_Lint_int.l1 (k + 1) _ _ _ _ = _
    rw [slices_Concat_Lint_int.l1, if_neg (mid_nlt _)]
  | cons x rest ih =>
    intro pre acc hb hl
    rw [lens_cons] at hl
    have h := ih (pre ++ [x]) (acc ++ x) (by simpa using hb) (by rw [List.length_append]; omega)
    rw [← mid_cons, ← mid_succ pre x (by simp at hb; omega)] at h
    rw [show acc ++ (x :: rest).flatten = acc ++ x ++ rest.flatten by simp]
    refine Ev.step (fun k => ?_) h
    show slices_Concat_Lint_int.l1 (k + 1) _ _ _ _ = _
    rw [slices_Concat_Lint_int.l1, if_pos (mid_lt _ _ _), if_pos (nn _), if_pos (mid_lt _ _ _), mid_rdLL, if_pos (by omega)]
theorem concat_l0 (X : List (List Int)) (hX : X.length ≤ 4611686018427387904) (hl : lens X < 17592186044416) (rest : List (List Int)) : ∀ (pre : List (List Int)) (s : Nat), (pre ++ rest).length ≤ 4611686018427387904 → s + lens rest < 17592186044416 →
    Ev (fun k => slices_Concat_Lint_int.l0 k X (s : Int) (pre ++ rest) ((pre ++ rest).length : Int) (pre.length : Int)) X.flatten := by
  induction rest with
  | nil =>
    intro pre s hb hs
    have h := concat_l1 X [] [] hX (by simpa using hl)
    have hg : slices_Grow_Lint_int__nil.f (s : Int) = some [] := by
      unfold slices_Grow_Lint_int__nil.f
      rw [if_pos (nn _), if_pos (by omega)]
    refine Ev.step (fun k => ?_) h
    show slices_Concat_Lint_int.l0 (k + 1) _ _ _ _ _ = _
    rw [slices_Concat_Lint_int.l0, if_neg (mid_nlt _), hg]
    rfl
  | cons x rest ih =>
    intro pre s hb hs
    rw [lens_cons] at hs
    have h := ih (pre ++ [x]) (s + x.length) (by simpa using hb) (by omega)
    rw [← mid_cons, ← mid_succ pre x (by simp at hb; omega)] at h
    have hw : wrap64 ((s : Int) + (x.length : Int)) = ((s + x.length : Nat) : Int) := by rw [w64_id (by omega) (by omega)]; omega
    refine Ev.step (fun k => ?_) h
    show slices_Concat_Lint_int.l0 (k + 1) _ _ _ _ _ = _
    rw [slices_Concat_Lint_int.l0, if_pos (mid_lt _ _ _), if_pos (nn _), if_pos (mid_lt _ _ _), mid_rdLL, hw, if_neg (by omega)]
theorem concat_ev (X : List (List Int)) (hX : X.length ≤ 4611686018427387904) (hl : lens X < 17592186044416) : Ev (fun k => slices_Concat_Lint_int.f k X) X.flatten := concat_l0 X hX hl X [] 0 hX (by omega)
theorem clone_ev (l : List Int) (hl : l.length < 17592186044416) : slices_Clone_Lint_int.f l = some l := by
  unfold slices_Clone_Lint_int.f
  rw [if_pos hl]
theorem rev_at (n : Nat) : ∀ (a mid b : List Int), mid.length ≤ n → (a ++ mid ++ b).length ≤ 4611686018427387904 → 
    Ev (fun k => slices_Reverse_Lint_int.l0 k (a ++ mid ++ b) (a.length : Int) ((a.length : Int) + (mid.length : Int) - 1)) (a ++ mid.reverse ++ b) := by
  induction n using Nat.strongRecOn with
  | ind n ih =>
    intro a mid b hn hb
    have hend : mid.length ≤ 1 → Ev (fun k => slices_Reverse_Lint_int.l0 k (a ++ mid ++ b) (a.length : Int) ((a.length : Int) + (mid.length : Int) - 1)) (a ++ mid.reverse ++ b) := by
      intro h1
      have e : mid.reverse = mid := by
        match mid, h1 with
        | [], _ => rfl
        | [x], _ => rfl
      rw [e]
      refine Ev.step (f := fun _ => some (a ++ mid ++ b)) (fun k => ?_) (Ev.now _)
      show slices_Reverse_Lint_int.l0 (k + 1) _ _ _ = _
      rw [slices_Reverse_Lint_int.l0, if_neg (by omega)]
    by_cases h1 : mid.length ≤ 1
    · exact hend h1
    · obtain ⟨x, t, rfl⟩ : ∃ x t, mid = x :: t := by
        cases mid with
        | nil => simp at h1
        | cons x t => exact ⟨x, t, rfl⟩
      rcases List.eq_nil_or_concat t with rfl | ⟨m, y, rfl⟩
      · simp at h1
      · rw [List.concat_eq_append] at *
        simp only [List.length_cons, List.length_append, List.length_nil] at hn h1 hb
        have h := ih m.length (by omega) (a ++ [y]) m ([x] ++ b) (Nat.le_refl _) (by simp; omega)
        have e1 : a ++ x :: (m ++ [y]) ++ b = a ++ x :: (m ++ y :: b) := by simp
        have e2 : a ++ x :: (m ++ y :: b) = (a ++ x :: m) ++ y :: b := by simp
        have r1 : rd (a ++ x :: (m ++ y :: b)) (a.length : Int) = x := mid_rd _ _ _
        have r2 : rd (a ++ x :: (m ++ y :: b)) ((a.length : Int) + ((m.length + 1 + 1 : Nat) : Int) - 1) = y := by
          rw [e2, show (a.length : Int) + ((m.length + 1 + 1 : Nat) : Int) - 1 = ((a ++ x :: m).length : Int) by simp; omega]
          exact mid_rd _ _ _
        have s1 : (a ++ x :: (m ++ y :: b)).set ((a.length : Int)).toNat y = (a ++ [y] ++ m) ++ y :: b := by
          rw [mid_set]; simp
        have s2 : ((a ++ [y] ++ m) ++ y :: b).set ((a.length : Int) + ((m.length + 1 + 1 : Nat) : Int) - 1).toNat x = a ++ [y] ++ m ++ ([x] ++ b) := by
          rw [show ((a.length : Int) + ((m.length + 1 + 1 : Nat) : Int) - 1) = ((a ++ [y] ++ m).length : Int) by simp; omega, mid_set]
          simp
        rw [show a ++ (x :: (m ++ [y])).reverse ++ b = a ++ [y] ++ m.reverse ++ ([x] ++ b) by simp]
        rw [e1, show (x :: (m ++ [y])).length = m.length + 1 + 1 by simp]
        refine Ev.step (fun k => ?_) h
        show slices_Reverse_Lint_int.l0 (k + 1) _ _ _ = _
        have hlen : ((a ++ x :: (m ++ y :: b)).length : Int) = (a.length : Int) + (m.length : Int) + 2 + (b.length : Int) := by simp; omega
        rw [slices_Reverse_Lint_int.l0, if_pos (by omega), if_pos (by omega), if_pos (by omega), if_pos (by omega), if_pos (by omega), r1, r2, s1, s2]
        rw [w64_id (by omega) (by omega), w64_id (by omega) (by omega)]
        congr 1
        · simp
        · simp; omega
theorem rev_ev (l : List Int) (hb : l.length ≤ 4611686018427387904) : Ev (fun k => slices_Reverse_Lint_int.f k l) l.reverse := by
  have h := rev_at l.length [] l [] (Nat.le_refl _) (by simpa using hb)
  unfold slices_Reverse_Lint_int.f
  rw [w64_id (by omega) (by omega)]
  simpa using h
theorem reversed_ev (l : List Int) (hb : l.length < 17592186044416) : Ev (fun k => impl_reversed.f k l) l.reverse := by
  unfold impl_reversed.f
  rw [clone_ev l hb]
  exact Ev.bind (a := l) (Ev.now l) (Ev.bind (rev_ev l (by omega)) (Ev.now _))
end Go.Proofs.Ytlobampnikhmnaa.F
end
section
/- Moves of the program, kind by kind: cut, deal, flip, turn, under. -/
namespace Go.Proofs.Ytlobampnikhmnaa.F
open Go.RowKit Go.Proofs.YtlobampnikhmnaaW.PrintWords Go.Proofs.YtlobampnikhmnaaW.PrintLast Go.Proofs.YtlobampnikhmnaaW.PrintMore
set_option linter.unusedVariables false
set_option linter.unusedSimpArgs false
theorem cut_ev (l : List Int) (k : Int) (hb : l.length ≤ 1048576) (h0 : 0 ≤ k) (h1 : k ≤ (l.length : Int)) : Ev (fun n => impl_moved.f n l 1 k) (l.drop k.toNat ++ l.take k.toNat) := by
  unfold impl_moved.f
  simp only [if_true, if_pos h0, if_pos h1]
  have h := concat_ev [l.drop k.toNat, l.take k.toNat] (by simp) (by simp [lens]; omega)
  rw [show [l.drop k.toNat, l.take k.toNat].flatten = l.drop k.toNat ++ l.take k.toNat by simp] at h
  exact Ev.bind h (Ev.now _)
theorem flip_at (rest : List Int) : ∀ (pre b : List Int), (pre ++ rest ++ b).length ≤ 1048576 → (∀ x ∈ rest, -9223372036854775808 ≤ x) →
    Ev (fun n => impl_moved.l0 n (((pre ++ rest).length : Nat) : Int) (pre ++ rest ++ b) (pre.length : Int)) (pre ++ rest.map turnC ++ b) := by
  induction rest with
  | nil =>
    intro pre b hb hw
    refine Ev.step (f := fun _ => some (pre ++ [] ++ b)) (fun k => ?_) (Ev.now _)
    show impl_moved.l0 (k + 1) _ _ _ = _
    rw [impl_moved.l0, if_neg (mid_nlt _)]
  | cons x rest ih =>
    intro pre b hb hw
    have h := ih (pre ++ [turnC x]) b (by simpa using hb) (fun y hy => hw y (by simp [hy]))
    have e1 : pre ++ x :: rest ++ b = pre ++ x :: (rest ++ b) := by simp
    have hlt : (pre.length : Int) < ((pre ++ x :: (rest ++ b)).length : Int) := mid_lt _ _ _
    have hb2 : pre.length ≤ 4611686018427387904 := by simp at hb; omega
    rw [show ((pre ++ [turnC x] ++ rest).length : Nat) = (pre ++ x :: rest).length by simp, ← mid_succ pre (turnC x) hb2] at h
    rw [show pre ++ (x :: rest).map turnC ++ b = pre ++ [turnC x] ++ rest.map turnC ++ b by simp]
    refine Ev.step (fun k => ?_) h
    show impl_moved.l0 (k + 1) _ _ _ = _
    rw [impl_moved.l0, if_pos (mid_lt _ _ _), if_pos (nn _), e1, if_pos hlt, mid_rd, impl_turn x (hw x (by simp)), Option.bind_some, mid_set]
    simp
theorem flip_ev (l : List Int) (k : Int) (hb : l.length ≤ 1048576) (h0 : 0 ≤ k) (h1 : k ≤ (l.length : Int)) (hw : ∀ x ∈ l, -9223372036854775808 ≤ x) : Ev (fun n => impl_moved.f n l 3 k) ((l.take k.toNat).reverse.map turnC ++ l.drop k.toNat) := by
  unfold impl_moved.f
  simp only [if_neg (show ¬ (3 : Int) = 1 by omega), if_neg (show ¬ (3 : Int) = 2 by omega), if_true, if_pos h0, if_pos h1]
  have h := concat_ev [(l.take k.toNat).reverse, l.drop k.toNat] (by simp) (by simp [lens]; omega)
  rw [show [(l.take k.toNat).reverse, l.drop k.toNat].flatten = (l.take k.toNat).reverse ++ l.drop k.toNat by simp] at h
  refine Ev.bind (reversed_ev _ (by simp; omega)) (Ev.bind h ?_)
  have hf := flip_at (l.take k.toNat).reverse [] (l.drop k.toNat) (by simp; omega) (fun x hx => hw x (List.mem_of_mem_take (List.mem_reverse.mp hx)))
  have e : ((([] ++ (l.take k.toNat).reverse).length : Nat) : Int) = k := by simp; omega
  rw [e] at hf
  simpa using hf
end Go.Proofs.Ytlobampnikhmnaa.F
end
section
/- When a move is right: the program's check. -/
namespace Go.Proofs.Ytlobampnikhmnaa.F
open Go.RowKit Go.Proofs.YtlobampnikhmnaaW.PrintWords Go.Proofs.YtlobampnikhmnaaW.PrintLast Go.Proofs.YtlobampnikhmnaaW.PrintMore
set_option linter.unusedVariables false
set_option linter.unusedSimpArgs false
def moveB (n c a : Int) : Bool := decide (1 ≤ n ∧ n ≤ 12) && (if c = 1 ∨ c = 2 ∨ c = 3 then decide (0 ≤ a ∧ a ≤ n) else if c = 4 ∨ c = 5 ∨ c = 7 then decide (0 ≤ a ∧ a ≤ 1) else if c = 6 then decide (a = 0) else if c = 8 ∨ c = 9 then decide (0 ≤ a ∧ a < n) else false)
theorem impl_MoveOk_eq (k : Nat) (n c a : Int) : impl_MoveOk.f (k + 5) n c a = some (moveB n c a) := by
  unfold impl_MoveOk.f moveB
  by_cases h1 : n < 1
  · rw [if_pos h1, decide_eq_false (by omega), Bool.false_and]; rfl
  · rw [if_neg h1]
    by_cases h2 : n > 12
    · rw [if_pos h2, decide_eq_false (by omega), Bool.false_and]; rfl
    · rw [if_neg h2, decide_eq_true (show 1 ≤ n ∧ n ≤ 12 by omega), Bool.true_and]
      by_cases h3 : a < 0
      · rw [decide_eq_true h3]
        have e1 : decide (0 ≤ a ∧ a ≤ n) = false := decide_eq_false (by omega)
        have e2 : decide (0 ≤ a ∧ a ≤ 1) = false := decide_eq_false (by omega)
        have e3 : decide (0 ≤ a ∧ a < n) = false := decide_eq_false (by omega)
        have e4 : decide (a = 0) = false := decide_eq_false (by omega)
        rw [e1, e2, e3, e4]
        simp [impl_MoveOk.j0]
      · rw [decide_eq_false h3]
        have e0 : 0 ≤ a := by omega
        by_cases c1 : c = 1
        · subst c1; simp [impl_MoveOk.j0, impl_MoveOk.j1, e0]
        by_cases c2 : c = 2
        · subst c2; simp [impl_MoveOk.j0, impl_MoveOk.j1, e0]
        by_cases c3 : c = 3
        · subst c3; simp [impl_MoveOk.j0, impl_MoveOk.j1, e0]
        by_cases c4 : c = 4
        · subst c4; simp [impl_MoveOk.j0, impl_MoveOk.j1, impl_MoveOk.j2, e0]
        by_cases c5 : c = 5
        · subst c5; simp [impl_MoveOk.j0, impl_MoveOk.j1, impl_MoveOk.j2, e0]
        by_cases c7 : c = 7
        · subst c7; simp [impl_MoveOk.j0, impl_MoveOk.j1, impl_MoveOk.j2, e0]
        by_cases c6 : c = 6
        · subst c6; simp [impl_MoveOk.j0, impl_MoveOk.j1, impl_MoveOk.j2]; rfl
        by_cases c8 : c = 8
        · subst c8; simp [impl_MoveOk.j0, impl_MoveOk.j1, impl_MoveOk.j2, e0]
        by_cases c9 : c = 9
        · subst c9; simp [impl_MoveOk.j0, impl_MoveOk.j1, impl_MoveOk.j2, e0]
        simp [impl_MoveOk.j0, impl_MoveOk.j1, impl_MoveOk.j2, c1, c2, c3, c4, c5, c6, c7, c8, c9]
theorem impl_MoveOk_ev (n c a : Int) : Ev (fun k => impl_MoveOk.f k n c a) (moveB n c a) := Ev.at_ 5 (fun k hk => by obtain ⟨m, rfl⟩ := Nat.exists_eq_add_of_le' hk; exact impl_MoveOk_eq m n c a)
end Go.Proofs.Ytlobampnikhmnaa.F
end
section
/- When a list is a packet, by its cards. -/
namespace Go.Proofs.Ytlobampnikhmnaa.F
open Go.RowKit Go.Proofs.YtlobampnikhmnaaW.PrintWords Go.Proofs.YtlobampnikhmnaaW.PrintLast Go.Proofs.YtlobampnikhmnaaW.PrintMore
set_option linter.unusedVariables false
set_option linter.unusedSimpArgs false
theorem packetM_back (xs : List Int) : ∀ met : List Bool, met.length = 12 → (∀ x ∈ xs, 0 ≤ cardOf x ∧ met.getD (cardOf x).toNat false = false) → (xs.map cardOf).Nodup → packetM met xs = true := by
  induction xs with
  | nil => intro met hm h hn; rfl
  | cons x xs ih =>
    intro met hm h hn
    have hx := h x (by simp)
    rw [List.map_cons, List.nodup_cons] at hn
    have hlt := cardOf_lt x
    unfold packetM
    rw [if_neg (by omega), hx.2, if_neg (by simp)]
    refine ih _ (by rw [List.length_set]; exact hm) (fun y hy => ?_) hn.2
    have hyy := h y (by simp [hy])
    refine ⟨hyy.1, ?_⟩
    rw [set_getD met _ _ (by omega), hyy.2, Bool.or_false]
    refine decide_eq_false (fun e => hn.1 ?_)
    have : cardOf y = cardOf x := by omega
    rw [← this]
    exact List.mem_map.mpr ⟨y, hy, rfl⟩
theorem packetM_nd (xs : List Int) : ∀ met : List Bool, met.length = 12 → packetM met xs = true → (∀ x ∈ xs, 0 ≤ cardOf x ∧ met.getD (cardOf x).toNat false = false) ∧ (xs.map cardOf).Nodup := by
  induction xs with
  | nil => intro met hm h; exact ⟨by simp, by simp⟩
  | cons x xs ih =>
    intro met hm h
    have hlt := cardOf_lt x
    unfold packetM at h
    by_cases c : cardOf x < 0
    · rw [if_pos c] at h; exact absurd h (by simp)
    · rw [if_neg c] at h
      by_cases d : met.getD (cardOf x).toNat false = true
      · rw [if_pos d] at h; exact absurd h (by simp)
      · rw [if_neg d] at h
        obtain ⟨h1, h2⟩ := ih _ (by rw [List.length_set]; exact hm) h
        have d' : met.getD (cardOf x).toNat false = false := by simpa using d
        refine ⟨fun y hy => ?_, ?_⟩
        · rcases List.mem_cons.mp hy with rfl | hy
          · exact ⟨by omega, d'⟩
          · have := h1 y hy
            rw [set_getD met _ _ (by omega), Bool.or_eq_false_iff] at this
            exact ⟨this.1, this.2.2⟩
        · rw [List.map_cons, List.nodup_cons]
          refine ⟨fun hm2 => ?_, h2⟩
          obtain ⟨y, hy, e⟩ := List.mem_map.mp hm2
          have := h1 y hy
          rw [set_getD met _ _ (by omega), Bool.or_eq_false_iff] at this
          have h3 := of_decide_eq_false this.2.1
          exact h3 (by rw [e])
theorem packetB_iff (l : List Int) : packetB l = true ↔ (∀ x ∈ l, 0 ≤ cardOf x) ∧ (l.map cardOf).Nodup := by
  constructor
  · intro h
    obtain ⟨h1, h2⟩ := packetM_nd l _ (by simp) h
    exact ⟨fun x hx => (h1 x hx).1, h2⟩
  · rintro ⟨h1, h2⟩
    refine packetM_back l _ (by simp) (fun x hx => ⟨h1 x hx, ?_⟩) h2
    generalize (cardOf x).toNat = i
    rw [List.getD_eq_getElem?_getD, List.getElem?_replicate]
    split <;> rfl
theorem packetB_perm {p q : List Int} (h : (q.map cardOf).Perm (p.map cardOf)) (hp : packetB p = true) : packetB q = true := by
  obtain ⟨h1, h2⟩ := (packetB_iff p).mp hp
  refine (packetB_iff q).mpr ⟨fun x hx => ?_, h.nodup_iff.mpr h2⟩
  have : cardOf x ∈ p.map cardOf := h.mem_iff.mp (List.mem_map.mpr ⟨x, hx, rfl⟩)
  obtain ⟨y, hy, e⟩ := List.mem_map.mp this
  rw [← e]
  exact h1 y hy
end Go.Proofs.Ytlobampnikhmnaa.F
end
section
/- What the makers of arguments give: numbers in their bounds, whatever the code is. -/
namespace Go.Proofs.Ytlobampnikhmnaa.F
open Go.RowKit Go.Proofs.YtlobampnikhmnaaW.PrintWords Go.Proofs.YtlobampnikhmnaaW.PrintLast Go.Proofs.YtlobampnikhmnaaW.PrintMore
set_option linter.unusedVariables false
set_option linter.unusedSimpArgs false
theorem and_255 (x : Int) : 0 ≤ Go.bits .and .i64 x 255 ∧ Go.bits .and .i64 x 255 ≤ 255 := by
  have h : (BitVec.ofInt 64 x &&& BitVec.ofInt 64 255).toNat ≤ 255 := by
    rw [BitVec.toNat_and]
    exact Nat.le_trans Nat.and_le_right (by decide)
  have e : Go.bits .and .i64 x 255 = wrap64 (((BitVec.ofInt 64 x &&& BitVec.ofInt 64 255).toNat : Nat) : Int) := i64_w _
  rw [e, w64_id (by omega) (by omega)]
  omega
/-- The cursor stands within its code. -/
def curB (f0 : List Int) (f1 : Int) : Prop := 0 ≤ f1 ∧ f1 ≤ (f0.length : Int) ∧ f0.length ≤ 1048576
theorem byte_ex (f0 : List Int) (f1 f2 : Int) (h : curB f0 f1) : ∃ b g1 g2, spec_l01Byte.f f0 f1 f2 = some (b, g1, g2) ∧ 0 ≤ b ∧ b ≤ 255 ∧ curB f0 g1 := by
  obtain ⟨h0, h1, h2⟩ := h
  unfold spec_l01Byte.f
  by_cases c : f1 < (f0.length : Int)
  · rw [if_pos c, if_pos h0]
    have hw : wrap64 (f1 + 1) = f1 + 1 := w64_id (by omega) (by omega)
    exact ⟨_, _, _, rfl, (and_255 _).1, (and_255 _).2, by rw [hw]; omega, by rw [hw]; omega, h2⟩
  · rw [if_neg c]
    exact ⟨_, _, _, rfl, (and_255 _).1, (and_255 _).2, h0, h1, h2⟩
theorem below_ex (f0 : List Int) (f1 f2 n : Int) (h : curB f0 f1) (h0 : 1 ≤ n) (h1 : n ≤ 256) : ∃ b g1 g2, spec_l01Below.f f0 f1 f2 n = some (b, g1, g2) ∧ 0 ≤ b ∧ b < n ∧ curB f0 g1 := by
  obtain ⟨b, g1, g2, hb, b0, b1, hc⟩ := byte_ex f0 f1 f2 h
  unfold spec_l01Below.f
  rw [if_neg (by omega), if_pos h1, hb, Option.bind_some, if_neg (by omega)]
  refine ⟨_, _, _, rfl, ?_, ?_, hc⟩
  · exact Int.tmod_nonneg _ b0
  · exact Int.tmod_lt_of_pos _ (by omega)
theorem new_at (rest : List Int) : ∀ (pre : List Int) (h : Int), (pre ++ rest).length ≤ 1048576 →
    ∃ r, Ev (fun k => spec_l01New.l0 k (pre ++ rest) h (pre.length : Int)) (pre ++ rest, 0, r) := by
  induction rest with
  | nil =>
    intro pre h hb
    refine ⟨h, Ev.step (f := fun _ => some (pre ++ [], 0, h)) (fun k => ?_) (Ev.now _)⟩
    show spec_l01New.l0 (k + 1) _ h _ = _
    rw [spec_l01New.l0, if_neg (mid_nlt _)]
  | cons x rest ih =>
    intro pre h hb
    by_cases c : (pre.length : Int) < 4000
    · obtain ⟨r, hr⟩ := ih (pre ++ [x]) (Go.bits .and .i64 (wrap64 ((wrap64 ((wrap64 (h * 101)) + (wrap64 x))) + 7)) 1073741823) (by simpa using hb)
      rw [← mid_cons, ← mid_succ pre x (by simp at hb; omega)] at hr
      refine ⟨r, Ev.step (fun k => ?_) hr⟩
      show spec_l01New.l0 (k + 1) _ h _ = _
      rw [spec_l01New.l0, if_pos (mid_lt _ _ _), if_pos c, if_pos (nn _), mid_rd]
    · refine ⟨h, Ev.step (f := fun _ => some (pre ++ x :: rest, 0, h)) (fun k => ?_) (Ev.now _)⟩
      show spec_l01New.l0 (k + 1) _ h _ = _
      rw [spec_l01New.l0, if_pos (mid_lt _ _ _), if_neg c]
theorem new_ev (l : List Int) (hb : l.length ≤ 1048576) : ∃ r, Ev (fun k => spec_l01New.f k l) (l, 0, r) := new_at l [] _ hb
theorem l23_at (f0 : List Int) (n : Nat) : ∀ (i : Int) (a f1 f2 : Int), i + n = a → 0 ≤ i → a ≤ 1048576 → curB f0 f1 →
    ∃ g1 g2, Ev (fun k => spec_l23New.l0 k a f0 f1 f2 i) (f0, g1, g2) ∧ curB f0 g1 := by
  induction n with
  | zero =>
    intro i a f1 f2 hn hi ha h
    refine ⟨f1, f2, Ev.step (f := fun _ => some (f0, f1, f2)) (fun k => ?_) (Ev.now _), h⟩
    show spec_l23New.l0 (k + 1) a f0 f1 f2 i = _
    rw [spec_l23New.l0, if_neg (by omega)]
  | succ n ih =>
    intro i a f1 f2 hn hi ha h
    obtain ⟨b, g1, g2, hb, _, _, hc⟩ := byte_ex f0 f1 f2 h
    obtain ⟨e1, e2, he, hf⟩ := ih (i + 1) a g1 g2 (by omega) (by omega) ha hc
    refine ⟨e1, e2, Ev.step (fun k => ?_) he, hf⟩
    show spec_l23New.l0 (k + 1) a f0 f1 f2 i = _
    rw [spec_l23New.l0, if_pos (by omega), hb, Option.bind_some, w64_id (by omega) (by omega)]
theorem l23_ev (l : List Int) (a : Int) (hb : l.length ≤ 1048576) (h0 : 0 ≤ a) (h1 : a ≤ 1048576) : ∃ g1 g2, Ev (fun k => spec_l23New.f k l a) (l, g1, g2) ∧ curB l g1 := by
  obtain ⟨r, hr⟩ := new_ev l hb
  obtain ⟨g1, g2, hg, hc⟩ := l23_at l a.toNat 0 a 0 r (by omega) (by omega) h1 ⟨by omega, by omega, hb⟩
  unfold spec_l23New.f
  exact ⟨g1, g2, Ev.bind hr hg, hc⟩
theorem num_ev (l : List Int) (a : Int) (hb : l.length ≤ 1048576) (h0 : 0 ≤ a) (h1 : a ≤ 1048576) : ∃ v, Ev (fun k => spec_MakeNum.f k l a) v ∧ 0 ≤ v ∧ v ≤ 65535 := by
  obtain ⟨g1, g2, hg, hc⟩ := l23_ev l a hb h0 h1
  obtain ⟨b, c1, c2, hb1, b0, b1, hc1⟩ := byte_ex l g1 g2 hc
  obtain ⟨d, e1, e2, hd1, d0, d1, hc2⟩ := byte_ex l c1 c2 hc1
  refine ⟨b * 256 + d, ?_, by omega, by omega⟩
  unfold spec_MakeNum.f
  refine Ev.bind hg ?_
  simp only [hb1, hd1, Option.bind_some]
  rw [w64_id (show -9223372036854775808 ≤ b * 256 by omega) (by omega), w64_id (by omega) (by omega)]
  exact Ev.now _
end Go.Proofs.Ytlobampnikhmnaa.F
end
section
/- Shuffled packets: a permutation of the numbers below n, some of which are turned over. -/
namespace Go.Proofs.Ytlobampnikhmnaa.F
open Go.RowKit Go.Proofs.YtlobampnikhmnaaW.PrintWords Go.Proofs.YtlobampnikhmnaaW.PrintLast Go.Proofs.YtlobampnikhmnaaW.PrintMore
set_option linter.unusedVariables false
set_option linter.unusedSimpArgs false
theorem seqFrom_snoc (n : Nat) : ∀ a : Int, seqFrom a (n + 1) = seqFrom a n ++ [a + n] := by
  induction n with
  | zero => intro a; simp [seqFrom]
  | succ n ih =>
    intro a
    rw [show seqFrom a (n + 1 + 1) = a :: seqFrom (a + 1) (n + 1) from rfl, ih (a + 1), show seqFrom a (n + 1) = a :: seqFrom (a + 1) n from rfl]
    simp
    omega
theorem swap_perm (x : List Int) (j : Nat) (hj : j < x.length) (v : Int) : (x.set j v ++ [x.getD j 0]).Perm (x ++ [v]) := by
  have e : x = x.take j ++ x.getD j 0 :: x.drop (j + 1) := by
    rw [List.getD_eq_getElem?_getD, List.getElem?_eq_getElem hj]
    simp
  have e2 : x.set j v = x.take j ++ v :: x.drop (j + 1) := List.set_eq_take_append_cons_drop.trans (by rw [if_pos hj])
  rw [e2]
  conv => rhs; rw [e]
  generalize x.getD j 0 = a
  generalize x.take j = p
  generalize x.drop (j + 1) = q
  rw [List.append_assoc, List.append_assoc, List.cons_append, List.cons_append]
  refine List.Perm.append_left p ?_
  have h1 : (v :: (q ++ [a])).Perm (v :: a :: q) := (List.perm_append_singleton a q).cons v
  have h2 : (a :: (q ++ [v])).Perm (a :: v :: q) := (List.perm_append_singleton v q).cons a
  exact h1.trans ((List.Perm.swap a v q).trans h2.symm)
theorem shuffle_at (f0 : List Int) (m : Nat) : ∀ (n : Nat) (x : List Int) (f1 f2 : Int), n + m ≤ 256 → x.Perm (seqFrom 0 n) → curB f0 f1 →
    ∃ r g1 g2, Ev (fun k => spec_l02Shuffle.l0 k ((n + m : Nat) : Int) x (n : Int) f0 f1 f2) (r, g1, g2) ∧ r.Perm (seqFrom 0 (n + m)) ∧ curB f0 g1 := by
  induction m with
  | zero =>
    intro n x f1 f2 hb hp hc
    refine ⟨x, f1, f2, Ev.step (f := fun _ => some (x, f1, f2)) (fun k => ?_) (Ev.now _), hp, hc⟩
    show spec_l02Shuffle.l0 (k + 1) _ x _ f0 f1 f2 = _
    rw [spec_l02Shuffle.l0, if_neg (by omega)]
  | succ m ih =>
    intro n x f1 f2 hb hp hc
    have hlen : x.length = n := by rw [hp.length_eq, seqFrom_length]
    obtain ⟨b, g1, g2, hbl, b0, b1, hcg⟩ := below_ex f0 f1 f2 ((n : Int) + 1) hc (by omega) (by omega)
    obtain ⟨j, rfl⟩ := Int.eq_ofNat_of_zero_le b0
    have hw : wrap64 ((n : Int) + 1) = (n : Int) + 1 := w64_id (by omega) (by omega)
    have hnew : (((x ++ [(n : Int)]).set n (rd (x ++ [(n : Int)]) (j : Int))).set j (n : Int)).Perm (seqFrom 0 (n + 1)) := by
      rw [seqFrom_snoc, Int.zero_add]
      by_cases e : j = n
      · subst e
        have e1 : rd (x ++ [(j : Int)]) (j : Int) = (j : Int) := by
          have := mid_rd x (j : Int) []
          rwa [hlen] at this
        rw [e1]
        have e2 : ((x ++ [(j : Int)]).set j (j : Int)) = x ++ [(j : Int)] := by
          have := mid_set x (j : Int) (j : Int) []
          rw [hlen, Int.toNat_natCast] at this
          simpa using this
        rw [e2, e2]
        exact hp.append_right _
      · have hj : j < x.length := by omega
        have e1 : rd (x ++ [(n : Int)]) (j : Int) = x.getD j 0 := by
          unfold rd
          simp [List.getD_eq_getElem?_getD, List.getElem?_append_left hj]
        have e2 : ((x ++ [(n : Int)]).set n (x.getD j 0)) = x ++ [x.getD j 0] := by
          have := mid_set x (n : Int) (x.getD j 0) []
          rw [hlen, Int.toNat_natCast] at this
          simpa using this
        rw [e1, e2, List.set_append_left _ _ hj]
        exact (swap_perm x j hj (n : Int)).trans (hp.append_right _)
    obtain ⟨r, e1, e2, he, hr, hc2⟩ := ih (n + 1) _ g1 g2 (by omega) hnew hcg
    refine ⟨r, e1, e2, Ev.step (fun k => ?_) he, by rw [show n + (m + 1) = n + 1 + m by omega]; exact hr, hc2⟩
    show spec_l02Shuffle.l0 (k + 1) _ x _ f0 f1 f2 = _
    have hl2 : ((x ++ [(n : Int)]).length : Int) = (n : Int) + 1 := by rw [List.length_append, hlen]; simp
    rw [spec_l02Shuffle.l0, if_pos (by omega), hw, hbl, Option.bind_some, if_pos (by omega), Option.bind_some, if_pos b0, if_pos (by rw [hl2]; exact b1), if_pos (by omega), if_pos (by rw [hl2]; omega), Int.toNat_natCast, Int.toNat_natCast]
    rw [show ((n + 1 : Nat) : Int) = (n : Int) + 1 by omega, show ((n + (m + 1) : Nat) : Int) = ((n + 1 + m : Nat) : Int) by omega]
theorem shuffle_ev (f0 : List Int) (n : Nat) (f1 f2 : Int) (hn : n ≤ 256) (hc : curB f0 f1) : ∃ r g1 g2, Ev (fun k => spec_l02Shuffle.f k f0 f1 f2 (n : Int)) (r, g1, g2) ∧ r.Perm (seqFrom 0 n) ∧ curB f0 g1 := by
  have h := shuffle_at f0 n 0 [] f1 f2 (by omega) (by simp [seqFrom]) hc
  rw [Nat.zero_add] at h
  exact h
end Go.Proofs.Ytlobampnikhmnaa.F
end
section
/- Packets that are drawn are packets. -/
namespace Go.Proofs.Ytlobampnikhmnaa.F
open Go.RowKit Go.Proofs.YtlobampnikhmnaaW.PrintWords Go.Proofs.YtlobampnikhmnaaW.PrintLast Go.Proofs.YtlobampnikhmnaaW.PrintMore
set_option linter.unusedVariables false
set_option linter.unusedSimpArgs false
theorem mem_seqFrom (n : Nat) : ∀ (a x : Int), x ∈ seqFrom a n ↔ a ≤ x ∧ x < a + n := by
  induction n with
  | zero =>
    intro a x
    simp only [seqFrom, List.not_mem_nil, false_iff]
    omega
  | succ n ih =>
    intro a x
    rw [show seqFrom a (n + 1) = a :: seqFrom (a + 1) n from rfl, List.mem_cons, ih]
    omega
theorem nodup_seqFrom (n : Nat) : ∀ a : Int, (seqFrom a n).Nodup := by
  induction n with
  | zero => intro a; simp [seqFrom]
  | succ n ih =>
    intro a
    rw [show seqFrom a (n + 1) = a :: seqFrom (a + 1) n from rfl, List.nodup_cons, mem_seqFrom]
    exact ⟨by omega, ih _⟩
theorem packetM_of (xs : List Int) : ∀ met : List Bool, met.length = 12 → (∀ x ∈ xs, 0 ≤ cardOf x ∧ met.getD (cardOf x).toNat false = false) → (xs.map cardOf).Nodup → packetM met xs = true := by
  induction xs with
  | nil => intro met hm h hn; rfl
  | cons x xs ih =>
    intro met hm h hn
    have hx := h x (by simp)
    rw [List.map_cons, List.nodup_cons] at hn
    have hlt := cardOf_lt x
    unfold packetM
    rw [if_neg (by omega), hx.2, if_neg (by simp)]
    refine ih _ (by rw [List.length_set]; exact hm) (fun y hy => ?_) hn.2
    have hyy := h y (by simp [hy])
    refine ⟨hyy.1, ?_⟩
    rw [set_getD met _ _ (by omega), hyy.2, Bool.or_false]
    refine decide_eq_false (fun e => hn.1 ?_)
    have : cardOf y = cardOf x := by omega
    rw [← this]
    exact List.mem_map.mpr ⟨y, hy, rfl⟩
/-- A packet of the cards below n, turned or not. -/
def drawn (r : List Int) (n : Nat) : Prop := (r.map cardOf).Perm (seqFrom 0 n) ∧ ∀ x ∈ r, -12 ≤ x ∧ x ≤ 11
theorem drawn_len {r : List Int} {n : Nat} (h : drawn r n) : r.length = n := by
  have := h.1.length_eq
  rwa [List.length_map, seqFrom_length] at this
theorem drawn_packet {r : List Int} {n : Nat} (h : drawn r n) : packetB r = true := by
  have hn : (r.map cardOf).Nodup := h.1.nodup_iff.mpr (nodup_seqFrom n 0)
  refine packetM_of r _ (by simp) (fun x hx => ⟨?_, ?_⟩) hn
  · have hm : cardOf x ∈ seqFrom 0 n := h.1.mem_iff.mp (List.mem_map.mpr ⟨x, hx, rfl⟩)
    exact ((mem_seqFrom n 0 _).mp hm).1
  · have := cardOf_lt x
    generalize (cardOf x).toNat = i
    rw [List.getD_eq_getElem?_getD, List.getElem?_replicate]
    split <;> rfl
theorem cardOf_id (x : Int) (h0 : 0 ≤ x) (h1 : x ≤ 11) : cardOf x = x := by
  unfold cardOf
  rw [if_pos ⟨h0, h1⟩]
theorem drawn_plain {r : List Int} {n : Nat} (h : r.Perm (seqFrom 0 n)) (hn : n ≤ 12) : drawn r n := by
  have hr : ∀ x ∈ r, 0 ≤ x ∧ x ≤ 11 := fun x hx => by
    have := (mem_seqFrom n 0 x).mp (h.mem_iff.mp hx)
    omega
  refine ⟨?_, fun x hx => by have := hr x hx; omega⟩
  rw [List.map_congr_left (g := id) (fun x hx => cardOf_id x (hr x hx).1 (hr x hx).2), List.map_id]
  exact h
theorem cardOf_turn (x : Int) (h0 : -12 ≤ x) (h1 : x ≤ 11) : cardOf (-1 - x) = cardOf x := by
  unfold cardOf
  by_cases c : 0 ≤ x
  · rw [if_neg (by omega), if_pos (by omega), if_pos (by omega)]
    omega
  · rw [if_pos (by omega), if_neg (by omega), if_pos (by omega)]
theorem perm_ev (l : List Int) (a b : Int) (hb : l.length ≤ 1048576) (h0 : 0 ≤ a) (h1 : a ≤ 1048576) (b0 : 1 ≤ b) (b1 : b ≤ 12) : ∃ r, Ev (fun k => spec_MakePerm.f k l a b) r ∧ r.Perm (seqFrom 0 b.toNat) := by
  obtain ⟨g1, g2, hg, hc⟩ := l23_ev l a hb h0 h1
  have hm : mx 1 (mn b 12) = ((b.toNat : Nat) : Int) := by unfold mx mn; repeat' split <;> omega
  obtain ⟨r, e1, e2, he, hd, _⟩ := shuffle_ev l b.toNat g1 g2 (by omega) hc
  refine ⟨r, ?_, hd⟩
  unfold spec_MakePerm.f
  rw [hm]
  exact Ev.bind hg (Ev.bind he (Ev.now _))
end Go.Proofs.Ytlobampnikhmnaa.F
end
section
/- FnParity: turning pairs over and cutting. -/
namespace Go.Proofs.Ytlobampnikhmnaa.Pure
open Go.RowKit Go.Proofs.Ytlobampnikhmnaa.F Go.Proofs.YtlobampnikhmnaaW.PrintWords Go.Proofs.YtlobampnikhmnaaW.PrintLast Go.Proofs.YtlobampnikhmnaaW.PrintMore
set_option linter.unusedVariables false
set_option linter.unusedSimpArgs false
def balB : Bool → List Int → Nat
  | _, [] => 0
  | b, x :: xs => (if (isUp x == b) = true then 1 else 0) + balB (!b) xs
theorem balB_le (l : List Int) : ∀ b, balB b l ≤ l.length := by
  induction l with
  | nil => intro b; exact Nat.le_refl _
  | cons x l ih =>
    intro b
    have := ih (!b)
    simp only [balB, List.length_cons]
    split <;> omega
theorem par_b (i : Nat) : (Int.tmod (i : Int) 2 == 0) = decide (i % 2 = 0) := by
  have e : Int.tmod (i : Int) 2 = ((i % 2 : Nat) : Int) := (Int.ofNat_tmod i 2).symm
  rw [e]
  rcases Nat.mod_two_eq_zero_or_one i with h | h <;> rw [h] <;> decide
theorem par_not (i : Nat) : decide ((i + 1) % 2 = 0) = !decide (i % 2 = 0) := by
  rcases Nat.mod_two_eq_zero_or_one i with h | h
  · rw [h, show (i + 1) % 2 = 1 by omega]; decide
  · rw [h, show (i + 1) % 2 = 0 by omega]; decide
theorem balGo_eq (l : List Int) : ∀ (i : Nat) (n : Int), 0 ≤ n → n + l.length ≤ 1000000 → balGo i l n = n + balB (decide (i % 2 = 0)) l := by
  induction l with
  | nil => intro i n _ _; simp [balGo, balB]
  | cons x l ih =>
    intro i n h0 h1
    simp only [List.length_cons] at h1
    unfold balGo balB
    rw [par_b, ← par_not]
    by_cases c : (isUp x == decide (i % 2 = 0)) = true
    · rw [if_pos c, if_pos c, w64_id (by omega) (by omega), ih (i + 1) (n + 1) (by omega) (by omega)]
      omega
    · rw [if_neg c, if_neg c, ih (i + 1) n h0 (by omega)]
      omega
theorem balB_not (l : List Int) : ∀ b, balB (!b) l + balB b l = l.length := by
  induction l with
  | nil => intro b; rfl
  | cons x l ih =>
    intro b
    have h := ih (!b)
    simp only [balB, List.length_cons]
    cases hx : isUp x <;> cases b <;> simp at h ⊢ <;> omega
theorem balB_app (l m : List Int) : ∀ b, balB b (l ++ m) = balB b l + balB (if l.length % 2 = 0 then b else !b) m := by
  induction l with
  | nil => intro b; simp [balB]
  | cons x l ih =>
    intro b
    rw [List.cons_append]
    simp only [balB, List.length_cons]
    rw [ih (!b)]
    rcases Nat.mod_two_eq_zero_or_one l.length with h | h
    · rw [if_pos h, if_neg (show ¬ ((l.length + 1) % 2 = 0) by omega)]; omega
    · rw [if_neg (show ¬ (l.length % 2 = 0) by omega), if_pos (show (l.length + 1) % 2 = 0 by omega), Bool.not_not]; omega
theorem balB_cut (l : List Int) (k : Nat) (hk : k ≤ l.length) (hn : l.length % 2 = 0) : balB true (l.drop k ++ l.take k) = balB true l ∨ balB true (l.drop k ++ l.take k) = l.length - balB true l := by
  have e : balB true l = balB true (l.take k) + balB (if (l.take k).length % 2 = 0 then true else !true) (l.drop k) := by
    conv => lhs; rw [← List.take_append_drop k l]
    exact balB_app _ _ _
  rw [balB_app, e]
  have h1 : (l.take k).length = k := by simp; omega
  have h2 : (l.drop k).length = l.length - k := by simp
  have n1 := balB_not (l.take k) true
  have n2 := balB_not (l.drop k) true
  rw [h1, h2]
  rw [h1] at n1
  rw [h2] at n2
  rcases Nat.mod_two_eq_zero_or_one k with h | h
  · left; rw [if_pos h, if_pos (by omega)]; omega
  · right
    rw [if_neg (by omega), if_neg (by omega)]
    simp only [Bool.not_true] at n1 n2 ⊢
    omega
theorem up_turn {x : Int} (h : 0 ≤ cardOf x) : isUp (turnC x) = !isUp x := by
  have hs := card_small h
  unfold turnC isUp
  rw [if_neg (by omega)]
  by_cases c : x ≤ -1
  · rw [decide_eq_false (by omega), decide_eq_true (by omega)]; rfl
  · rw [decide_eq_true (by omega), decide_eq_false (by omega)]; rfl
theorem countGo_turn (l : List Int) : ∀ (b : Bool) (n : Int), 0 ≤ n → n + l.length ≤ 1000000 → (∀ x ∈ l, 0 ≤ cardOf x) → countGo (turnB b l) n = n + balB (!b) l := by
  induction l with
  | nil => intro b n _ _ _; simp [turnB, countGo, balB]
  | cons x l ih =>
    intro b n h0 h1 hc
    simp only [List.length_cons] at h1
    have hx := up_turn (hc x List.mem_cons_self)
    have hc2 : ∀ y ∈ l, 0 ≤ cardOf y := fun y hy => hc y (List.mem_cons_of_mem _ hy)
    cases b with
    | false =>
      simp only [turnB, countGo, balB, Bool.not_false]
      cases hu : isUp x
      · have := ih true n h0 (by omega) hc2
        simpa using this
      · have := ih true (n + 1) (by omega) (by omega) hc2
        simp only [if_true, w64_id (show -9223372036854775808 ≤ n + 1 by omega) (show n + 1 ≤ 9223372036854775807 by omega)]
        simp at this ⊢
        omega
    | true =>
      simp only [turnB, countGo, balB, Bool.not_true]
      cases hu : isUp x
      · have := ih false (n + 1) (by omega) (by omega) hc2
        rw [hu] at hx
        simp only [hx, Bool.not_false, if_true, w64_id (show -9223372036854775808 ≤ n + 1 by omega) (show n + 1 ≤ 9223372036854775807 by omega)]
        simp at this ⊢
        omega
      · have := ih false n h0 (by omega) hc2
        rw [hu] at hx
        simp only [hx]
        simpa using this
theorem countGo_split (l : List Int) : ∀ n : Int, 0 ≤ n → n + l.length ≤ 1000000 → countGo l n = n + (splitGo l).1.length := by
  induction l with
  | nil => intro n _ _; simp [countGo, splitGo]
  | cons x l ih =>
    intro n h0 h1
    simp only [List.length_cons] at h1
    simp only [countGo, splitGo]
    cases hu : isUp x
    · have h := ih n h0 (by omega)
      simp only [Bool.false_eq_true, if_false]
      rw [h]
      split <;> rfl
    · have h := ih (n + 1) (by omega) (by omega)
      simp only [if_true, w64_id (show -9223372036854775808 ≤ n + 1 by omega) (show n + 1 ≤ 9223372036854775807 by omega), List.length_cons]
      rw [h]
      omega
theorem split_all (l : List Int) (hc : ∀ x ∈ l, 0 ≤ cardOf x) : (splitGo l).1.length + (splitGo l).2.length = l.length := by
  induction l with
  | nil => rfl
  | cons x l ih =>
    have h := ih (fun y hy => hc y (List.mem_cons_of_mem _ hy))
    have hx := hc x List.mem_cons_self
    simp only [splitGo]
    split
    · simp only [List.length_cons]; omega
    · simp only [hx, if_true, List.length_cons]; omega
/-- A packet of n cards, n even. -/
structure Pk (q : List Int) (n : Nat) : Prop where
  pk : packetB q = true
  len : q.length = n
theorem Pk.low {q : List Int} {n : Nat} (h : Pk q n) : ∀ x ∈ q, -9223372036854775808 ≤ x := fun x hx => by
  have := card_small (packetB_card h.pk x hx); omega
theorem pk_bal {q : List Int} {n : Nat} (h : Pk q n) (hn : n ≤ 12) (he : n % 2 = 0) : Ev (fun k => impl_BalanceOf.f k q) ((balB true q : Int), true) := by
  have E := impl_bal_ev q (by have := h.len; omega) (Pk.low h)
  have e : balanceOf q = ((balB true q : Int), true) := by
    unfold balanceOf
    rw [if_pos ⟨h.pk, by rw [h.len]; omega⟩, balGo_eq q 0 0 (by omega) (by have := h.len; omega)]
    simp
  rw [e] at E
  exact E
theorem pk_perform {q q' : List Int} {n : Nat} (h : Pk q n) (c a : Int) (hm : moveB (n : Int) c a = true) (hq : Ev (fun k => impl_moved.f k q c a) q') : Ev (fun k => impl_Perform.f k q c a) (q', true) := by
  unfold impl_Perform.f
  refine Ev.bind (impl_PacketOk_ev q (by have := packetB_len h.pk; omega) (Pk.low h)) ?_
  simp only [h.pk, if_true, h.len]
  refine Ev.bind (impl_MoveOk_ev (n : Int) c a) ?_
  simp only [hm, if_true]
  exact Ev.bind hq (Ev.now _)
/-- The one is the other's balance or its complement. -/
def Rel (n : Nat) (q q' : List Int) : Prop := balB true q' = balB true q ∨ balB true q' = n - balB true q
theorem pk_keeps {q q' : List Int} {n : Nat} (h : Pk q n) (h' : Pk q' n) (hn : n ≤ 12) (he : n % 2 = 0) (c a : Int) (hp : Ev (fun k => impl_Perform.f k q c a) (q', true)) (hr : Rel n q q') : Ev (fun k => impl_KeepsBalance.f k q c a) true := by
  unfold impl_KeepsBalance.f
  have hle := balB_le q true
  rw [h.len] at hle
  refine Ev.bind (pk_bal h hn he) (Ev.bind hp (Ev.bind (pk_bal h' hn he) ?_))
  simp only [if_true, h.len]
  by_cases c : (balB true q' : Int) = (balB true q : Int)
  · simp only [if_pos c]; exact Ev.now _
  · simp only [if_neg c]
    have hr2 : balB true q' = n - balB true q := hr.resolve_left (fun e => c (by rw [e]))
    have e2 : wrap64 ((n : Int) - (balB true q : Int)) = (balB true q' : Int) := by rw [w64_id (by omega) (by omega), hr2]; omega
    rw [e2, beq_self_eq_true]
    exact Ev.now _
theorem par_j3 {l : List Int} {q q' : List Int} {n : Nat} {b i : Int} (h : Pk q n) (h' : Pk q' n) (hn : n ≤ 12) (he : n % 2 = 0) (c a : Int) (hm : moveB (n : Int) c a = true) (hq : Ev (fun k => impl_moved.f k q c a) q') (hr : Rel n q q')
    (hl : Ev (fun k => laws_FnParity.l1 k l (n : Int) b q' (wrap64 (i + 1))) true) : Ev (fun k => laws_FnParity.j3 k l (n : Int) b q i c a) true := by
  have hp := pk_perform h c a hm hq
  refine Ev.stepb hp (fun k => by rw [laws_FnParity.j3]) ?_
  simp only [if_true]
  refine Ev.bind (pk_keeps h h' hn he c a hp hr) ?_
  simp only [if_true]
  exact hl
theorem pk_cut {q : List Int} {n : Nat} (h : Pk q n) (he : n % 2 = 0) (k : Nat) (hk : k ≤ n) : Pk (q.drop k ++ q.take k) n ∧ Rel n q (q.drop k ++ q.take k) := by
  have hp : (q.drop k ++ q.take k).Perm q := by
    have h1 : (q.drop k ++ q.take k).Perm (q.take k ++ q.drop k) := List.perm_append_comm
    rwa [List.take_append_drop] at h1
  refine ⟨⟨packetB_perm (hp.map _) h.pk, by rw [hp.length_eq]; exact h.len⟩, ?_⟩
  have := balB_cut q k (by rw [h.len]; exact hk) (by rw [h.len]; exact he)
  rw [h.len] at this
  exact this
theorem card_turn_ {x : Int} (h : 0 ≤ cardOf x) : cardOf (turnC x) = cardOf x := by
  have hs := card_small h
  have e : turnC x = -1 - x := by unfold turnC; rw [if_neg (by omega)]
  rw [e]
  exact cardOf_turn x hs.1 hs.2
theorem pk_flip {a b : Int} {q : List Int} {n : Nat} (h : Pk (a :: b :: q) n) : Pk (turnC b :: turnC a :: q) n ∧ Rel n (a :: b :: q) (turnC b :: turnC a :: q) := by
  have ha := packetB_card h.pk a List.mem_cons_self
  have hb := packetB_card h.pk b (List.mem_cons_of_mem _ List.mem_cons_self)
  refine ⟨⟨packetB_perm ?_ h.pk, by have := h.len; simpa using this⟩, .inl ?_⟩
  · simp only [List.map_cons, card_turn_ ha, card_turn_ hb]
    exact List.Perm.swap _ _ _
  · simp only [balB, up_turn ha, up_turn hb]
    cases isUp a <;> cases isUp b <;> first | rfl | (simp; done) | (simp; omega)
theorem par_end {l q : List Int} {n : Nat} {b : Nat} (h : Pk q n) (hn : n ≤ 12) (he : n % 2 = 0) (hb : b ≤ n) (hr : balB true q = b ∨ balB true q = n - b) : Ev (fun k => laws_FnParity.l1 k l (n : Int) (b : Int) q 4) true := by
  have hs : Ev (fun k => impl_SplitSides.f k q) (splitGo q) := split_at q [] [] [] (by have := h.len; simp; omega) (Pk.low h) (by simp) (by simp)
  have hc := countUp_ev q (by have := h.len; omega) (Pk.low h)
  rw [countGo_split q 0 (by omega) (by have := h.len; omega)] at hc
  have hall := split_all q (packetB_card h.pk)
  rw [h.len] at hall
  have hcu : Ev (fun k => impl_CountUp.f k q) (((splitGo q).1.length : Nat) : Int) := by simpa using hc
  have hw : wrap64 (((splitGo q).1.length : Int) + ((splitGo q).2.length : Int)) = (n : Int) := by rw [w64_id (by omega) (by omega)]; omega
  refine Ev.stepb (pk_bal h hn he) (fun k => by rw [laws_FnParity.l1, if_neg (by decide)]) ?_
  refine Ev.bind hs ?_
  simp only [if_true]
  by_cases c : (balB true q : Int) = (b : Int)
  · simp only [if_pos c]
    refine Ev.bind hcu ?_
    simp only [if_true, hw, beq_self_eq_true]
    exact Ev.now _
  · have hr2 : balB true q = n - b := hr.resolve_left (fun e => c (by rw [e]))
    have e2 : wrap64 ((n : Int) - (b : Int)) = (balB true q : Int) := by rw [w64_id (by omega) (by omega), hr2]; omega
    simp only [if_neg c, e2, if_true]
    refine Ev.bind hcu ?_
    simp only [if_true, hw, beq_self_eq_true]
    exact Ev.now _
theorem par_rounds (l : List Int) (hl : l.length ≤ 1048576) {n b : Nat} (hn : n ≤ 12) (hn2 : 2 ≤ n) (he : n % 2 = 0) (hb : b ≤ n) (m : Nat) : ∀ (q : List Int) (i : Nat), i + m = 4 → Pk q n → (balB true q = b ∨ balB true q = n - b) →
    Ev (fun k => laws_FnParity.l1 k l (n : Int) (b : Int) q (i : Int)) true := by
  induction m with
  | zero =>
    intro q i hi h hr
    obtain rfl : i = 4 := by omega
    exact par_end h hn he hb hr
  | succ m ih =>
    intro q i hi h hr
    have hle := balB_le q true
    rw [h.len] at hle
    have w1 : wrap64 (50 + (i : Int)) = 50 + (i : Int) := w64_id (by omega) (by omega)
    have w2 : wrap64 (60 + (i : Int)) = 60 + (i : Int) := w64_id (by omega) (by omega)
    have w3 : wrap64 ((i : Int) + 1) = ((i + 1 : Nat) : Int) := by rw [w64_id (by omega) (by omega)]; omega
    obtain ⟨t, ht, t0, t1⟩ := num_ev l (50 + (i : Int)) hl (by omega) (by omega)
    refine Ev.stepb ht (fun k => by rw [laws_FnParity.l1, if_pos (by omega), w1]) ?_
    have next : ∀ q', Pk q' n → Rel n q q' → Ev (fun k => laws_FnParity.l1 k l (n : Int) (b : Int) q' (wrap64 ((i : Int) + 1))) true := fun q' h' hR => by
      rw [w3]
      exact ih q' (i + 1) (by omega) h' (by rcases hR with e | e <;> rcases hr with e2 | e2 <;> omega)
    by_cases c : Int.tmod t 2 = 0
    · simp only [if_pos c, w2]
      obtain ⟨u, hu, u0, u1⟩ := num_ev l (60 + (i : Int)) hl (by omega) (by omega)
      refine Ev.bind hu ?_
      simp only [if_neg (show ¬ (n : Int) = 0 by omega)]
      obtain ⟨un, rfl⟩ := Int.eq_ofNat_of_zero_le u0
      have t2 : Int.tmod (un : Int) (n : Int) = ((un % n : Nat) : Int) := (Int.ofNat_tmod _ _).symm
      have hlt : un % n < n := Nat.mod_lt _ (by omega)
      rw [t2]
      obtain ⟨h', hR⟩ := pk_cut h he (un % n) (by omega)
      have hm := cut_ev q ((un % n : Nat) : Int) (by have := h.len; omega) (by omega) (by have := h.len; omega)
      rw [Int.toNat_natCast] at hm
      exact par_j3 h h' hn he 1 _ (by unfold moveB; simp; omega) hm hR (next _ h' hR)
    · simp only [if_neg c]
      obtain ⟨a, bb, q2, rfl⟩ : ∃ a bb q2, q = a :: bb :: q2 := by
        have := h.len
        match q with
        | [] => simp at this; omega
        | [_] => simp at this; omega
        | a :: bb :: q2 => exact ⟨a, bb, q2, rfl⟩
      obtain ⟨h', hR⟩ := pk_flip h
      have hm := flip_ev (a :: bb :: q2) 2 (by have := h.len; omega) (by omega) (by have := h.len; omega) (Pk.low h)
      exact par_j3 h h' hn he 3 2 (by unfold moveB; simp; omega) hm hR (next _ h' hR)
theorem drawn_set {p : List Int} {n : Nat} (h : drawn p n) (i : Nat) (hi : i < p.length) : drawn (p.set i (-1 - p[i])) n := by
  have hx := h.2 p[i] (List.getElem_mem hi)
  refine ⟨?_, fun x hx2 => ?_⟩
  · have e : (p.set i (-1 - p[i])).map cardOf = p.map cardOf := by
      rw [List.map_set, cardOf_turn _ hx.1 hx.2]
      have : cardOf p[i] = (p.map cardOf)[i]'(by simpa using hi) := by simp
      rw [this, List.set_getElem_self]
    rw [e]; exact h.1
  · rcases List.mem_or_eq_of_mem_set hx2 with h1 | h1
    · exact h.2 x h1
    · rw [h1]; omega
theorem par_turns (l : List Int) (hl : l.length ≤ 1048576) {n : Nat} (hn : n ≤ 12) (hn2 : 2 ≤ n) (he : n % 2 = 0) (m : Nat) : ∀ (p : List Int) (i : Nat), i + m = n → drawn p n →
    Ev (fun k => laws_FnParity.l0 k l (n : Int) p (n : Int) (i : Int)) true := by
  induction m with
  | zero =>
    intro p i hi hd
    have hlen := drawn_len hd
    have h : Pk p n := ⟨drawn_packet hd, hlen⟩
    have hle := balB_le p true
    rw [hlen] at hle
    have hu := up_impl_ev p (by omega) (Pk.low h)
    have eu : upCount p = ((balB true p : Int), true) := by
      unfold upCount
      rw [if_pos ⟨h.pk, by rw [hlen]; omega⟩, countGo_turn p false 0 (by omega) (by omega) (packetB_card h.pk)]
      simp
    rw [eu] at hu
    refine Ev.stepb (pk_bal h hn he) (fun k => by rw [laws_FnParity.l0, if_neg (by omega)]) ?_
    refine Ev.bind hu ?_
    simp only [if_true, bne_self_eq_false]
    refine Ev.step (f := fun k => laws_FnParity.l1 k l (n : Int) (balB true p : Int) p 0) (fun k => ?_) (par_rounds l hl hn hn2 he hle 4 p 0 (by omega) h (.inl rfl))
    rw [laws_FnParity.j1, if_neg (by decide), Option.bind_some, if_pos (by simp; omega), List.nil_append]
  | succ m ih =>
    intro p i hi hd
    have hlen := drawn_len hd
    have w1 : wrap64 (30 + (i : Int)) = 30 + (i : Int) := w64_id (by omega) (by omega)
    have w3 : wrap64 ((i : Int) + 1) = ((i + 1 : Nat) : Int) := by rw [w64_id (by omega) (by omega)]; omega
    obtain ⟨t, ht, t0, t1⟩ := num_ev l (30 + (i : Int)) hl (by omega) (by omega)
    refine Ev.stepb ht (fun k => by rw [laws_FnParity.l0, if_pos (by omega), w1]) ?_
    by_cases c : Int.tmod t 2 = 1
    · have hil : i < p.length := by omega
      have hx := hd.2 p[i] (List.getElem_mem hil)
      have hrd : rd p (i : Int) = p[i] := by
        show p.getD i 0 = p[i]
        rw [List.getD_eq_getElem?_getD, List.getElem?_eq_getElem hil]; rfl
      simp only [if_pos c, if_pos (show (0 : Int) ≤ (i : Int) by omega), if_pos (show (i : Int) < (p.length : Int) by omega), w3, hrd, Int.toNat_natCast]
      rw [w64_id (show -9223372036854775808 ≤ -1 - p[i] by omega) (by omega)]
      exact ih _ (i + 1) (by omega) (drawn_set hd i hil)
    · simp only [if_neg c, w3]
      exact ih p (i + 1) (by omega) hd
theorem FnParity : laws_FnParity.Pure := by
  intro l hm hb hw
  by_cases hbig : (l.length : Int) > 1048576
  · exact ⟨0, by unfold laws_FnParity.f; rw [if_pos hbig]⟩
  obtain ⟨v, hv, v0, v1⟩ := num_ev l 1 (by omega) (by omega) (by omega)
  obtain ⟨vn, rfl⟩ := Int.eq_ofNat_of_zero_le v0
  have hmod : vn % 4 < 4 := Nat.mod_lt _ (by omega)
  have e4 : Int.tmod (vn : Int) 4 = ((vn % 4 : Nat) : Int) := (Int.ofNat_tmod vn 4).symm
  have hn : wrap64 (2 + wrap64 (2 * Int.tmod (vn : Int) 4)) = ((2 + 2 * (vn % 4) : Nat) : Int) := by
    rw [e4, w64_id (show -9223372036854775808 ≤ 2 * ((vn % 4 : Nat) : Int) by omega) (by omega), w64_id (by omega) (by omega)]; omega
  generalize vn % 4 = r at hmod hn
  obtain ⟨p, hp, hperm⟩ := perm_ev l 3 ((2 + 2 * r : Nat) : Int) (by omega) (by omega) (by omega) (by omega) (by omega)
  rw [Int.toNat_natCast] at hperm
  have hd := drawn_plain hperm (by omega)
  have hlen := drawn_len hd
  have main2 : Ev (fun k => laws_FnParity.f k l) true := by
    unfold laws_FnParity.f
    simp only [if_neg hbig]
    refine Ev.bind hv ?_
    rw [hn]
    refine Ev.bind hp ?_
    rw [hlen]
    exact par_turns l (by omega) (by omega) (by omega) (by omega) (2 + 2 * r) p 0 (by omega) hd
  exact main2.imp fun K hK => hK K (Nat.le_refl _)
end Go.Proofs.Ytlobampnikhmnaa.Pure
end
