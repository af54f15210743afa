/- UpCountAfter: both functions answer the same at every list. -/
import Derived.Test.YtmgpjhgjcmijbaaF77
import Derived.Test.YtmgpjhgjcmijbaaF78
import Derived.Test.YtmgpjhgjcmijbaaF79
import Derived.Test.YtmgpjhgjcmijbaaF80
import Derived.Test.YtmgpjhgjcmijbaaF81
import Derived.Test.YtmgpjhgjcmijbaaF82
import Derived.Test.YtmgpjhgjcmijbaaGLaws
import Derived.Test.YtmgpjhgjcmijbaaGCards
import Derived.Test.YtmgpjhgjcmijbaaM
namespace Go.Proofs.Ytmgpjhgjcmijbaa.Pure
open Go.RowKit Go.Proofs.Ytmgpjhgjcmijbaa.F Go.Proofs.YtmgpjhgjcmijbaaW.PrintWords Go.Proofs.YtmgpjhgjcmijbaaW.PrintLast Go.Proofs.YtmgpjhgjcmijbaaW.PrintMore
set_option linter.unusedVariables false
set_option linter.unusedSimpArgs false
def turnC (x : Int) : Int := if cardOf x < 0 then x else -1 - x
theorem card_small {x : Int} (h : 0 ≤ cardOf x) : -12 ≤ x ∧ x ≤ 11 := by
  unfold cardOf at h
  by_cases c : 0 ≤ x ∧ x ≤ 11
  · omega
  · rw [if_neg c] at h
    by_cases d : -12 ≤ x ∧ x ≤ -1
    · omega
    · rw [if_neg d] at h; omega
theorem spec_turn (x : Int) : spec_TurnCard.f x = some (turnC x) := by
  unfold spec_TurnCard.f turnC
  rw [spec_CardOf_eq]
  simp only [Option.bind_some]
  by_cases c : cardOf x < 0
  · rw [if_pos c, if_pos c]
  · have := card_small (x := x) (by omega)
    rw [if_neg c, if_neg c, w64_id (by omega) (by omega)]
theorem impl_turn (x : Int) (h : -9223372036854775808 ≤ x) : impl_TurnCard.f x = some (turnC x) := by
  unfold impl_TurnCard.f turnC
  rw [impl_CardOf_eq x h]
  simp only [Option.bind_some]
  by_cases c : cardOf x < 0
  · rw [if_pos c, if_pos c]
  · have := card_small (x := x) (by omega)
    rw [if_neg c, if_neg c, w64_id (by omega) (by omega)]
theorem turn_low (x : Int) (h : -9223372036854775808 ≤ x) : -9223372036854775808 ≤ turnC x := by
  unfold turnC
  by_cases c : cardOf x < 0
  · rw [if_pos c]; exact h
  · have := card_small (x := x) (by omega)
    rw [if_neg c]; omega
def countGo : List Int → Int → Int
  | [], n => n
  | x :: xs, n => countGo xs (if isUp x = true then wrap64 (n + 1) else n)
def turnB : Bool → List Int → List Int
  | _, [] => []
  | true, x :: xs => turnC x :: turnB false xs
  | false, x :: xs => x :: turnB true xs
theorem turnB_length (l : List Int) : ∀ b, (turnB b l).length = l.length := by
  induction l with
  | nil => intro b; cases b <;> rfl
  | cons x l ih => intro b; cases b <;> simp [turnB, ih]
theorem turnB_low (l : List Int) : ∀ b, (∀ x ∈ l, -9223372036854775808 ≤ x) → ∀ x ∈ turnB b l, -9223372036854775808 ≤ x := by
  induction l with
  | nil => intro b _ x hx; cases b <;> simp [turnB] at hx
  | cons y l ih =>
    intro b h x hx
    have h' : ∀ x ∈ l, -9223372036854775808 ≤ x := fun x hx => h x (by simp [hx])
    cases b with
    | false =>
      rcases List.mem_cons.1 hx with rfl | hx
      · exact h _ (by simp)
      · exact ih true h' x hx
    | true =>
      rcases List.mem_cons.1 hx with rfl | hx
      · exact turn_low y (h y (by simp))
      · exact ih false h' x hx
theorem countUp_at (rest : List Int) : ∀ (pre : List Int) (n : Int), (pre ++ rest).length ≤ 4611686018427387904 → (∀ x ∈ rest, -9223372036854775808 ≤ x) →
    Ev (fun k => impl_CountUp.l0 k n (pre ++ rest) ((pre ++ rest).length : Int) (pre.length : Int)) (countGo rest n) := by
  induction rest with
  | nil =>
    intro pre n hb hw
    exact Ev.step (f := fun _ => some n) (fun k => by rw [impl_CountUp.l0, if_neg (mid_nlt _)]) (Ev.now _)
  | cons x rest ih =>
    intro pre n hb hw
    have hx := hw x (by simp)
    have hs := mid_succ pre x (by simp at hb; omega)
    have h := ih (pre ++ [x]) (if isUp x = true then wrap64 (n + 1) else n) (by simpa using hb) (fun y hy => hw y (by simp [hy]))
    rw [← mid_cons] at h
    unfold countGo
    by_cases c : isUp x = true
    · rw [if_pos c] at h ⊢
      exact Ev.step (fun k => by rw [impl_CountUp.l0, if_pos (mid_lt _ _ _), if_pos (nn _), if_pos (mid_lt _ _ _), mid_rd, impl_IsUp_eq x hx]; simp only [Option.bind_some]; rw [if_pos c, hs]) h
    · rw [if_neg c] at h ⊢
      exact Ev.step (fun k => by rw [impl_CountUp.l0, if_pos (mid_lt _ _ _), if_pos (nn _), if_pos (mid_lt _ _ _), mid_rd, impl_IsUp_eq x hx]; simp only [Option.bind_some]; rw [if_neg c, hs]) h
theorem countUp_ev (l : List Int) (hb : l.length ≤ 4611686018427387904) (hw : ∀ x ∈ l, -9223372036854775808 ≤ x) : Ev (fun k => impl_CountUp.f k l) (countGo l 0) := countUp_at l [] 0 hb hw
theorem step2 (n : Nat) (h : n ≤ 4611686018427387904) : wrap64 ((n : Int) + 2) = ((n + 2 : Nat) : Int) := by
  rw [w64_id (by omega) (by omega)]
  omega
theorem impl_at0 (pre : List Int) (hb : pre.length ≤ 1048576) (hw : ∀ x ∈ pre, -9223372036854775808 ≤ x) (i : Int) (hi : ¬ i < (pre.length : Int)) :
    Ev (fun k => impl_UpCountAfter.l0 k pre i) (countGo pre 0, true) := by
  have hc := countUp_ev pre (by omega) hw
  refine Ev.stepb hc (fun k => by rw [impl_UpCountAfter.l0, if_neg hi]) ?_
  exact Ev.now _
theorem impl_at1 (pre : List Int) (y : Int) (rest : List Int) (hb : (pre ++ y :: rest).length ≤ 1048576) (hy : -9223372036854775808 ≤ y) (r : Int × Bool)
    (h : Ev (fun k => impl_UpCountAfter.l0 k (pre ++ [turnC y] ++ rest) ((pre.length + 2 : Nat) : Int)) r) : Ev (fun k => impl_UpCountAfter.l0 k (pre ++ y :: rest) (pre.length : Int)) r := by
  have hs := step2 pre.length (by simp at hb; omega)
  refine Ev.step (fun k => ?_) h
  rw [impl_UpCountAfter.l0, if_pos (mid_lt _ _ _), if_pos (nn _), mid_rd, impl_turn y hy]
  simp only [Option.bind_some]
  rw [mid_set, hs]
theorem impl_at (n : Nat) : ∀ (rest pre : List Int), rest.length ≤ n → (pre ++ rest).length ≤ 1048576 → (∀ x ∈ pre, -9223372036854775808 ≤ x) → (∀ x ∈ rest, -9223372036854775808 ≤ x) →
    Ev (fun k => impl_UpCountAfter.l0 k (pre ++ rest) (pre.length : Int)) (countGo (pre ++ turnB true rest) 0, true) := by
  induction n with
  | zero =>
    intro rest pre hn hb hp hr
    obtain rfl : rest = [] := List.eq_nil_of_length_eq_zero (by omega)
    have := impl_at0 pre (by simpa using hb) hp pre.length (by omega)
    simpa [turnB] using this
  | succ n ih =>
    intro rest pre hn hb hp hr
    cases rest with
    | nil =>
      have := impl_at0 pre (by simpa using hb) hp pre.length (by omega)
      simpa [turnB] using this
    | cons y rest =>
      have hy := hr y (by simp)
      have hty := turn_low y hy
      refine impl_at1 pre y rest hb hy _ ?_
      cases rest with
      | nil =>
        have := impl_at0 (pre ++ [turnC y]) (by simpa using hb) (by
          intro z hz
          rcases List.mem_append.1 hz with hz | hz
          · exact hp z hz
          · rw [List.mem_singleton.1 hz]; exact hty) ((pre.length + 2 : Nat) : Int) (by rw [List.length_append]; simp only [List.length_cons, List.length_nil]; omega)
        simpa [turnB] using this
      | cons x rest =>
        have hx := hr x (by simp)
        have h := ih rest (pre ++ [turnC y, x]) (by simp at hn; omega) (by simpa using hb) (by
          intro z hz
          rcases List.mem_append.1 hz with hz | hz
          · exact hp z hz
          · simp at hz
            rcases hz with rfl | rfl
            · exact hty
            · exact hx) (fun z hz => hr z (by simp [hz]))
        simpa [turnB] using h
theorem par_tmod (n : Nat) : (Int.tmod (n : Int) 2 = 1) ↔ n % 2 = 1 := by
  rw [Int.tmod_eq_emod_of_nonneg (by omega)]
  omega
theorem spec_at (rest : List Int) : ∀ (pre : List Int) (n : Int) (b : Bool), (pre ++ rest).length ≤ 4611686018427387904 → (b = decide (pre.length % 2 = 1)) →
    Ev (fun k => spec_UpCountAfter.l0 k n (pre ++ rest) ((pre ++ rest).length : Int) (pre.length : Int)) (countGo (turnB b rest) n, true) := by
  induction rest with
  | nil =>
    intro pre n b hb hp
    rw [show countGo (turnB b []) n = n by cases b <;> rfl]
    exact Ev.step (f := fun _ => some (n, true)) (fun k => by rw [spec_UpCountAfter.l0, if_neg (mid_nlt _)]) (Ev.now _)
  | cons x rest ih =>
    intro pre n b hb hp
    have hs := mid_succ pre x (by simp at hb; omega)
    have hb' : ((pre ++ [x]) ++ rest).length ≤ 4611686018427387904 := by simpa using hb
    cases b with
    | true =>
      have hod : pre.length % 2 = 1 := of_decide_eq_true hp.symm
      have h := ih (pre ++ [x]) (if isUp (turnC x) = true then wrap64 (n + 1) else n) false hb' (by simp; omega)
      rw [← mid_cons] at h
      show Ev _ (countGo (turnB false rest) (if isUp (turnC x) = true then wrap64 (n + 1) else n), true)
      by_cases c : isUp (turnC x) = true
      · rw [if_pos c] at h ⊢
        exact Ev.step (fun k => by rw [spec_UpCountAfter.l0, if_pos (mid_lt _ _ _), if_pos (nn _), if_pos (mid_lt _ _ _), if_pos ((par_tmod _).2 hod), mid_rd, spec_turn]; simp only [Option.bind_some]; rw [spec_IsUp_eq]; simp only [Option.bind_some]; rw [if_pos c, hs]) h
      · rw [if_neg c] at h ⊢
        exact Ev.step (fun k => by rw [spec_UpCountAfter.l0, if_pos (mid_lt _ _ _), if_pos (nn _), if_pos (mid_lt _ _ _), if_pos ((par_tmod _).2 hod), mid_rd, spec_turn]; simp only [Option.bind_some]; rw [spec_IsUp_eq]; simp only [Option.bind_some]; rw [if_neg c, hs]) h
    | false =>
      have hod : ¬ pre.length % 2 = 1 := of_decide_eq_false hp.symm
      have h := ih (pre ++ [x]) (if isUp x = true then wrap64 (n + 1) else n) true hb' (by simp; omega)
      rw [← mid_cons] at h
      show Ev _ (countGo (turnB true rest) (if isUp x = true then wrap64 (n + 1) else n), true)
      by_cases c : isUp x = true
      · rw [if_pos c] at h ⊢
        exact Ev.step (fun k => by rw [spec_UpCountAfter.l0, if_pos (mid_lt _ _ _), if_pos (nn _), if_pos (mid_lt _ _ _), if_neg (fun hh => hod ((par_tmod _).1 hh)), mid_rd, spec_IsUp_eq]; simp only [Option.bind_some]; rw [if_pos c, hs]) h
      · rw [if_neg c] at h ⊢
        exact Ev.step (fun k => by rw [spec_UpCountAfter.l0, if_pos (mid_lt _ _ _), if_pos (nn _), if_pos (mid_lt _ _ _), if_neg (fun hh => hod ((par_tmod _).1 hh)), mid_rd, spec_IsUp_eq]; simp only [Option.bind_some]; rw [if_neg c, hs]) h
def upCount (l : List Int) : Int × Bool := if packetB l = true ∧ (l.length : Int) % 2 = 0 then (countGo (turnB false l) 0, true) else (0, false)
theorem impl_all (l : List Int) (hb : l.length ≤ 1048576) (hw : ∀ x ∈ l, -9223372036854775808 ≤ x) : Ev (fun k => impl_UpCountAfter.l0 k l 1) (countGo (turnB false l) 0, true) := by
  cases l with
  | nil =>
    have hc := countUp_ev [] (by simp) (by simp)
    refine Ev.stepb hc (fun k => by rw [impl_UpCountAfter.l0, if_neg (by simp)]) ?_
    exact Ev.now _
  | cons x xs =>
    have h := impl_at xs.length xs [x] (Nat.le_refl _) (by simpa using hb) (fun z hz => hw z (by simp at hz; simp [hz])) (fun z hz => hw z (by simp [hz]))
    simpa [turnB] using h
theorem spec_ev (l : List Int) (hb : l.length ≤ 4611686018427387904) : Ev (fun k => spec_UpCountAfter.f k l) (upCount l) := by
  unfold spec_UpCountAfter.f upCount
  refine Ev.bind (spec_PacketOk_ev l) ?_
  by_cases p : packetB l = true
  · by_cases e : (l.length : Int) % 2 = 0
    · simp only [p, e, if_true, true_and]
      refine Ev.succ ?_
      simp only [spec_UpCountAfter.j0, bne_self_eq_false, Bool.false_eq_true, if_false]
      exact spec_at l [] 0 false hb rfl
    · have e' : ((l.length : Int) % 2 != 0) = true := by simpa using e
      simp only [p, e, e', if_true, if_false, true_and]
      refine Ev.succ ?_
      simp only [spec_UpCountAfter.j0, if_true]
      exact Ev.now _
  · simp only [p, if_false, false_and]
    refine Ev.succ ?_
    simp only [spec_UpCountAfter.j0, if_true]
    exact Ev.now _
theorem impl_ev (l : List Int) (hb : l.length ≤ 1048576) (hw : ∀ x ∈ l, -9223372036854775808 ≤ x) : Ev (fun k => impl_UpCountAfter.f k l) (upCount l) := by
  unfold impl_UpCountAfter.f upCount
  refine Ev.bind (impl_PacketOk_ev l (by omega) hw) ?_
  by_cases p : packetB l = true
  · by_cases e : (l.length : Int) % 2 = 0
    · simp only [p, e, if_true, true_and]
      refine Ev.succ ?_
      have hcl : slices_Clone_Lint_int.f l = some l := by
        unfold slices_Clone_Lint_int.f
        rw [if_pos (by omega)]
      simp only [impl_UpCountAfter.j0, bne_self_eq_false, Bool.false_eq_true, if_false, hcl, Option.bind_some]
      exact impl_all l hb hw
    · have e' : ((l.length : Int) % 2 != 0) = true := by simpa using e
      simp only [p, e, e', if_true, if_false, true_and]
      refine Ev.succ ?_
      simp only [impl_UpCountAfter.j0, if_true]
      exact Ev.now _
  · simp only [p, if_false, false_and]
    refine Ev.succ ?_
    simp only [impl_UpCountAfter.j0, if_true]
    exact Ev.now _
theorem FnExactUpCountAfter : laws_FnExactUpCountAfter.Pure := by
  intro l _ _ hw
  refine Ev.rounds (g := fun k => laws_FnExactUpCountAfter.f k l) ?_
  unfold laws_FnExactUpCountAfter.f
  by_cases h : (l.length : Int) > 1048576
  · simp only [if_pos h]
    exact Ev.now _
  · simp only [if_neg h]
    have ht := toIntS_ev l (by omega)
    have hs := spec_ev l (by omega)
    have hi := impl_ev l (by omega) (fun x hx => (wf64 (hw x hx)).1)
    refine Ev.bind ht (Ev.bind hs (Ev.bind ht (Ev.bind hi ?_)))
    simp only [if_true, bne_self_eq_false]
    refine Ev.succ ?_
    simp only [laws_FnExactUpCountAfter.j0, Bool.false_eq_true, if_false]
    refine Ev.bind ht (Ev.bind (eqIntS_same l (by omega)) ?_)
    simpa using Ev.now _
end Go.Proofs.Ytmgpjhgjcmijbaa.Pure
