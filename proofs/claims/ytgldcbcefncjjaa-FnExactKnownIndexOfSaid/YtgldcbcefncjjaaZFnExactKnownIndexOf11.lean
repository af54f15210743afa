import Derived.Test.YtgldcbcefncjjaaZFnExactKnownIndexOf10
import Derived.Test.YtgldcbcefncjjaaZFnExactKnownIndexOf4
import Derived.Test.YtgldcbcefncjjaaZFnExactKnownIndexOf7
import Derived.Test.YtgldcbcefncjjaaZFnExactKnownIndexOf5
import Derived.Test.YtgldcbcefncjjaaZFnExactKnownIndexOf8
import Derived.Test.YtgldcbcefncjjaaZFnExactKnownIndexOf6
import Derived.Test.YtgldcbcefncjjaaZFnExactKnownIndexOf9
section
namespace Go.Proofs.Ytgldcbcefncjjaa.F
open Go.RowKit Go.Proofs.YtgldcbcefncjjaaW.PrintWords
/-- What is to be shown of numbers and lists. -/
def laws_FnExactKnownIndexOf.Pure : Prop := ∀ (l0 : List (List (Int))) (a1 : Int), ((l0.length * 24 ≤ 140737488351232 ∧ l0.length ≤ maxLen ∧ ∀ yl0 ∈ l0, (yl0.length * 8 ≤ 140737488351232 ∧ yl0.length ≤ maxLen ∧ ∀ yyl0 ∈ yl0, ((Lit.int .i64 yyl0).wf = true)))) → (((Lit.int .i64 a1).wf = true)) → ∃ k, laws_FnExactKnownIndexOf.f k l0 a1 = some true
end Go.Proofs.Ytgldcbcefncjjaa.F
end
section
/- What the laws' own helpers tell: equality, a copy, marks and whether they are held. -/
namespace Go.Proofs.Ytgldcbcefncjjaa.F
open Go.RowKit Go.Proofs.YtgldcbcefncjjaaW.PrintWords Go.Proofs.YtgldcbcefncjjaaW.PrintLast Go.Proofs.YtgldcbcefncjjaaW.PrintMore
set_option linter.unusedVariables false
set_option linter.unusedSimpArgs false
theorem eqIntS_at (rest : List Int) : ∀ (pre : List Int) (ys : List Int), (pre ++ ys).length ≤ 4611686018427387904 → rest.length = ys.length →
    Ev (fun k => laws_eqIntS.l0 k (pre ++ rest) (pre ++ ys) (pre.length : Int)) (decide (rest = ys)) := by
  induction rest with
  | nil =>
    intro pre ys hb hl
    obtain rfl : ys = [] := List.eq_nil_of_length_eq_zero hl.symm
    exact Ev.step (f := fun _ => some true) (fun k => by rw [laws_eqIntS.l0, if_neg (mid_nlt _)]) (Ev.now _)
  | cons x rest ih =>
    intro pre ys hb hl
    cases ys with
    | nil => simp at hl
    | cons y ys =>
      by_cases e : x = y
      · subst e
        have h := ih (pre ++ [x]) ys (by simpa using hb) (by simpa using hl)
        rw [← mid_cons, ← mid_cons] at h
        rw [show decide (x :: rest = x :: ys) = decide (rest = ys) by simp]
        exact Ev.step (fun k => by rw [laws_eqIntS.l0, if_pos (mid_lt _ _ _), if_pos (nn _), if_pos (mid_lt _ _ _), mid_rd, mid_rd, if_pos rfl, mid_succ pre x (by simp at hb; omega)]) h
      · rw [show decide (x :: rest = y :: ys) = false by simp [e]]
        exact Ev.step (f := fun _ => some false) (fun k => by rw [laws_eqIntS.l0, if_pos (mid_lt _ _ _), if_pos (nn _), if_pos (mid_lt _ _ _), mid_rd, mid_rd, if_neg e]) (Ev.now _)
theorem eqIntS_ev (l m : List Int) (hl : l.length ≤ 4611686018427387904) : Ev (fun k => laws_eqIntS.f k l m) (decide (l = m)) := by
  unfold laws_eqIntS.f
  by_cases e : (l.length : Int) = (m.length : Int)
  · have h := eqIntS_at l [] m (by simp; omega) (by omega)
    simpa [e] using h
  · have e2 : ¬ l = m := fun h => e (by rw [h])
    simp only [if_neg e, e2, decide_false]
    exact Ev.now _
theorem eqIntS_same (l : List Int) (hl : l.length ≤ 4611686018427387904) : Ev (fun k => laws_eqIntS.f k l l) true := by
  have := eqIntS_ev l l hl
  simpa using this
theorem toIntS_at (rest : List Int) : ∀ (pre zs : List Int), (pre ++ rest).length ≤ 4611686018427387904 → zs.length = rest.length →
    Ev (fun k => laws_toIntS.l0 k (pre ++ rest) (pre ++ zs) (pre.length : Int)) (pre ++ rest) := by
  induction rest with
  | nil =>
    intro pre zs hb hl
    obtain rfl : zs = [] := List.eq_nil_of_length_eq_zero hl
    exact Ev.step (f := fun _ => some (pre ++ [])) (fun k => by rw [laws_toIntS.l0, if_neg (mid_nlt _)]) (Ev.now _)
  | cons x rest ih =>
    intro pre zs hb hl
    cases zs with
    | nil => simp at hl
    | cons z zs =>
      have h := ih (pre ++ [x]) zs (by simpa using hb) (by simpa using hl)
      rw [← mid_cons] at h
      exact Ev.step (fun k => by rw [laws_toIntS.l0, if_pos (mid_lt _ _ _), if_pos (nn _), if_pos (mid_lt _ _ _), mid_rd, mid_set, mid_succ pre x (by simp at hb; omega)]) h
theorem toIntS_ev (l : List Int) (hl : l.length ≤ 35184372088832) : Ev (fun k => laws_toIntS.f k l) l := by
  unfold laws_toIntS.f
  have h := toIntS_at l [] (List.replicate l.length 0) (by simp; omega) (by simp)
  have e2 : (0 : Int) ≤ (l.length : Int) := nn _
  simpa [hl] using h
end Go.Proofs.Ytgldcbcefncjjaa.F
end
section
/- The length of all lists together. -/
namespace Go.Proofs.Ytgldcbcefncjjaa.F
open Go.RowKit Go.Proofs.YtgldcbcefncjjaaW.PrintWords Go.Proofs.YtgldcbcefncjjaaW.PrintLast Go.Proofs.YtgldcbcefncjjaaW.PrintMore
set_option linter.unusedVariables false
set_option linter.unusedSimpArgs false
def total (l : List (List Int)) : Nat := (l.map List.length).sum
theorem total_cons (x : List Int) (l : List (List Int)) : total (x :: l) = x.length + total l := by simp [total]
end Go.Proofs.Ytgldcbcefncjjaa.F
end
section
/- The laws' helpers on lists of lists. -/
namespace Go.Proofs.Ytgldcbcefncjjaa.F
open Go.RowKit Go.Proofs.YtgldcbcefncjjaaW.PrintWords Go.Proofs.YtgldcbcefncjjaaW.PrintLast Go.Proofs.YtgldcbcefncjjaaW.PrintMore
set_option linter.unusedVariables false
set_option linter.unusedSimpArgs false
theorem mid_rdL (pre : List (List Int)) (x : List Int) (rest : List (List Int)) : (pre ++ x :: rest).getD ((pre.length : Int)).toNat [] = x := by simp
theorem mid_rdL1 (pre : List (List Int)) (x : List Int) (rest : List (List Int)) : rd_L2 (pre ++ x :: rest) (pre.length : Int) = x := by
  unfold rd_L2
  first | exact mid_rdL pre x rest | simp [rdOf]
theorem eqIntSS_at (rest : List (List Int)) : ∀ (pre : List (List Int)), (pre ++ rest).length ≤ 4611686018427387904 → (∀ x ∈ rest, x.length ≤ 4611686018427387904) →
    Ev (fun k => laws_eqIntSS.l0 k (pre ++ rest) (pre ++ rest) (pre.length : Int)) true := by
  induction rest with
  | nil =>
    intro pre hb hx
    exact Ev.step (f := fun _ => some true) (fun k => by rw [laws_eqIntSS.l0, if_neg (mid_nlt _)]) (Ev.now _)
  | cons x rest ih =>
    intro pre hb hx
    have h := ih (pre ++ [x]) (by simpa using hb) (fun y hy => hx y (by simp [hy]))
    rw [← mid_cons, ← mid_succ pre x (by simp at hb; omega)] at h
    refine Ev.stepb (eqIntS_same x (hx x (by simp))) (fun k => by rw [laws_eqIntSS.l0, if_pos (mid_lt _ _ _), if_pos (nn _), if_pos (mid_lt _ _ _), mid_rdL1]) ?_
    simp only [if_true]
    exact h
theorem eqIntSS_same (l : List (List Int)) (hb : l.length ≤ 4611686018427387904) (hx : ∀ x ∈ l, x.length ≤ 4611686018427387904) : Ev (fun k => laws_eqIntSS.f k l l) true := by
  unfold laws_eqIntSS.f
  simp only [if_true]
  exact eqIntSS_at l [] hb hx
end Go.Proofs.Ytgldcbcefncjjaa.F
end
section
/- The laws' size check of a list. -/
namespace Go.Proofs.Ytgldcbcefncjjaa.F
open Go.RowKit Go.Proofs.YtgldcbcefncjjaaW.PrintWords Go.Proofs.YtgldcbcefncjjaaW.PrintLast Go.Proofs.YtgldcbcefncjjaaW.PrintMore
set_option linter.unusedVariables false
set_option linter.unusedSimpArgs false
theorem szIntS_eq (x : List Int) (a : Int) (h0 : 0 ≤ a) (h1 : a ≤ 1152921504606846976) (hx : x.length ≤ 1152921504606846976) : laws_szIntS.f x a = some (if a - x.length < 0 then -1 else a - x.length) := by
  unfold laws_szIntS.f
  rw [w64_id (by omega) (by omega)]
  split <;> rfl
end Go.Proofs.Ytgldcbcefncjjaa.F
end
section
/- The laws' size check and copy of lists of lists. -/
namespace Go.Proofs.Ytgldcbcefncjjaa.F
open Go.RowKit Go.Proofs.YtgldcbcefncjjaaW.PrintWords Go.Proofs.YtgldcbcefncjjaaW.PrintLast Go.Proofs.YtgldcbcefncjjaaW.PrintMore
set_option linter.unusedVariables false
set_option linter.unusedSimpArgs false
theorem szIntSS_at (rest : List (List Int)) : ∀ (pre : List (List Int)) (a : Int), (pre ++ rest).length ≤ 1152921504606846976 → 0 ≤ a → a ≤ 1152921504606846976 → (∀ x ∈ rest, x.length ≤ 1152921504606846976) →
    ∃ r : Int, Ev (fun k => laws_szIntSS.l0 k (pre ++ rest) a (pre.length : Int)) r ∧ (r < 0 ∨ (0 ≤ r ∧ (total rest : Int) ≤ a)) := by
  induction rest with
  | nil =>
    intro pre a hb h0 h1 hx
    refine ⟨a, Ev.step (f := fun _ => some a) (fun k => ?_) (Ev.now _), Or.inr ⟨h0, by simpa [total] using h0⟩⟩
    show laws_szIntSS.l0 (k + 1) _ a _ = _
    rw [laws_szIntSS.l0, if_neg (mid_nlt _)]
  | cons x rest ih =>
    intro pre a hb h0 h1 hx
    have hxl := hx x (by simp)
    have hz := szIntS_eq x a h0 h1 hxl
    by_cases c : a - (x.length : Int) < 0
    · rw [if_pos c] at hz
      refine ⟨-1, Ev.step (f := fun _ => some (-1)) (fun k => ?_) (Ev.now _), Or.inl (by omega)⟩
      show laws_szIntSS.l0 (k + 1) _ a _ = _
      rw [laws_szIntSS.l0, if_pos (mid_lt _ _ _), if_pos (nn _), mid_rdL1, hz, Option.bind_some, if_pos (by omega)]
    · rw [if_neg c] at hz
      obtain ⟨r, h, hr⟩ := ih (pre ++ [x]) (a - x.length) (by simpa using hb) (by omega) (by omega) (fun y hy => hx y (by simp [hy]))
      rw [← mid_cons, ← mid_succ pre x (by simp at hb; omega)] at h
      refine ⟨r, Ev.step (fun k => ?_) h, ?_⟩
      · show laws_szIntSS.l0 (k + 1) _ a _ = _
        rw [laws_szIntSS.l0, if_pos (mid_lt _ _ _), if_pos (nn _), mid_rdL1, hz, Option.bind_some, if_neg c]
      · rcases hr with hr | ⟨h2, h3⟩
        · exact Or.inl hr
        · refine Or.inr ⟨h2, ?_⟩
          rw [total_cons]
          omega
theorem szIntSS_ev (l : List (List Int)) (a : Int) (h0 : 0 ≤ a) (h1 : a ≤ 1152921504606846976) (hb : l.length ≤ 1152921504606846976) (hx : ∀ x ∈ l, x.length ≤ 1152921504606846976) :
    ∃ r : Int, Ev (fun k => laws_szIntSS.f k l a) r ∧ (r < 0 ∨ (0 ≤ r ∧ (l.length : Int) + (total l : Int) ≤ a)) := by
  unfold laws_szIntSS.f
  rw [w64_id (show -9223372036854775808 ≤ a - (l.length : Int) by omega) (by omega)]
  by_cases c : a - (l.length : Int) < 0
  · exact ⟨-1, by simp only [if_pos c]; exact Ev.now _, Or.inl (by omega)⟩
  · obtain ⟨r, h, hr⟩ := szIntSS_at l [] (a - l.length) hb (by omega) (by omega) hx
    refine ⟨r, by simp only [if_neg c]; exact h, ?_⟩
    rcases hr with hr | ⟨h2, h3⟩
    · exact Or.inl hr
    · exact Or.inr ⟨h2, by omega⟩
theorem toIntSS_at (rest : List (List Int)) : ∀ (pre zs : List (List Int)), (pre ++ rest).length ≤ 4611686018427387904 → zs.length = rest.length → (∀ x ∈ rest, x.length ≤ 35184372088832) →
    Ev (fun k => laws_toIntSS.l0 k (pre ++ rest) (pre ++ zs) (pre.length : Int)) (pre ++ rest) := by
  induction rest with
  | nil =>
    intro pre zs hb hz hx
    obtain rfl : zs = [] := List.eq_nil_of_length_eq_zero hz
    refine Ev.step (f := fun _ => some (pre ++ [])) (fun k => ?_) (Ev.now _)
    show laws_toIntSS.l0 (k + 1) _ _ _ = _
    rw [laws_toIntSS.l0, if_neg (mid_nlt _)]
  | cons x rest ih =>
    intro pre zs hb hz hx
    cases zs with
    | nil => simp at hz
    | cons z zs =>
      have h := ih (pre ++ [x]) zs (by simpa using hb) (by simpa using hz) (fun y hy => hx y (by simp [hy]))
      rw [← mid_cons, ← mid_succ pre x (by simp at hb; omega)] at h
      refine Ev.stepb (toIntS_ev x (hx x (by simp))) (fun k => by rw [laws_toIntSS.l0, if_pos (mid_lt _ _ _), if_pos (nn _), mid_rdL1]) ?_
      simp only [mid_lt, if_true, mid_set]
      exact h
theorem toIntSS_ev (l : List (List Int)) (hb : l.length ≤ 11728124029610) (hx : ∀ x ∈ l, x.length ≤ 35184372088832) : Ev (fun k => laws_toIntSS.f k l) l := by
  unfold laws_toIntSS.f
  simp only [if_pos (nn l.length), Int.toNat_natCast, if_pos hb]
  exact toIntSS_at l [] (List.replicate l.length []) (by simp; omega) (by simp) hx
theorem total_mem (l : List (List Int)) : ∀ x ∈ l, x.length ≤ total l := by
  induction l with
  | nil => intro x hx; simp at hx
  | cons y l ih =>
    intro x hx
    rw [total_cons]
    rcases List.mem_cons.mp hx with rfl | hx
    · omega
    · have := ih x hx
      omega
end Go.Proofs.Ytgldcbcefncjjaa.F
end
section
/- Cards, and when a list is a packet: the program's and the reference's functions tell one thing. -/
namespace Go.Proofs.Ytgldcbcefncjjaa.F
open Go.RowKit Go.Proofs.YtgldcbcefncjjaaW.PrintWords Go.Proofs.YtgldcbcefncjjaaW.PrintLast Go.Proofs.YtgldcbcefncjjaaW.PrintMore
set_option linter.unusedVariables false
set_option linter.unusedSimpArgs false
theorem wf64 {x : Int} (h : (Lit.int .i64 x).wf = true) : -9223372036854775808 ≤ x ∧ x ≤ 9223372036854775807 := by
  have := h
  simp only [Lit.wf, Bool.and_eq_true, decide_eq_true_eq] at this
  have a : IntKind.i64.min = -9223372036854775808 := by kernel_rfl
  have b : IntKind.i64.max = 9223372036854775807 := by kernel_rfl
  omega
theorem l01In_eq (a b c : Int) : spec_l01In.f a b c = some (decide (b ≤ a ∧ a ≤ c)) := by
  unfold spec_l01In.f
  by_cases h : b ≤ a
  · simp [h]
  · simp [h]
def cardOf (x : Int) : Int := if 0 ≤ x ∧ x ≤ 11 then x else if -12 ≤ x ∧ x ≤ -1 then -1 - x else -1
theorem cardOf_lt (x : Int) : cardOf x < 12 := by
  unfold cardOf
  repeat' split
  all_goals omega
theorem spec_CardOf_eq (x : Int) : spec_CardOf.f x = some (cardOf x) := by
  unfold spec_CardOf.f cardOf
  rw [l01In_eq, l01In_eq]
  by_cases h : 0 ≤ x ∧ x ≤ 11
  · simp [h]
  · by_cases k : -12 ≤ x ∧ x ≤ -1
    · have e : wrap64 (-1 - x) = -1 - x := w64_id (by omega) (by omega)
      simp [h, k, e]
    · simp [h, k]
theorem impl_CardOf_eq (x : Int) (h0 : -9223372036854775808 ≤ x) : impl_CardOf.f x = some (cardOf x) := by
  unfold impl_CardOf.f cardOf
  by_cases h : x < 0
  · have e : wrap64 (-1 - x) = -1 - x := w64_id (by omega) (by omega)
    simp only [if_pos h, e]
    by_cases k : -1 - x ≥ 12
    · rw [if_pos k, if_neg (by omega), if_neg (by omega)]
    · rw [if_neg k, if_neg (by omega), if_pos (by omega)]
  · simp only [if_neg h]
    by_cases k : x ≥ 12
    · rw [if_pos k, if_neg (by omega), if_neg (by omega)]
    · rw [if_neg k, if_pos (by omega)]
theorem l02Has_at (x : Int) (rest : List Int) : ∀ (pre : List Int), (pre ++ rest).length ≤ 4611686018427387904 →
    Ev (fun k => spec_l02Has.l0 k x (pre ++ rest) ((pre ++ rest).length : Int) (pre.length : Int)) (rest.contains x) := by
  induction rest with
  | nil =>
    intro pre hb
    exact Ev.step (f := fun _ => some false) (fun k => by rw [spec_l02Has.l0, if_neg (mid_nlt _)]) (Ev.now _)
  | cons y rest ih =>
    intro pre hb
    by_cases e : y = x
    · subst e
      simp only [List.contains_cons, beq_self_eq_true, Bool.true_or]
      exact Ev.step (f := fun _ => some true) (fun k => by rw [spec_l02Has.l0, if_pos (mid_lt _ _ _), if_pos (nn _), if_pos (mid_lt _ _ _), mid_rd, if_pos rfl]) (Ev.now _)
    · have h := ih (pre ++ [y]) (by simpa using hb)
      rw [← mid_cons] at h
      rw [show (y :: rest).contains x = rest.contains x by simp only [List.contains_cons]; rw [show (x == y) = false by simpa using fun h => e h.symm]; rfl]
      exact Ev.step (fun k => by rw [spec_l02Has.l0, if_pos (mid_lt _ _ _), if_pos (nn _), if_pos (mid_lt _ _ _), mid_rd, if_neg e, mid_succ pre y (by simp at hb; omega)]) h
theorem l02Has_ev (l : List Int) (x : Int) (hb : l.length ≤ 4611686018427387904) : Ev (fun k => spec_l02Has.f k l x) (l.contains x) := l02Has_at x l [] hb
/-- Is a list a packet: the cards met so far are told by twelve bools. -/
def packetM : List Bool → List Int → Bool
  | _, [] => true
  | met, x :: xs => if cardOf x < 0 then false else if met.getD (cardOf x).toNat false = true then false else packetM (met.set (cardOf x).toNat true) xs
def packetB (l : List Int) : Bool := packetM (List.replicate 12 false) l
theorem impl_PacketOk_at (rest : List Int) : ∀ (pre : List Int) (met : List Bool), (pre ++ rest).length ≤ 4611686018427387904 → (∀ x ∈ rest, -9223372036854775808 ≤ x) →
    Ev (fun k => impl_PacketOk.l0 k (pre ++ rest) met (pre.length : Int)) (packetM met rest) := by
  induction rest with
  | nil =>
    intro pre met hb hw
    exact Ev.step (f := fun _ => some true) (fun k => by rw [impl_PacketOk.l0, if_neg (mid_nlt _)]) (Ev.now _)
  | cons x rest ih =>
    intro pre met hb hw
    have hx := hw x (by simp)
    unfold packetM
    by_cases c : cardOf x < 0
    · rw [if_pos c]
      exact Ev.step (f := fun _ => some false) (fun k => by rw [impl_PacketOk.l0, if_pos (mid_lt _ _ _), if_pos (nn _), mid_rd, impl_CardOf_eq x hx]; simp only [Option.bind_some]; rw [if_pos c]) (Ev.now _)
    · rw [if_neg c]
      by_cases m : met.getD (cardOf x).toNat false = true
      · rw [if_pos m]
        exact Ev.step (f := fun _ => some false) (fun k => by rw [impl_PacketOk.l0, if_pos (mid_lt _ _ _), if_pos (nn _), mid_rd, impl_CardOf_eq x hx]; simp only [Option.bind_some]; rw [if_neg c, if_pos (cardOf_lt x), if_pos m]) (Ev.now _)
      · rw [if_neg m]
        have h := ih (pre ++ [x]) (met.set (cardOf x).toNat true) (by simpa using hb) (fun y hy => hw y (by simp [hy]))
        rw [← mid_cons] at h
        exact Ev.step (fun k => by rw [impl_PacketOk.l0, if_pos (mid_lt _ _ _), if_pos (nn _), mid_rd, impl_CardOf_eq x hx]; simp only [Option.bind_some]; rw [if_neg c, if_pos (cardOf_lt x), if_neg m, mid_succ pre x (by simp at hb; omega)]) h
theorem impl_PacketOk_ev (l : List Int) (hb : l.length ≤ 4611686018427387904) (hw : ∀ x ∈ l, -9223372036854775808 ≤ x) : Ev (fun k => impl_PacketOk.f k l) (packetB l) := impl_PacketOk_at l [] _ hb hw
theorem count_set (l : List Bool) : ∀ i, i < l.length → l.getD i false ≠ true → (l.set i true).count true = l.count true + 1 := by
  induction l with
  | nil => intro i h; simp at h
  | cons b l ih =>
    intro i h hb
    cases i with
    | zero =>
      cases b with
      | true => simp at hb
      | false => simp
    | succ i =>
      have := ih i (by simpa using h) (by simpa using hb)
      simp only [List.set_cons_succ, List.count_cons]
      omega
theorem packetM_len (xs : List Int) : ∀ met : List Bool, met.length = 12 → packetM met xs = true → met.count true + xs.length ≤ 12 := by
  induction xs with
  | nil =>
    intro met hl _
    have := List.count_le_length (a := true) (l := met)
    simp; omega
  | cons x xs ih =>
    intro met hl h
    unfold packetM at h
    by_cases c : cardOf x < 0
    · rw [if_pos c] at h; cases h
    · rw [if_neg c] at h
      by_cases m : met.getD (cardOf x).toNat false = true
      · rw [if_pos m] at h; cases h
      · rw [if_neg m] at h
        have h1 := ih _ (by simpa using hl) h
        have := cardOf_lt x
        rw [count_set met _ (by omega) m] at h1
        simp; omega
theorem packetB_len {l : List Int} (h : packetB l = true) : l.length ≤ 12 := by
  have := packetM_len l _ (by simp) h
  simp at this
  omega
theorem set_getD (met : List Bool) (i j : Nat) (hi : i < met.length) : (met.set i true).getD j false = (decide (j = i) || met.getD j false) := by
  by_cases e : j = i
  · subst e
    simp [List.getD_eq_getElem?_getD, hi]
  · have e' : ¬ i = j := fun h => e h.symm
    simp [List.getD_eq_getElem?_getD, List.getElem?_set, e, e']
theorem spec_PacketOk_at (rest : List Int) : ∀ (pre seen : List Int) (met : List Bool), (pre ++ rest).length ≤ 12 → seen.length = pre.length → met.length = 12 → (∀ c : Int, 0 ≤ c → c < 12 → seen.contains c = met.getD c.toNat false) →
    Ev (fun k => spec_PacketOk.l0 k seen (pre ++ rest) ((pre ++ rest).length : Int) (pre.length : Int)) (packetM met rest) := by
  induction rest with
  | nil =>
    intro pre seen met hb hs hm hr
    exact Ev.step (f := fun _ => some true) (fun k => by rw [spec_PacketOk.l0, if_neg (mid_nlt _)]) (Ev.now _)
  | cons x rest ih =>
    intro pre seen met hb hs hm hr
    have hlt := cardOf_lt x
    unfold packetM
    by_cases c : cardOf x < 0
    · rw [if_pos c]
      exact Ev.step (f := fun _ => some false) (fun k => by rw [spec_PacketOk.l0, if_pos (mid_lt _ _ _), if_pos (nn _), if_pos (mid_lt _ _ _), mid_rd, spec_CardOf_eq x]; simp only [Option.bind_some]; rw [if_pos c]) (Ev.now _)
    · rw [if_neg c]
      have hh := l02Has_ev seen (cardOf x) (by simp at hb; omega)
      rw [hr _ (by omega) hlt] at hh
      by_cases m : met.getD (cardOf x).toNat false = true
      · rw [if_pos m]
        rw [m] at hh
        refine Ev.stepb hh (fun k => by rw [spec_PacketOk.l0, if_pos (mid_lt _ _ _), if_pos (nn _), if_pos (mid_lt _ _ _), mid_rd, spec_CardOf_eq x]; simp only [Option.bind_some]; rw [if_neg c]) ?_
        simp only [if_true]
        exact Ev.now _
      · rw [if_neg m]
        have m' : met.getD (cardOf x).toNat false = false := by simpa using m
        rw [m'] at hh
        have h := ih (pre ++ [x]) (seen ++ [cardOf x]) (met.set (cardOf x).toNat true) (by simpa using hb) (by simp [hs]) (by simpa using hm) (by
          intro d d0 d1
          rw [set_getD met _ _ (by omega), ← hr d d0 d1]
          rw [Bool.eq_iff_iff]
          simp only [List.contains_iff_mem, List.mem_append, List.mem_singleton, Bool.or_eq_true, decide_eq_true_eq]
          constructor
          · rintro (h | h)
            · exact .inr h
            · exact .inl (by omega)
          · rintro (h | h)
            · exact .inr (by omega)
            · exact .inl h)
        rw [← mid_cons] at h
        refine Ev.stepb hh (fun k => by rw [spec_PacketOk.l0, if_pos (mid_lt _ _ _), if_pos (nn _), if_pos (mid_lt _ _ _), mid_rd, spec_CardOf_eq x]; simp only [Option.bind_some]; rw [if_neg c]) ?_
        have hl : seen.length < 17592186044416 := by simp at hb; omega
        have hs2 := mid_succ pre x (by simp at hb; omega)
        simpa [hl, hs2] using h
theorem spec_PacketOk_ev (l : List Int) : Ev (fun k => spec_PacketOk.f k l) (packetB l) := by
  unfold spec_PacketOk.f
  by_cases h : (l.length : Int) > 12
  · have : packetB l = false := by
      cases e : packetB l with
      | false => rfl
      | true => have := packetB_len e; omega
    rw [this]
    simp only [if_pos h]
    exact Ev.now _
  · simp only [if_neg h]
    exact spec_PacketOk_at l [] [] _ (by simp; omega) rfl (by simp) (by
      intro c h0 h1
      have : c.toNat < 12 := by omega
      rw [List.getD_eq_getElem?_getD, List.getElem?_replicate, if_pos this]
      rfl)
theorem packetM_cards (xs : List Int) : ∀ met : List Bool, packetM met xs = true → ∀ x ∈ xs, 0 ≤ cardOf x := by
  induction xs with
  | nil => intro met _ x hx; cases hx
  | cons y xs ih =>
    intro met h x hx
    unfold packetM at h
    by_cases c : cardOf y < 0
    · rw [if_pos c] at h; cases h
    · rw [if_neg c] at h
      by_cases m : met.getD (cardOf y).toNat false = true
      · rw [if_pos m] at h; cases h
      · rw [if_neg m] at h
        rcases List.mem_cons.1 hx with rfl | hx
        · omega
        · exact ih _ h x hx
theorem packetB_card {l : List Int} (h : packetB l = true) : ∀ x ∈ l, 0 ≤ cardOf x := packetM_cards l _ h
end Go.Proofs.Ytgldcbcefncjjaa.F
end
section
/- Where a card stands. -/
namespace Go.Proofs.Ytgldcbcefncjjaa.F
open Go.RowKit Go.Proofs.YtgldcbcefncjjaaW.PrintWords Go.Proofs.YtgldcbcefncjjaaW.PrintLast Go.Proofs.YtgldcbcefncjjaaW.PrintMore
set_option linter.unusedVariables false
set_option linter.unusedSimpArgs false
def hasCard (q : List Int) (c : Int) : Bool := q.any fun y => cardOf y == c
theorem posOf_at (c : Int) (hc : 0 ≤ c) (rest : List Int) : ∀ (pre : List Int), (pre ++ rest).length ≤ 4611686018427387904 →
    Ev (fun k => spec_PositionOf.l0 k c (pre ++ rest) ((pre ++ rest).length : Int) (pre.length : Int)) (idxFrom (fun x => cardOf x == c) rest (pre.length : Int)) := by
  induction rest with
  | nil =>
    intro pre hb
    refine Ev.step (f := fun _ => some (-1)) (fun k => ?_) (Ev.now _)
    show spec_PositionOf.l0 (k + 1) c _ _ _ = _
    rw [spec_PositionOf.l0, if_neg (mid_nlt _)]
  | cons x rest ih =>
    intro pre hb
    by_cases e : cardOf x = c
    · rw [show idxFrom (fun x => cardOf x == c) (x :: rest) (pre.length : Int) = (pre.length : Int) by simp [idxFrom, e]]
      refine Ev.step (f := fun _ => some (pre.length : Int)) (fun k => ?_) (Ev.now _)
      show spec_PositionOf.l0 (k + 1) c _ _ _ = _
      rw [spec_PositionOf.l0, if_pos (mid_lt _ _ _), if_pos (nn _), if_pos (mid_lt _ _ _), mid_rd, spec_CardOf_eq, Option.bind_some, if_pos e, if_pos hc]
    · have h := ih (pre ++ [x]) (by simpa using hb)
      rw [← mid_cons, ← mid_succ pre x (by simp at hb; omega)] at h
      rw [show idxFrom (fun x => cardOf x == c) (x :: rest) (pre.length : Int) = idxFrom (fun x => cardOf x == c) rest (wrap64 ((pre.length : Int) + 1)) by simp [idxFrom, e]; rw [w64_nat _ (by simp at hb; omega)]; simp]
      refine Ev.step (fun k => ?_) h
      show spec_PositionOf.l0 (k + 1) c _ _ _ = _
      rw [spec_PositionOf.l0, if_pos (mid_lt _ _ _), if_pos (nn _), if_pos (mid_lt _ _ _), mid_rd, spec_CardOf_eq, Option.bind_some, if_neg e]
theorem posOf_ev (q : List Int) (c : Int) (hc : 0 ≤ c) (hb : q.length ≤ 4611686018427387904) : Ev (fun k => spec_PositionOf.f k q c) (idxFrom (fun x => cardOf x == c) q 0) := posOf_at c hc q [] hb
theorem idx_lt (c : Int) (q : List Int) : ∀ i : Int, 0 ≤ i → decide (idxFrom (fun x => cardOf x == c) q i < 0) = !hasCard q c := by
  induction q with
  | nil => intro i hi; simp [idxFrom, hasCard]
  | cons x q ih =>
    intro i hi
    by_cases e : cardOf x = c
    · have h1 : idxFrom (fun x => cardOf x == c) (x :: q) i = i := by simp [idxFrom, e]
      have h2 : hasCard (x :: q) c = true := by simp [hasCard, e]
      rw [h1, h2, decide_eq_false (by omega)]
      rfl
    · have h1 : idxFrom (fun x => cardOf x == c) (x :: q) i = idxFrom (fun x => cardOf x == c) q (i + 1) := by simp [idxFrom, e]
      have h2 : hasCard (x :: q) c = hasCard q c := by simp [hasCard, e]
      rw [h1, h2]
      exact ih (i + 1) (by omega)
theorem impl_pos_eq (q : List Int) (c : Int) (hc : 0 ≤ c) (hq : ∀ x ∈ q, -9223372036854775808 ≤ x) : impl_PositionOf.f q c = some (idxFrom (fun x => cardOf x == c) q 0) := by
  unfold impl_PositionOf.f
  rw [if_neg (by omega)]
  have aux : ∀ (l : List Int) (i : Int), (∀ x ∈ l, -9223372036854775808 ≤ x) → idxFrom (fun x => impl_CardOf.f x == some c) l i = idxFrom (fun x => cardOf x == c) l i := by
    intro l
    induction l with
    | nil => intro i _; rfl
    | cons x xs ih =>
      intro i h
      have hx := impl_CardOf_eq x (h x (by simp))
      have h2 := ih (i + 1) (fun y hy => h y (by simp [hy]))
      simp only [idxFrom, hx, h2]
      rfl
  rw [aux q 0 hq]
end Go.Proofs.Ytgldcbcefncjjaa.F
end
section
/- Arrangements of one packet. -/
namespace Go.Proofs.Ytgldcbcefncjjaa.F
open Go.RowKit Go.Proofs.YtgldcbcefncjjaaW.PrintWords Go.Proofs.YtgldcbcefncjjaaW.PrintLast Go.Proofs.YtgldcbcefncjjaaW.PrintMore
set_option linter.unusedVariables false
set_option linter.unusedSimpArgs false
theorem lacks_eq (q : List Int) (x : Int) (hq : ∀ x ∈ q, -9223372036854775808 ≤ x) (hx : -9223372036854775808 ≤ x) (hc : 0 ≤ cardOf x) : lacks q x = !hasCard q (cardOf x) := by
  unfold lacks
  rw [impl_CardOf_eq x hx, Option.bind_some, impl_pos_eq q _ hc hq, Option.bind_some, idx_lt _ q 0 (by omega)]
  cases hasCard q (cardOf x) <;> rfl
def arrB (p q : List Int) : Bool := packetB p && (packetB q && (decide (p.length = q.length) && p.all fun x => hasCard q (cardOf x)))
theorem impl_Arr_ev (p q : List Int) (hp : ∀ x ∈ p, -9223372036854775808 ≤ x) (hq : ∀ x ∈ q, -9223372036854775808 ≤ x) (bp : p.length ≤ 4611686018427387904) (bq : q.length ≤ 4611686018427387904) : Ev (fun k => impl_IsArrangement.f k p q) (arrB p q) := by
  unfold impl_IsArrangement.f arrB
  refine Ev.bind (impl_PacketOk_ev p bp hp) ?_
  by_cases h1 : packetB p = true
  · simp only [h1, if_true, Bool.true_and]
    refine Ev.bind (impl_PacketOk_ev q bq hq) ?_
    by_cases h2 : packetB q = true
    · simp only [h2, if_true, Bool.true_and]
      by_cases h3 : p.length = q.length
      · simp only [if_pos (show (p.length : Int) = (q.length : Int) by omega), decide_eq_true h3, Bool.true_and]
        have e : (!(p.any (lacks q))) = p.all fun x => hasCard q (cardOf x) := by
          rw [List.not_any_eq_all_not]
          rw [Bool.eq_iff_iff, List.all_eq_true, List.all_eq_true]
          refine ⟨fun h x hx => ?_, fun h x hx => ?_⟩
          · have := h x hx
            rw [lacks_eq q x hq (hp x hx) (packetB_card h1 x hx)] at this
            simpa using this
          · rw [lacks_eq q x hq (hp x hx) (packetB_card h1 x hx)]
            simpa using h x hx
        rw [e]
        exact Ev.now _
      · simp only [if_neg (show ¬ (p.length : Int) = (q.length : Int) by omega), decide_eq_false h3, Bool.false_and]
        exact Ev.now _
    · simp only [h2, if_false, Bool.false_and]
      exact Ev.now _
  · simp only [h1, if_false, Bool.false_and]
    exact Ev.now _
end Go.Proofs.Ytgldcbcefncjjaa.F
end
section
/- Where a card stands, and arrangements of one packet. -/
namespace Go.Proofs.Ytgldcbcefncjjaa.F
open Go.RowKit Go.Proofs.YtgldcbcefncjjaaW.PrintWords Go.Proofs.YtgldcbcefncjjaaW.PrintLast Go.Proofs.YtgldcbcefncjjaaW.PrintMore
set_option linter.unusedVariables false
set_option linter.unusedSimpArgs false
theorem spec_Arr_at (q : List Int) (bq : q.length ≤ 4611686018427387904) (rest : List Int) : ∀ (pre : List Int), (pre ++ rest).length ≤ 4611686018427387904 → (∀ x ∈ rest, 0 ≤ cardOf x) →
    Ev (fun k => spec_IsArrangement.l0 k q (pre ++ rest) ((pre ++ rest).length : Int) (pre.length : Int)) (rest.all fun x => hasCard q (cardOf x)) := by
  induction rest with
  | nil =>
    intro pre hb hc
    refine Ev.step (f := fun _ => some true) (fun k => ?_) (Ev.now _)
    show spec_IsArrangement.l0 (k + 1) q _ _ _ = _
    rw [spec_IsArrangement.l0, if_neg (mid_nlt _)]
  | cons x rest ih =>
    intro pre hb hc
    have h := ih (pre ++ [x]) (by simpa using hb) (fun y hy => hc y (by simp [hy]))
    rw [← mid_cons, ← mid_succ pre x (by simp at hb; omega)] at h
    refine Ev.stepb (posOf_ev q (cardOf x) (hc x (by simp)) bq) (fun k => by rw [spec_IsArrangement.l0, if_pos (mid_lt _ _ _), if_pos (nn _), if_pos (mid_lt _ _ _), mid_rd, spec_CardOf_eq, Option.bind_some]) ?_
    have e := idx_lt (cardOf x) q 0 (by omega)
    by_cases c : hasCard q (cardOf x) = true
    · have e2 : ¬ idxFrom (fun x => cardOf x == cardOf x) q 0 < 0 ∨ True := Or.inr trivial
      rw [c] at e
      have e3 := of_decide_eq_false e
      simp only [if_neg e3]
      rw [show ((x :: rest).all fun x => hasCard q (cardOf x)) = rest.all fun x => hasCard q (cardOf x) by simp [c]]
      exact h
    · have c' : hasCard q (cardOf x) = false := by simpa using c
      rw [c'] at e
      have e3 := of_decide_eq_true e
      simp only [if_pos e3]
      rw [show ((x :: rest).all fun x => hasCard q (cardOf x)) = false by simp [c']]
      exact Ev.now _
theorem spec_Arr_ev (p q : List Int) (bp : p.length ≤ 4611686018427387904) (bq : q.length ≤ 4611686018427387904) : Ev (fun k => spec_IsArrangement.f k p q) (arrB p q) := by
  unfold spec_IsArrangement.f arrB
  have hj : Ev (fun k => spec_IsArrangement.j0 k p q true) false := Ev.at_ 1 (fun k hk => by obtain ⟨m, rfl⟩ := Nat.exists_eq_add_of_le' hk; rfl)
  refine Ev.bind (spec_PacketOk_ev p) ?_
  by_cases h1 : packetB p = true
  · simp only [h1, if_true, Bool.true_and]
    refine Ev.bind (spec_PacketOk_ev q) ?_
    by_cases h2 : packetB q = true
    · simp only [h2, if_true, Bool.true_and]
      by_cases h3 : p.length = q.length
      · simp only [h3, bne_self_eq_false, decide_true, Bool.true_and]
        refine Ev.step (fun k => ?_) (spec_Arr_at q bq p [] bp (packetB_card h1))
        show spec_IsArrangement.j0 (k + 1) p q false = _
        rw [spec_IsArrangement.j0, if_neg (by simp)]
        rfl
      · have e : ((p.length : Int) != (q.length : Int)) = true := bne_iff_ne.mpr (by omega)
        simp only [e, decide_eq_false h3, Bool.false_and]
        exact hj
    · simp only [h2, if_false, Bool.false_and]
      exact hj
  · simp only [h1, if_false, Bool.false_and]
    exact hj
end Go.Proofs.Ytgldcbcefncjjaa.F
end
section
/- slices.Compare and the reference's lexicographic order. -/
namespace Go.Proofs.Ytgldcbcefncjjaa.F
open Go.RowKit Go.Proofs.YtgldcbcefncjjaaW.PrintWords Go.Proofs.YtgldcbcefncjjaaW.PrintLast Go.Proofs.YtgldcbcefncjjaaW.PrintMore
set_option linter.unusedVariables false
set_option linter.unusedSimpArgs false
def lessB : List Int → List Int → Bool
  | [], [] => false
  | [], _ :: _ => true
  | _ :: _, [] => false
  | x :: xs, y :: ys => if x = y then lessB xs ys else decide (x < y)
def cmpR : List Int → List Int → Int
  | [], [] => 0
  | [], _ :: _ => -1
  | _ :: _, [] => 1
  | x :: xs, y :: ys => if x = y then cmpR xs ys else if x < y then -1 else 1
theorem cmpR_less (a : List Int) : ∀ b, decide (cmpR a b ≥ 0) = !lessB a b := by
  induction a with
  | nil => intro b; cases b <;> rfl
  | cons x xs ih =>
    intro b
    cases b with
    | nil => rfl
    | cons y ys =>
      unfold cmpR lessB
      by_cases e : x = y
      · rw [if_pos e, if_pos e]; exact ih ys
      · rw [if_neg e, if_neg e]
        by_cases l : x < y
        · rw [if_pos l]; simp [l]
        · rw [if_neg l]; simp [l]
theorem cmpCompare_eq (x y : Int) : cmp_Compare_int.f x y = some (if x = y then 0 else if x < y then -1 else 1) := by
  have h : ∀ z, cmp_isNaN_int.f z = some false := by intro z; unfold cmp_isNaN_int.f; simp
  unfold cmp_Compare_int.f
  rw [h, h]
  simp only [Option.bind_some, Bool.false_eq_true, if_false]
  by_cases e : x = y
  · subst e; simp
  · by_cases l : x < y
    · simp [e, l]
    · have : x > y := by omega
      simp [e, l, this]
theorem compare_at (rest : List Int) : ∀ (pre ys : List Int), (pre ++ rest).length ≤ 4611686018427387904 → (pre ++ ys).length ≤ 4611686018427387904 →
    Ev (fun k => slices_Compare_Lint_int.l0 k (pre ++ rest) (pre ++ ys) (pre ++ rest) ((pre ++ rest).length : Int) (pre.length : Int)) (cmpR rest ys) := by
  induction rest with
  | nil =>
    intro pre ys hb hc
    refine Ev.step (f := fun _ => some (cmpR [] ys)) (fun k => ?_) (Ev.now _)
    show slices_Compare_Lint_int.l0 (k + 1) _ _ _ _ _ = _
    rw [slices_Compare_Lint_int.l0, if_neg (mid_nlt _)]
    cases ys with
    | nil => rw [if_neg (by omega)]; rfl
    | cons y ys => rw [if_pos (by simp; omega)]; rfl
  | cons x rest ih =>
    intro pre ys hb hc
    cases ys with
    | nil =>
      refine Ev.step (f := fun _ => some 1) (fun k => ?_) (Ev.now _)
      show slices_Compare_Lint_int.l0 (k + 1) _ _ _ _ _ = _
      rw [slices_Compare_Lint_int.l0, if_pos (mid_lt _ _ _), if_pos (nn _), if_pos (mid_lt _ _ _), if_pos (by simp)]
    | cons y ys =>
      have hge : ¬ ((pre.length : Int) ≥ ((pre ++ y :: ys).length : Int)) := by have := mid_lt pre y ys; omega
      by_cases e : x = y
      · subst e
        have h := ih (pre ++ [x]) ys (by simpa using hb) (by simpa using hc)
        rw [← mid_cons, ← mid_cons, ← mid_succ pre x (by simp at hb; omega)] at h
        rw [show cmpR (x :: rest) (x :: ys) = cmpR rest ys by simp [cmpR]]
        refine Ev.step (fun k => ?_) h
        show slices_Compare_Lint_int.l0 (k + 1) _ _ _ _ _ = _
        rw [slices_Compare_Lint_int.l0, if_pos (mid_lt _ _ _), if_pos (nn _), if_pos (mid_lt _ _ _), if_neg hge, if_pos (mid_lt _ _ _), mid_rd, mid_rd, cmpCompare_eq, if_pos rfl, Option.bind_some, if_pos rfl]
      · rw [show cmpR (x :: rest) (y :: ys) = if x < y then -1 else 1 by simp [cmpR, e]]
        refine Ev.step (f := fun _ => some (if x < y then -1 else 1)) (fun k => ?_) (Ev.now _)
        show slices_Compare_Lint_int.l0 (k + 1) _ _ _ _ _ = _
        rw [slices_Compare_Lint_int.l0, if_pos (mid_lt _ _ _), if_pos (nn _), if_pos (mid_lt _ _ _), if_neg hge, if_pos (mid_lt _ _ _), mid_rd, mid_rd, cmpCompare_eq, if_neg e, Option.bind_some]
        by_cases l : x < y
        · rw [if_pos l]; rfl
        · rw [if_neg l]; rfl
theorem compare_ev (a b : List Int) (ha : a.length ≤ 4611686018427387904) (hb : b.length ≤ 4611686018427387904) : Ev (fun k => slices_Compare_Lint_int.f k a b) (cmpR a b) := compare_at a [] b ha hb
theorem less_at (rest : List Int) : ∀ (pre ys : List Int), (pre ++ rest).length ≤ 4611686018427387904 → (pre ++ ys).length ≤ 4611686018427387904 →
    Ev (fun k => spec_l05Less.l0 k (pre ++ rest) (pre ++ ys) (pre ++ rest) ((pre ++ rest).length : Int) (pre.length : Int)) (lessB rest ys) := by
  induction rest with
  | nil =>
    intro pre ys hb hc
    refine Ev.step (f := fun _ => some (lessB [] ys)) (fun k => ?_) (Ev.now _)
    show spec_l05Less.l0 (k + 1) _ _ _ _ _ = _
    rw [spec_l05Less.l0, if_neg (mid_nlt _)]
    cases ys with
    | nil => rw [decide_eq_false (by omega)]; rfl
    | cons y ys => rw [decide_eq_true (by simp; omega)]; rfl
  | cons x rest ih =>
    intro pre ys hb hc
    cases ys with
    | nil =>
      refine Ev.step (f := fun _ => some false) (fun k => ?_) (Ev.now _)
      show spec_l05Less.l0 (k + 1) _ _ _ _ _ = _
      rw [spec_l05Less.l0, if_pos (mid_lt _ _ _), if_pos (nn _), if_pos (mid_lt _ _ _), if_pos (by simp)]
    | cons y ys =>
      have hge : ¬ ((pre.length : Int) ≥ ((pre ++ y :: ys).length : Int)) := by have := mid_lt pre y ys; omega
      by_cases e : x = y
      · subst e
        have h := ih (pre ++ [x]) ys (by simpa using hb) (by simpa using hc)
        rw [← mid_cons, ← mid_cons, ← mid_succ pre x (by simp at hb; omega)] at h
        rw [show lessB (x :: rest) (x :: ys) = lessB rest ys by simp [lessB]]
        refine Ev.step (fun k => ?_) h
        show spec_l05Less.l0 (k + 1) _ _ _ _ _ = _
        rw [spec_l05Less.l0, if_pos (mid_lt _ _ _), if_pos (nn _), if_pos (mid_lt _ _ _), if_neg hge, if_pos (mid_lt _ _ _), mid_rd, mid_rd, if_pos rfl]
      · rw [show lessB (x :: rest) (y :: ys) = decide (x < y) by simp [lessB, e]]
        refine Ev.step (f := fun _ => some (decide (x < y))) (fun k => ?_) (Ev.now _)
        show spec_l05Less.l0 (k + 1) _ _ _ _ _ = _
        rw [spec_l05Less.l0, if_pos (mid_lt _ _ _), if_pos (nn _), if_pos (mid_lt _ _ _), if_neg hge, if_pos (mid_lt _ _ _), mid_rd, mid_rd, if_neg e]
theorem less_ev (a b : List Int) (ha : a.length ≤ 4611686018427387904) (hb : b.length ≤ 4611686018427387904) : Ev (fun k => spec_l05Less.f k a b) (lessB a b) := less_at a [] b ha hb
end Go.Proofs.Ytgldcbcefncjjaa.F
end
section
/- A list of packets that may be known: the program's and the reference's check. -/
namespace Go.Proofs.Ytgldcbcefncjjaa.F
open Go.RowKit Go.Proofs.YtgldcbcefncjjaaW.PrintWords Go.Proofs.YtgldcbcefncjjaaW.PrintLast Go.Proofs.YtgldcbcefncjjaaW.PrintMore
set_option linter.unusedVariables false
set_option linter.unusedSimpArgs false
def knowM (hd : List Int) : Option (List Int) → List (List Int) → Bool
  | _, [] => true
  | none, x :: xs => arrB hd x && knowM hd (some x) xs
  | some y, x :: xs => arrB hd x && (lessB y x && knowM hd (some x) xs)
def knowB (l : List (List Int)) : Bool := decide (1 ≤ (l.length : Int) ∧ (l.length : Int) ≤ 3000) && (decide ((l.getD 0 []).length ≠ 0) && knowM (l.getD 0 []) none l)
theorem rd_last (q : List (List Int)) (y : List Int) (rest : List (List Int)) (h : q.length ≤ 4611686018427387904) : rd_L2 ((q ++ [y]) ++ rest) (wrap64 (((q ++ [y]).length : Int) - 1)) = y := by
  rw [show wrap64 (((q ++ [y]).length : Int) - 1) = (q.length : Int) by rw [w64_id (by rw [List.length_append, List.length_singleton]; omega) (by rw [List.length_append, List.length_singleton]; omega)]; simp, List.append_assoc]
  exact mid_rdL1 q y rest
theorem rd_head (l : List (List Int)) : rd_L2 l 0 = l.getD 0 [] := by
  unfold rd_L2
  rfl
theorem impl_Know_at (rest : List (List Int)) : ∀ (pre : List (List Int)), (pre ++ rest).length ≤ 4611686018427387904 → (∀ x ∈ pre ++ rest, x.length ≤ 1048576 ∧ ∀ y ∈ x, -9223372036854775808 ≤ y) →
    Ev (fun k => impl_KnowOk.l0 k (pre ++ rest) (pre ++ rest) ((pre ++ rest).length : Int) (pre.length : Int)) (knowM ((pre ++ rest).getD 0 []) pre.getLast? rest) := by
  induction rest with
  | nil =>
    intro pre hb hx
    have e : knowM ((pre ++ []).getD 0 []) pre.getLast? [] = true := by cases pre.getLast? <;> rfl
    rw [e]
    refine Ev.step (f := fun _ => some true) (fun k => ?_) (Ev.now _)
    show impl_KnowOk.l0 (k + 1) _ _ _ _ = _
    rw [impl_KnowOk.l0, if_neg (mid_nlt _)]
  | cons x rest ih =>
    intro pre hb hx
    have hpos : (0 : Int) < ((pre ++ x :: rest).length : Int) := by have := mid_lt pre x rest; omega
    have h := ih (pre ++ [x]) (by simpa using hb) (by simpa using hx)
    rw [← mid_cons, ← mid_succ pre x (by simp at hb; omega), List.getLast?_concat] at h
    have hxx := hx x (by simp)
    have hhd : (pre ++ x :: rest).getD 0 [] ∈ pre ++ x :: rest := by
      cases pre with
      | nil => simp
      | cons y ys => simp
    have hh := hx _ hhd
    have hA := impl_Arr_ev ((pre ++ x :: rest).getD 0 []) x hh.2 hxx.2 (by omega) (by omega)
    refine Ev.stepb hA (fun k => by rw [impl_KnowOk.l0, if_pos (mid_lt _ _ _), if_pos (nn _), if_pos (mid_lt _ _ _), if_pos hpos, rd_head, mid_rdL1]) ?_
    by_cases ca : arrB ((pre ++ x :: rest).getD 0 []) x = true
    · simp only [ca, if_true]
      rcases List.eq_nil_or_concat pre with rfl | ⟨q, y, rfl⟩
      · simp only [List.length_nil, Int.natCast_zero, if_neg (show ¬ (0 : Int) > 0 by omega), List.getLast?_nil]
        rw [show knowM (([] ++ x :: rest : List (List Int)).getD 0 []) none (x :: rest) = knowM (([] ++ x :: rest : List (List Int)).getD 0 []) (some x) rest by simp only [knowM]; rw [ca]; rfl]
        exact h
      · simp only [List.concat_eq_append] at *
        have hy := hx y (by simp)
        have hq : q.length ≤ 4611686018427387904 := by simp at hb; omega
        have hp : ((q ++ [y]).length : Int) > 0 := by rw [List.length_append]; simp; try omega
        have hw : wrap64 (((q ++ [y]).length : Int) - 1) = (q.length : Int) := by rw [w64_id (by rw [List.length_append, List.length_singleton]; omega) (by rw [List.length_append, List.length_singleton]; omega)]; simp
        have c1 : (0 : Int) ≤ wrap64 (((q ++ [y]).length : Int) - 1) := by rw [hw]; omega
        have c2 : wrap64 (((q ++ [y]).length : Int) - 1) < ((q ++ [y] ++ x :: rest).length : Int) := by rw [hw]; simp; omega
        simp only [if_pos hp, if_pos c1, if_pos c2, rd_last q y (x :: rest) hq, List.getLast?_concat]
        refine Ev.bind (compare_ev y x (by omega) (by omega)) ?_
        have hl := cmpR_less y x
        by_cases cl : lessB y x = true
        · rw [cl] at hl
          have := of_decide_eq_false hl
          simp only [if_neg this]
          rw [show knowM ((q ++ [y] ++ x :: rest).getD 0 []) (some y) (x :: rest) = knowM ((q ++ [y] ++ x :: rest).getD 0 []) (some x) rest by simp only [knowM]; rw [ca, cl]; rfl]
          exact h
        · have cl' : lessB y x = false := by simpa using cl
          rw [cl'] at hl
          have := of_decide_eq_true hl
          simp only [if_pos this]
          rw [show knowM ((q ++ [y] ++ x :: rest).getD 0 []) (some y) (x :: rest) = false by simp only [knowM]; rw [cl', Bool.false_and, Bool.and_false]]
          exact Ev.now _
    · have ca' : arrB ((pre ++ x :: rest).getD 0 []) x = false := by simpa using ca
      simp only [ca', Bool.false_eq_true, if_false]
      rw [show knowM ((pre ++ x :: rest).getD 0 []) pre.getLast? (x :: rest) = false by cases pre.getLast? <;> (simp only [knowM]; rw [ca', Bool.false_and])]
      exact Ev.now _
theorem spec_Know_at (rest : List (List Int)) : ∀ (pre : List (List Int)), (pre ++ rest).length ≤ 4611686018427387904 → (∀ x ∈ pre ++ rest, x.length ≤ 1048576) →
    Ev (fun k => spec_KnowOk.l0 k (pre ++ rest) (pre ++ rest) ((pre ++ rest).length : Int) (pre.length : Int)) (knowM ((pre ++ rest).getD 0 []) pre.getLast? rest) := by
  induction rest with
  | nil =>
    intro pre hb hx
    have e : knowM ((pre ++ []).getD 0 []) pre.getLast? [] = true := by cases pre.getLast? <;> rfl
    rw [e]
    refine Ev.step (f := fun _ => some true) (fun k => ?_) (Ev.now _)
    show spec_KnowOk.l0 (k + 1) _ _ _ _ = _
    rw [spec_KnowOk.l0, if_neg (mid_nlt _)]
  | cons x rest ih =>
    intro pre hb hx
    have hpos : (0 : Int) < ((pre ++ x :: rest).length : Int) := by have := mid_lt pre x rest; omega
    have h := ih (pre ++ [x]) (by simpa using hb) (by simpa using hx)
    rw [← mid_cons, ← mid_succ pre x (by simp at hb; omega), List.getLast?_concat] at h
    have hxx := hx x (by simp)
    have hhd : (pre ++ x :: rest).getD 0 [] ∈ pre ++ x :: rest := by
      cases pre with
      | nil => simp
      | cons y ys => simp
    have hh := hx _ hhd
    have hA := spec_Arr_ev ((pre ++ x :: rest).getD 0 []) x (by omega) (by omega)
    refine Ev.stepb hA (fun k => by rw [spec_KnowOk.l0, if_pos (mid_lt _ _ _), if_pos (nn _), if_pos (mid_lt _ _ _), if_pos hpos, rd_head, mid_rdL1]) ?_
    by_cases ca : arrB ((pre ++ x :: rest).getD 0 []) x = true
    · simp only [ca, if_true]
      rcases List.eq_nil_or_concat pre with rfl | ⟨q, y, rfl⟩
      · simp only [List.length_nil, Int.natCast_zero, if_neg (show ¬ (0 : Int) > 0 by omega), List.getLast?_nil]
        rw [show knowM (([] ++ x :: rest : List (List Int)).getD 0 []) none (x :: rest) = knowM (([] ++ x :: rest : List (List Int)).getD 0 []) (some x) rest by simp only [knowM]; rw [ca]; rfl]
        exact h
      · simp only [List.concat_eq_append] at *
        have hy := hx y (by simp)
        have hq : q.length ≤ 4611686018427387904 := by simp at hb; omega
        have hp : ((q ++ [y]).length : Int) > 0 := by rw [List.length_append]; simp; try omega
        have hw : wrap64 (((q ++ [y]).length : Int) - 1) = (q.length : Int) := by rw [w64_id (by rw [List.length_append, List.length_singleton]; omega) (by rw [List.length_append, List.length_singleton]; omega)]; simp
        have c1 : (0 : Int) ≤ wrap64 (((q ++ [y]).length : Int) - 1) := by rw [hw]; omega
        have c2 : wrap64 (((q ++ [y]).length : Int) - 1) < ((q ++ [y] ++ x :: rest).length : Int) := by rw [hw]; simp; omega
        simp only [if_pos hp, if_pos c1, if_pos c2, rd_last q y (x :: rest) hq, List.getLast?_concat]
        refine Ev.bind (less_ev y x (by omega) (by omega)) ?_
        by_cases cl : lessB y x = true
        · simp only [cl, if_true]
          rw [show knowM ((q ++ [y] ++ x :: rest).getD 0 []) (some y) (x :: rest) = knowM ((q ++ [y] ++ x :: rest).getD 0 []) (some x) rest by simp only [knowM]; rw [ca, cl]; rfl]
          exact h
        · have cl' : lessB y x = false := by simpa using cl
          simp only [cl', Bool.false_eq_true, if_false]
          rw [show knowM ((q ++ [y] ++ x :: rest).getD 0 []) (some y) (x :: rest) = false by simp only [knowM]; rw [cl', Bool.false_and, Bool.and_false]]
          exact Ev.now _
    · have ca' : arrB ((pre ++ x :: rest).getD 0 []) x = false := by simpa using ca
      simp only [ca', Bool.false_eq_true, if_false]
      rw [show knowM ((pre ++ x :: rest).getD 0 []) pre.getLast? (x :: rest) = false by cases pre.getLast? <;> (simp only [knowM]; rw [ca', Bool.false_and])]
      exact Ev.now _
theorem impl_Know_ev (l : List (List Int)) (hb : l.length ≤ 4611686018427387904) (hx : ∀ x ∈ l, x.length ≤ 1048576 ∧ ∀ y ∈ x, -9223372036854775808 ≤ y) : Ev (fun k => impl_KnowOk.f k l) (knowB l) := by
  have hj : Ev (fun k => impl_KnowOk.j0 k l true) false := Ev.at_ 1 (fun k hk => by obtain ⟨m, rfl⟩ := Nat.exists_eq_add_of_le' hk; rfl)
  unfold impl_KnowOk.f knowB
  by_cases h1 : (l.length : Int) < 1
  · simp only [if_pos h1, decide_eq_false (show ¬ (1 ≤ (l.length : Int) ∧ (l.length : Int) ≤ 3000) by omega), Bool.false_and]
    exact hj
  · by_cases h2 : (l.length : Int) > 3000
    · simp only [if_neg h1, if_pos h2, decide_eq_false (show ¬ (1 ≤ (l.length : Int) ∧ (l.length : Int) ≤ 3000) by omega), Bool.false_and]
      exact hj
    · simp only [if_neg h1, if_neg h2, if_pos (show 0 < (l.length : Int) by omega), decide_eq_true (show 1 ≤ (l.length : Int) ∧ (l.length : Int) ≤ 3000 by omega), Bool.true_and, rd_head]
      by_cases h3 : (l.getD 0 []).length = 0
      · have e : (((l.getD 0 []).length : Int) == 0) = true := beq_iff_eq.mpr (by omega)
        simp only [e, decide_eq_false (show ¬ (l.getD 0 []).length ≠ 0 by omega), Bool.false_and]
        exact hj
      · have e : (((l.getD 0 []).length : Int) == 0) = false := beq_eq_false_iff_ne.mpr (by omega)
        simp only [e, decide_eq_true (show (l.getD 0 []).length ≠ 0 by omega), Bool.true_and]
        refine Ev.step (fun k => ?_) (impl_Know_at l [] hb hx)
        show impl_KnowOk.j0 (k + 1) l false = _
        rw [impl_KnowOk.j0, if_neg (by simp)]
        rfl
theorem spec_Know_ev (l : List (List Int)) (hb : l.length ≤ 4611686018427387904) (hx : ∀ x ∈ l, x.length ≤ 1048576) : Ev (fun k => spec_KnowOk.f k l) (knowB l) := by
  have hj : Ev (fun k => spec_KnowOk.j0 k l true) false := Ev.at_ 1 (fun k hk => by obtain ⟨m, rfl⟩ := Nat.exists_eq_add_of_le' hk; rfl)
  unfold spec_KnowOk.f knowB
  simp only [l01In_eq, Option.bind_some]
  by_cases h1 : 1 ≤ (l.length : Int) ∧ (l.length : Int) ≤ 3000
  · simp only [decide_eq_true h1, if_true, if_pos (show 0 < (l.length : Int) by omega), Bool.true_and, rd_head]
    by_cases h3 : (l.getD 0 []).length = 0
    · have e : (((l.getD 0 []).length : Int) == 0) = true := beq_iff_eq.mpr (by omega)
      simp only [e, decide_eq_false (show ¬ (l.getD 0 []).length ≠ 0 by omega), Bool.false_and]
      exact hj
    · have e : (((l.getD 0 []).length : Int) == 0) = false := beq_eq_false_iff_ne.mpr (by omega)
      simp only [e, decide_eq_true (show (l.getD 0 []).length ≠ 0 by omega), Bool.true_and]
      refine Ev.step (fun k => ?_) (spec_Know_at l [] hb hx)
      show spec_KnowOk.j0 (k + 1) l false = _
      rw [spec_KnowOk.j0, if_neg (by simp)]
      rfl
  · simp only [decide_eq_false h1, Bool.false_eq_true, if_false, Bool.false_and]
    exact hj
end Go.Proofs.Ytgldcbcefncjjaa.F
end
