import Derived.Test.YtgldcbcefncjjaaZFnForces6
import Derived.Test.YtgldcbcefncjjaaZFnForces7
import Derived.Test.YtgldcbcefncjjaaZFnForces8
import Derived.Test.YtgldcbcefncjjaaZFnForces4
section
/- What the makers of arguments give: numbers in their bounds, whatever the code is. -/
namespace Go.Proofs.Ytgldcbcefncjjaa.F
open Go.RowKit Go.Proofs.YtgldcbcefncjjaaW.PrintWords Go.Proofs.YtgldcbcefncjjaaW.PrintLast Go.Proofs.YtgldcbcefncjjaaW.PrintMore
set_option linter.unusedVariables false
set_option linter.unusedSimpArgs false
theorem and_255 (x : Int) : 0 ≤ Go.bits .and .i64 x 255 ∧ Go.bits .and .i64 x 255 ≤ 255 := by
  have h : (BitVec.ofInt 64 x &&& BitVec.ofInt 64 255).toNat ≤ 255 := by
    rw [BitVec.toNat_and]
    exact Nat.le_trans Nat.and_le_right (by decide)
  have e : Go.bits .and .i64 x 255 = wrap64 (((BitVec.ofInt 64 x &&& BitVec.ofInt 64 255).toNat : Nat) : Int) := i64_w _
  rw [e, w64_id (by omega) (by omega)]
  omega
/-- The cursor stands within its code. -/
def curB (f0 : List Int) (f1 : Int) : Prop := 0 ≤ f1 ∧ f1 ≤ (f0.length : Int) ∧ f0.length ≤ 1048576
theorem byte_ex (f0 : List Int) (f1 f2 : Int) (h : curB f0 f1) : ∃ b g1 g2, spec_l01Byte.f f0 f1 f2 = some (b, g1, g2) ∧ 0 ≤ b ∧ b ≤ 255 ∧ curB f0 g1 := by
  obtain ⟨h0, h1, h2⟩ := h
  unfold spec_l01Byte.f
  by_cases c : f1 < (f0.length : Int)
  · rw [if_pos c, if_pos h0]
    have hw : wrap64 (f1 + 1) = f1 + 1 := w64_id (by omega) (by omega)
    exact ⟨_, _, _, rfl, (and_255 _).1, (and_255 _).2, by rw [hw]; omega, by rw [hw]; omega, h2⟩
  · rw [if_neg c]
    exact ⟨_, _, _, rfl, (and_255 _).1, (and_255 _).2, h0, h1, h2⟩
theorem below_ex (f0 : List Int) (f1 f2 n : Int) (h : curB f0 f1) (h0 : 1 ≤ n) (h1 : n ≤ 256) : ∃ b g1 g2, spec_l01Below.f f0 f1 f2 n = some (b, g1, g2) ∧ 0 ≤ b ∧ b < n ∧ curB f0 g1 := by
  obtain ⟨b, g1, g2, hb, b0, b1, hc⟩ := byte_ex f0 f1 f2 h
  unfold spec_l01Below.f
  rw [if_neg (by omega), if_pos h1, hb, Option.bind_some, if_neg (by omega)]
  refine ⟨_, _, _, rfl, ?_, ?_, hc⟩
  · exact Int.tmod_nonneg _ b0
  · exact Int.tmod_lt_of_pos _ (by omega)
theorem once_ex (f0 : List Int) (f1 f2 n : Int) (h : curB f0 f1) (h0 : 1 ≤ n) (h1 : n ≤ 256) : ∃ b g1 g2, spec_l01Once.f f0 f1 f2 n = some (b, g1, g2) ∧ curB f0 g1 := by
  obtain ⟨b, g1, g2, hb, _, _, hc⟩ := below_ex f0 f1 f2 n h h0 h1
  unfold spec_l01Once.f
  rw [hb, Option.bind_some]
  exact ⟨_, _, _, rfl, hc⟩
theorem new_at (rest : List Int) : ∀ (pre : List Int) (h : Int), (pre ++ rest).length ≤ 1048576 →
    ∃ r, Ev (fun k => spec_l01New.l0 k (pre ++ rest) h (pre.length : Int)) (pre ++ rest, 0, r) := by
  induction rest with
  | nil =>
    intro pre h hb
    refine ⟨h, Ev.step (f := fun _ => some (pre ++ [], 0, h)) (fun k => ?_) (Ev.now _)⟩
    show spec_l01New.l0 (k + 1) _ h _ = _
    rw [spec_l01New.l0, if_neg (mid_nlt _)]
  | cons x rest ih =>
    intro pre h hb
    by_cases c : (pre.length : Int) < 4000
    · obtain ⟨r, hr⟩ := ih (pre ++ [x]) (Go.bits .and .i64 (wrap64 ((wrap64 ((wrap64 (h * 101)) + (wrap64 x))) + 7)) 1073741823) (by simpa using hb)
      rw [← mid_cons, ← mid_succ pre x (by simp at hb; omega)] at hr
      refine ⟨r, Ev.step (fun k => ?_) hr⟩
      show spec_l01New.l0 (k + 1) _ h _ = _
      rw [spec_l01New.l0, if_pos (mid_lt _ _ _), if_pos c, if_pos (nn _), mid_rd]
    · refine ⟨h, Ev.step (f := fun _ => some (pre ++ x :: rest, 0, h)) (fun k => ?_) (Ev.now _)⟩
      show spec_l01New.l0 (k + 1) _ h _ = _
      rw [spec_l01New.l0, if_pos (mid_lt _ _ _), if_neg c]
theorem new_ev (l : List Int) (hb : l.length ≤ 1048576) : ∃ r, Ev (fun k => spec_l01New.f k l) (l, 0, r) := new_at l [] _ hb
theorem l23_at (f0 : List Int) (n : Nat) : ∀ (i : Int) (a f1 f2 : Int), i + n = a → 0 ≤ i → a ≤ 1048576 → curB f0 f1 →
    ∃ g1 g2, Ev (fun k => spec_l23New.l0 k a f0 f1 f2 i) (f0, g1, g2) ∧ curB f0 g1 := by
  induction n with
  | zero =>
    intro i a f1 f2 hn hi ha h
    refine ⟨f1, f2, Ev.step (f := fun _ => some (f0, f1, f2)) (fun k => ?_) (Ev.now _), h⟩
    show spec_l23New.l0 (k + 1) a f0 f1 f2 i = _
    rw [spec_l23New.l0, if_neg (by omega)]
  | succ n ih =>
    intro i a f1 f2 hn hi ha h
    obtain ⟨b, g1, g2, hb, _, _, hc⟩ := byte_ex f0 f1 f2 h
    obtain ⟨e1, e2, he, hf⟩ := ih (i + 1) a g1 g2 (by omega) (by omega) ha hc
    refine ⟨e1, e2, Ev.step (fun k => ?_) he, hf⟩
    show spec_l23New.l0 (k + 1) a f0 f1 f2 i = _
    rw [spec_l23New.l0, if_pos (by omega), hb, Option.bind_some, w64_id (by omega) (by omega)]
theorem l23_ev (l : List Int) (a : Int) (hb : l.length ≤ 1048576) (h0 : 0 ≤ a) (h1 : a ≤ 1048576) : ∃ g1 g2, Ev (fun k => spec_l23New.f k l a) (l, g1, g2) ∧ curB l g1 := by
  obtain ⟨r, hr⟩ := new_ev l hb
  obtain ⟨g1, g2, hg, hc⟩ := l23_at l a.toNat 0 a 0 r (by omega) (by omega) h1 ⟨by omega, by omega, hb⟩
  unfold spec_l23New.f
  exact ⟨g1, g2, Ev.bind hr hg, hc⟩
theorem num_ev (l : List Int) (a : Int) (hb : l.length ≤ 1048576) (h0 : 0 ≤ a) (h1 : a ≤ 1048576) : ∃ v, Ev (fun k => spec_MakeNum.f k l a) v ∧ 0 ≤ v ∧ v ≤ 65535 := by
  obtain ⟨g1, g2, hg, hc⟩ := l23_ev l a hb h0 h1
  obtain ⟨b, c1, c2, hb1, b0, b1, hc1⟩ := byte_ex l g1 g2 hc
  obtain ⟨d, e1, e2, hd1, d0, d1, hc2⟩ := byte_ex l c1 c2 hc1
  refine ⟨b * 256 + d, ?_, by omega, by omega⟩
  unfold spec_MakeNum.f
  refine Ev.bind hg ?_
  simp only [hb1, hd1, Option.bind_some]
  rw [w64_id (show -9223372036854775808 ≤ b * 256 by omega) (by omega), w64_id (by omega) (by omega)]
  exact Ev.now _
end Go.Proofs.Ytgldcbcefncjjaa.F
end
section
/- The laws' helpers on lists of nodes. -/
namespace Go.Proofs.Ytgldcbcefncjjaa.F
open Go.RowKit Go.Proofs.YtgldcbcefncjjaaW.PrintWords Go.Proofs.YtgldcbcefncjjaaW.PrintLast Go.Proofs.YtgldcbcefncjjaaW.PrintMore
set_option linter.unusedVariables false
set_option linter.unusedSimpArgs false
abbrev LN := S66
abbrev IN := S49
def conv (x : LN) : IN := ⟨x.f0, x.f1, x.f2⟩
theorem mid_rdIN (pre : List IN) (x : IN) (rest : List IN) : rd_T49 (pre ++ x :: rest) (pre.length : Int) = x := by
  unfold rd_T49
  simp
end Go.Proofs.Ytgldcbcefncjjaa.F
end
section
/- Laid by a program of this claim's own. What the Go function does, as a Lean function, and the proof that the Go code does just that; Lean checks it. -/
namespace Go.Proofs.Ytgldcbcefncjjaa.F
open Go.RowKit Go.Proofs.YtgldcbcefncjjaaW.PrintWords Go.Proofs.YtgldcbcefncjjaaW.PrintLast Go.Proofs.YtgldcbcefncjjaaW.PrintMore
attribute [local go_sem] max2_int min2_int max_two min_two max_three min_three max_four min_four   -- for this text's walks alone
set_option linter.unusedVariables false
set_option linter.unusedSimpArgs false
/-! ### spec_l01In: function 74 -/
def spec_l01In.f (a0 : Int) (a1 : Int) (a2 : Int) : Option (Bool) := if a0 ≥ a1 then (some (decide (a0 ≤ a2))) else (some false)
end Go.Proofs.Ytgldcbcefncjjaa.F
end
section
/- Laid by a program of this claim's own. What the Go function does, as a Lean function, and the proof that the Go code does just that; Lean checks it. -/
namespace Go.Proofs.Ytgldcbcefncjjaa.F
open Go.RowKit Go.Proofs.YtgldcbcefncjjaaW.PrintWords Go.Proofs.YtgldcbcefncjjaaW.PrintLast Go.Proofs.YtgldcbcefncjjaaW.PrintMore
attribute [local go_sem] max2_int min2_int max_two min_two max_three min_three max_four min_four   -- for this text's walks alone
set_option linter.unusedVariables false
set_option linter.unusedSimpArgs false
/-! ### spec_ForceOk: function 57 -/
mutual
def spec_ForceOk.l0 : Nat → List (S49) → List Int → List (S49) → Int → Int → Option (Bool)
  | 0, _, _, _, _, _ => none
  | k + 1, x0, x3, x17, x18, x19 => if x19 < x18 then (if 0 ≤ x19 then (if x19 < (x17.length : Int) then (spec_ForceOk.l1 k x0 x3 x19 x17 x18 x19 ((rd_T49 x17 x19).f1) (((rd_T49 x17 x19).f1).length : Int) 0 ((rd_T49 x17 x19).f0) ((rd_T49 x17 x19).f1) ((rd_T49 x17 x19).f2)) else (none)) else (none)) else (spec_ForceOk.l2 k x3 (x3.length : Int) 0)
def spec_ForceOk.l1 : Nat → List (S49) → List Int → Int → List (S49) → Int → Int → List Int → Int → Int → ByteArray → List Int → Int → Option (Bool)
  | 0, _, _, _, _, _, _, _, _, _, _, _, _ => none
  | k + 1, x0, x3, x4, x17, x18, x19, x25, x26, x27, x175000, x175001, x175002 => if x27 < x26 then (if 0 ≤ x27 then (if x27 < (x25.length : Int) then ((spec_l01In.f (rd x25 x27) (wrap64 (x4 + 1)) (wrap64 ((x0.length : Int) - 1))).bind fun t176 => (if t176 = true then (if 0 ≤ (rd x25 x27) then (if (rd x25 x27) < (x3.length : Int) then (spec_ForceOk.l1 k x0 (x3.set ((rd x25 x27) : Int).toNat (wrap64 ((rd x3 (rd x25 x27)) + 1))) x4 x17 x18 x19 x25 x26 (wrap64 (x27 + 1)) x175000 x175001 x175002) else (none)) else (none)) else (some false))) else (none)) else (none)) else (if x175002 < 0 then (some false) else (if (x175001.length : Int) > 0 then (if x175002 = 0 then (spec_ForceOk.l0 k x0 x3 x17 x18 (wrap64 (x19 + 1))) else (some false)) else (spec_ForceOk.l0 k x0 x3 x17 x18 (wrap64 (x19 + 1)))))
def spec_ForceOk.l2 : Nat → List Int → Int → Int → Option (Bool)
  | 0, _, _, _ => none
  | k + 1, x61, x62, x63 => if x63 < x62 then (if 0 ≤ x63 then (if x63 < (x61.length : Int) then (if x63 > 0 then (if (rd x61 x63) = 1 then (spec_ForceOk.l2 k x61 x62 (wrap64 (x63 + 1))) else (some false)) else (spec_ForceOk.l2 k x61 x62 (wrap64 (x63 + 1)))) else (none)) else (none)) else (some true)
end
end Go.Proofs.Ytgldcbcefncjjaa.F
end
section
/- When a list of nodes is a force: the program's and the reference's check. -/
namespace Go.Proofs.Ytgldcbcefncjjaa.F
open Go.RowKit Go.Proofs.YtgldcbcefncjjaaW.PrintWords Go.Proofs.YtgldcbcefncjjaaW.PrintLast Go.Proofs.YtgldcbcefncjjaaW.PrintMore
set_option linter.unusedVariables false
set_option linter.unusedSimpArgs false
def nextM (i n : Int) : List Int → List Int → Option (List Int)
  | [], c => some c
  | v :: vs, c => if i < v ∧ v < n then nextM i n vs (c.set v.toNat (wrap64 (rd c v + 1))) else none
def nodeB (x : IN) : Bool := decide (0 ≤ x.f2) && (decide (x.f1.length = 0) || decide (x.f2 = 0))
def forceM (n : Int) : Int → List IN → List Int → Option (List Int)
  | _, [], c => some c
  | i, x :: xs, c => if nodeB x = true then (nextM i n x.f1 c).bind (forceM n (i + 1) xs) else none
def finB (c : List Int) : Bool := (c.drop 1).all (· == 1)
def forceR (o : Option (List Int)) : Bool := match o with | none => false | some c => finB c
def forceB (l : List IN) : Bool := decide (1 ≤ (l.length : Int) ∧ (l.length : Int) ≤ 40) && forceR (forceM l.length 0 l (List.replicate l.length 0))
theorem nextM_len (i n : Int) (vs : List Int) : ∀ (c c' : List Int), nextM i n vs c = some c' → c'.length = c.length := by
  induction vs with
  | nil => intro c c' h; simp [nextM] at h; rw [h]
  | cons v vs ih =>
    intro c c' h
    unfold nextM at h
    by_cases q : i < v ∧ v < n
    · rw [if_pos q] at h
      rw [ih _ _ h, List.length_set]
    · rw [if_neg q] at h
      exact absurd h (by simp)
theorem impl_next_at (X : List IN) (i : Int) (hi : 0 ≤ i) (r : Bool) (rest : List Int) : ∀ (pre c : List Int), (pre ++ rest).length ≤ 4611686018427387904 → c.length = X.length →
    (match nextM i X.length rest c with | none => r = false | some c' => Ev (fun k => impl_ForceOk.l0 k X c' X (X.length : Int) (wrap64 (i + 1))) r) →
    Ev (fun k => impl_ForceOk.l1 k X c i X (X.length : Int) i (pre ++ rest) ((pre ++ rest).length : Int) (pre.length : Int)) r := by
  induction rest with
  | nil =>
    intro pre c hb hc h
    simp only [nextM] at h
    refine Ev.step (fun k => ?_) h
    show impl_ForceOk.l1 (k + 1) X c i X _ i _ _ _ = _
    rw [impl_ForceOk.l1, if_neg (mid_nlt _)]
  | cons v rest ih =>
    intro pre c hb hc h
    unfold nextM at h
    by_cases q : i < v ∧ v < (X.length : Int)
    · rw [if_pos q] at h
      have h2 := ih (pre ++ [v]) _ (by simpa using hb) (by rw [List.length_set]; exact hc) h
      rw [← mid_cons, ← mid_succ pre v (by simp at hb; omega)] at h2
      refine Ev.step (fun k => ?_) h2
      show impl_ForceOk.l1 (k + 1) X c i X _ i _ _ _ = _
      rw [impl_ForceOk.l1, if_pos (mid_lt _ _ _), if_pos (nn _), if_pos (mid_lt _ _ _), mid_rd, if_neg (by omega), if_neg (by omega), if_pos (by omega), if_pos (by omega)]
    · rw [if_neg q] at h
      subst h
      refine Ev.step (f := fun _ => some false) (fun k => ?_) (Ev.now _)
      show impl_ForceOk.l1 (k + 1) X c i X _ i _ _ _ = _
      rw [impl_ForceOk.l1, if_pos (mid_lt _ _ _), if_pos (nn _), if_pos (mid_lt _ _ _), mid_rd]
      by_cases q1 : v ≤ i
      · rw [if_pos q1]
      · rw [if_neg q1, if_pos (by omega)]
theorem impl_force_at (rest : List IN) : ∀ (pre : List IN) (c : List Int), (pre ++ rest).length ≤ 1048576 → 1 ≤ (pre ++ rest).length → c.length = (pre ++ rest).length → (∀ x ∈ rest, x.f1.length ≤ 4611686018427387904) →
    Ev (fun k => impl_ForceOk.l0 k (pre ++ rest) c (pre ++ rest) ((pre ++ rest).length : Int) (pre.length : Int)) (forceR (forceM ((pre ++ rest).length : Int) (pre.length : Int) rest c)) := by
  induction rest with
  | nil =>
    intro pre c hb h1 hc hx
    refine Ev.step (f := fun _ => some (finB c)) (fun k => ?_) (Ev.now _)
    show impl_ForceOk.l0 (k + 1) _ c _ _ _ = _
    rw [impl_ForceOk.l0, if_neg (mid_nlt _), if_pos (by omega)]
    unfold slices_ContainsFunc_Lint_int__impl_ForceOk_1.f
    rw [Option.bind_some]
    congr 1
    unfold finB
    rw [List.all_eq_not_any_not]
    congr 2
    funext x
    unfold impl_ForceOk_1.f
    cases hx : x == 1 <;> simp_all
  | cons x rest ih =>
    intro pre c hb h1 hc hx
    have hxl := hx x (by simp)
    have key : Ev (fun k => impl_ForceOk.j2 k (pre ++ x :: rest) c (pre.length : Int) (pre ++ x :: rest) ((pre ++ x :: rest).length : Int) (pre.length : Int) (!nodeB x) x.f0 x.f1 x.f2) (forceR (forceM ((pre ++ x :: rest).length : Int) (pre.length : Int) (x :: rest) c)) := by
      by_cases q : nodeB x = true
      · simp only [forceM, if_pos q]
        rw [q]
        have hn := impl_next_at (pre ++ x :: rest) (pre.length : Int) (nn _) (forceR ((nextM (pre.length : Int) ((pre ++ x :: rest).length : Int) x.f1 c).bind (forceM ((pre ++ x :: rest).length : Int) ((pre.length : Int) + 1) rest))) x.f1 [] c (by simpa using hxl) hc (by
          cases hm : nextM (pre.length : Int) ((pre ++ x :: rest).length : Int) x.f1 c with
          | none => rfl
          | some c' =>
            have h := ih (pre ++ [x]) c' (by simpa using hb) (by simp; omega) (by rw [nextM_len _ _ _ _ _ hm, hc]; simp) (fun y hy => hx y (by simp [hy]))
            rw [← mid_cons] at h
            have e1 : ((pre ++ [x]).length : Int) = wrap64 ((pre.length : Int) + 1) := (mid_succ pre x (by simp at hb; omega)).symm
            have e2 : ((pre ++ [x]).length : Int) = (pre.length : Int) + 1 := by simp
            simp only [Option.bind_some]
            rw [e2] at h
            rw [show wrap64 ((pre.length : Int) + 1) = (pre.length : Int) + 1 by rw [← e1, e2]]
            exact h)
        refine Ev.step (fun k => ?_) hn
        show impl_ForceOk.j2 (k + 1) _ c _ _ _ _ (!true) _ _ _ = _
        rw [impl_ForceOk.j2, if_neg (by simp)]
        rfl
      · simp only [forceM, if_neg q]
        have q' : nodeB x = false := by simpa using q
        rw [q']
        refine Ev.step (f := fun _ => some false) (fun k => ?_) (Ev.now _)
        show impl_ForceOk.j2 (k + 1) _ c _ _ _ _ (!false) _ _ _ = _
        rw [impl_ForceOk.j2, if_pos (by simp)]
    refine Ev.step (fun k => ?_) key
    show impl_ForceOk.l0 (k + 1) _ c _ _ _ = _
    rw [impl_ForceOk.l0, if_pos (mid_lt _ _ _), if_pos (nn _), if_pos (mid_lt _ _ _), mid_rdIN]
    unfold nodeB
    by_cases z : x.f2 < 0
    · rw [if_pos z, decide_eq_false (show ¬ 0 ≤ x.f2 by omega)]
      rfl
    · rw [if_neg z, decide_eq_true (show 0 ≤ x.f2 by omega)]
      by_cases y : (x.f1.length : Int) > 0
      · rw [if_pos y, decide_eq_false (show ¬ x.f1.length = 0 by omega)]
        congr 1
        try (cases hz : decide (x.f2 = 0) <;> simp_all)
      · rw [if_neg y, decide_eq_true (show x.f1.length = 0 by omega)]
        try rfl
theorem impl_Force_ev (l : List IN) (hx : ∀ x ∈ l, x.f1.length ≤ 4611686018427387904) : Ev (fun k => impl_ForceOk.f k l) (forceB l) := by
  have hj : Ev (fun k => impl_ForceOk.j0 k l true) false := Ev.at_ 1 (fun k hk => by obtain ⟨m, rfl⟩ := Nat.exists_eq_add_of_le' hk; rfl)
  unfold impl_ForceOk.f forceB
  by_cases h1 : (l.length : Int) < 1
  · simp only [if_pos h1, decide_eq_false (show ¬ (1 ≤ (l.length : Int) ∧ (l.length : Int) ≤ 40) by omega), Bool.false_and]
    exact hj
  · simp only [if_neg h1]
    by_cases h2 : (l.length : Int) > 40
    · simp only [decide_eq_true h2, decide_eq_false (show ¬ (1 ≤ (l.length : Int) ∧ (l.length : Int) ≤ 40) by omega), Bool.false_and]
      exact hj
    · simp only [decide_eq_false h2, decide_eq_true (show 1 ≤ (l.length : Int) ∧ (l.length : Int) ≤ 40 by omega), Bool.true_and]
      refine Ev.step (fun k => ?_) (impl_force_at l [] (List.replicate l.length 0) (by simp; omega) (by simp; omega) (by simp) hx)
      show impl_ForceOk.j0 (k + 1) l false = _
      rw [impl_ForceOk.j0, if_neg (by simp), if_pos (nn _), Int.toNat_natCast, if_pos (by omega)]
      rfl
end Go.Proofs.Ytgldcbcefncjjaa.F
end
section
/- What a force's check says of it; how deep it is. -/
namespace Go.Proofs.Ytgldcbcefncjjaa.F
open Go.RowKit Go.Proofs.YtgldcbcefncjjaaW.PrintWords Go.Proofs.YtgldcbcefncjjaaW.PrintLast Go.Proofs.YtgldcbcefncjjaaW.PrintMore
set_option linter.unusedVariables false
set_option linter.unusedSimpArgs false
theorem nextM_range (i n : Int) (vs : List Int) : ∀ (c c' : List Int), nextM i n vs c = some c' → ∀ v ∈ vs, i < v ∧ v < n := by
  induction vs with
  | nil => intro c c' h v hv; simp at hv
  | cons w vs ih =>
    intro c c' h v hv
    unfold nextM at h
    by_cases q : i < w ∧ w < n
    · rw [if_pos q] at h
      rcases List.mem_cons.mp hv with rfl | hv
      · exact q
      · exact ih _ _ h v hv
    · rw [if_neg q] at h
      exact absurd h (by simp)
theorem forceM_range (n : Int) (xs : List IN) : ∀ (i : Int) (c c' : List Int), 0 ≤ i → forceM n i xs c = some c' → ∀ x ∈ xs, ∀ v ∈ x.f1, 0 ≤ v ∧ v < n := by
  induction xs with
  | nil => intro i c c' hi h x hx; simp at hx
  | cons y xs ih =>
    intro i c c' hi h x hx v hv
    unfold forceM at h
    by_cases q : nodeB y = true
    · rw [if_pos q] at h
      obtain ⟨c2, h1, h2⟩ := Option.bind_eq_some_iff.mp h
      rcases List.mem_cons.mp hx with rfl | hx
      · have := nextM_range _ _ _ _ _ h1 v hv
        omega
      · exact ih _ _ _ (by omega) h2 x hx v hv
    · rw [if_neg q] at h
      exact absurd h (by simp)
theorem forceB_range (l : List IN) (h : forceB l = true) : (1 ≤ l.length ∧ l.length ≤ 40) ∧ ∀ x ∈ l, ∀ v ∈ x.f1, 0 ≤ v ∧ v < (l.length : Int) := by
  unfold forceB at h
  simp only [Bool.and_eq_true, decide_eq_true_eq] at h
  obtain ⟨h1, h2⟩ := h
  refine ⟨by omega, ?_⟩
  cases hm : forceM l.length 0 l (List.replicate l.length 0) with
  | none => rw [hm] at h2; exact absurd h2 (by simp [forceR])
  | some c => exact forceM_range _ _ _ _ _ (by omega) hm
def nodeAt (l : List IN) (c : Int) : IN := rd_T49 l c
theorem nodeAt_mem (l : List IN) (c : Int) (h0 : 0 ≤ c) (h1 : c < (l.length : Int)) : nodeAt l c ∈ l := by
  obtain ⟨n, rfl⟩ := Int.eq_ofNat_of_zero_le h0
  have hn : n < l.length := by omega
  unfold nodeAt rd_T49
  rw [Int.toNat_natCast, List.getD_eq_getElem?_getD, List.getElem?_eq_getElem hn]
  exact List.getElem_mem hn
theorem rd_mem (l : List Int) (c : Int) (h0 : 0 ≤ c) (h1 : c < (l.length : Int)) : rd l c ∈ l := by
  obtain ⟨n, rfl⟩ := Int.eq_ofNat_of_zero_le h0
  have hn : n < l.length := by omega
  unfold rd
  rw [Int.toNat_natCast, List.getD_eq_getElem?_getD, List.getElem?_eq_getElem hn]
  exact List.getElem_mem hn
def occ (v : Int) (l : List IN) : Nat := (l.flatMap fun x => x.f1).count v
theorem occ_cons (v : Int) (x : IN) (l : List IN) : occ v (x :: l) = x.f1.count v + occ v l := by simp [occ]
theorem occ_append (v : Int) (a b : List IN) : occ v (a ++ b) = occ v a + occ v b := by simp [occ]
theorem rd_set (c : List Int) (i j : Nat) (x : Int) (hi : i < c.length) : rd (c.set i x) (j : Int) = if i = j then x else rd c (j : Int) := by
  unfold rd
  rw [Int.toNat_natCast, List.getD_eq_getElem?_getD, List.getD_eq_getElem?_getD, List.getElem?_set]
  by_cases h : i = j
  · subst h; simp [hi]
  · simp [h]
theorem nextM_count (i n : Int) (h0 : 0 ≤ i) (vs : List Int) : ∀ (c c' : List Int) (v : Nat), nextM i n vs c = some c' → (c.length : Int) = n → 0 ≤ rd c v → rd c v + vs.length ≤ 4611686018427387904 → rd c' v = rd c v + (vs.count (v : Int) : Int) := by
  induction vs with
  | nil => intro c c' v h hc h1 h2; simp [nextM] at h; rw [h]; simp
  | cons w vs ih =>
    intro c c' v h hc h1 h2
    unfold nextM at h
    by_cases q : i < w ∧ w < n
    · rw [if_pos q] at h
      obtain ⟨u, rfl⟩ := Int.eq_ofNat_of_zero_le (show 0 ≤ w by omega)
      have hlt : u < c.length := by omega
      rw [Int.toNat_natCast] at h
      simp only [List.length_cons] at h2
      by_cases e : u = v
      · subst e
        have hw : wrap64 (rd c (u : Int) + 1) = rd c (u : Int) + 1 := w64_id (by omega) (by omega)
        rw [hw] at h
        have h3 := ih _ _ u h (by rw [List.length_set]; exact hc) (by rw [rd_set _ _ _ _ hlt, if_pos rfl]; omega) (by rw [rd_set _ _ _ _ hlt, if_pos rfl]; omega)
        rw [rd_set _ _ _ _ hlt, if_pos rfl] at h3
        rw [h3, List.count_cons_self]
        omega
      · have h3 := ih _ _ v h (by rw [List.length_set]; exact hc) (by rw [rd_set _ _ _ _ hlt, if_neg e]; exact h1) (by rw [rd_set _ _ _ _ hlt, if_neg e]; omega)
        rw [rd_set _ _ _ _ hlt, if_neg e] at h3
        rw [h3, List.count_cons_of_ne (by omega)]
    · rw [if_neg q] at h
      exact absurd h (by simp)
theorem forceM_count (n : Int) (xs : List IN) : ∀ (i : Int) (c c' : List Int) (v : Nat), 0 ≤ i → forceM n i xs c = some c' → (c.length : Int) = n → 0 ≤ rd c v → (∀ x ∈ xs, x.f1.length ≤ 1048576) → rd c v + xs.length * 1048576 ≤ 4611686018427387904 → rd c' v = rd c v + (occ v xs : Int) := by
  induction xs with
  | nil => intro i c c' v hi h hc h0 hx hb; simp [forceM] at h; rw [h]; simp [occ]
  | cons y xs ih =>
    intro i c c' v hi h hc h0 hx hb
    unfold forceM at h
    by_cases q : nodeB y = true
    · rw [if_pos q] at h
      obtain ⟨c2, h1, h2⟩ := Option.bind_eq_some_iff.mp h
      have hy := hx y (by simp)
      simp only [List.length_cons] at hb
      have h3 := nextM_count i n hi y.f1 c c2 v h1 hc h0 (by omega)
      have hle : y.f1.count (v : Int) ≤ y.f1.length := List.count_le_length
      have h4 := ih (i + 1) c2 c' v (by omega) h2 (by rw [nextM_len _ _ _ _ _ h1]; exact hc) (by omega) (fun x hx' => hx x (by simp [hx'])) (by omega)
      rw [h4, h3, occ_cons]
      omega
    · rw [if_neg q] at h
      exact absurd h (by simp)
theorem forceM_up (n : Int) (pre : List IN) : ∀ (x : IN) (rest : List IN) (i : Int) (c c' : List Int), forceM n i (pre ++ x :: rest) c = some c' → ∀ v ∈ x.f1, i + pre.length < v ∧ v < n := by
  induction pre with
  | nil =>
    intro x rest i c c' h v hv
    simp only [List.nil_append] at h
    unfold forceM at h
    by_cases q : nodeB x = true
    · rw [if_pos q] at h
      obtain ⟨c2, h1, h2⟩ := Option.bind_eq_some_iff.mp h
      have := nextM_range _ _ _ _ _ h1 v hv
      simpa using this
    · rw [if_neg q] at h
      exact absurd h (by simp)
  | cons y pre ih =>
    intro x rest i c c' h v hv
    simp only [List.cons_append] at h
    unfold forceM at h
    by_cases q : nodeB y = true
    · rw [if_pos q] at h
      obtain ⟨c2, h1, h2⟩ := Option.bind_eq_some_iff.mp h
      have := ih x rest (i + 1) c2 c' h2 v hv
      simp only [List.length_cons]
      omega
    · rw [if_neg q] at h
      exact absurd h (by simp)
/-- What a force's check says of it: each node leads on to later ones alone; each but the first is led to once. -/
structure Tree (l : List IN) : Prop where
  pos : 1 ≤ l.length
  le : l.length ≤ 40
  up : ∀ pre x rest, l = pre ++ x :: rest → ∀ v ∈ x.f1, (pre.length : Int) < v ∧ v < (l.length : Int)
  once : ∀ v : Nat, 1 ≤ v → v < l.length → occ v l = 1
theorem tree_of (l : List IN) (hx : ∀ x ∈ l, x.f1.length ≤ 1048576) (h : forceB l = true) : Tree l := by
  unfold forceB at h
  simp only [Bool.and_eq_true, decide_eq_true_eq] at h
  obtain ⟨h1, h2⟩ := h
  cases hm : forceM l.length 0 l (List.replicate l.length 0) with
  | none => rw [hm] at h2; exact absurd h2 (by simp [forceR])
  | some c =>
    rw [hm] at h2
    refine ⟨by omega, by omega, ?_, ?_⟩
    · intro pre x rest e v hv
      have hm2 := hm
      rw [e] at hm2
      have := forceM_up _ pre x rest 0 _ _ hm2 v hv
      rw [e]
      omega
    · intro v v1 v2
      have hz : rd (List.replicate l.length 0) (v : Int) = 0 := by
        unfold rd
        rw [Int.toNat_natCast, List.getD_eq_getElem?_getD, List.getElem?_replicate]
        split <;> rfl
      have h3 := forceM_count _ l 0 _ c v (by omega) hm (by simp) (by omega) hx (by rw [hz]; omega)
      rw [hz] at h3
      have hl : c.length = l.length := by
        have : ∀ (xs : List IN) (i : Int) (a b : List Int), forceM l.length i xs a = some b → b.length = a.length := by
          intro xs
          induction xs with
          | nil => intro i a b hh; simp [forceM] at hh; rw [hh]
          | cons y ys ih =>
            intro i a b hh
            unfold forceM at hh
            by_cases q : nodeB y = true
            · rw [if_pos q] at hh
              obtain ⟨c2, g1, g2⟩ := Option.bind_eq_some_iff.mp hh
              rw [ih _ _ _ g2, nextM_len _ _ _ _ _ g1]
            · rw [if_neg q] at hh
              exact absurd hh (by simp)
        simpa using this l 0 _ c hm
      have h4 : c[v]? = some c[v] := List.getElem?_eq_getElem (by omega)
      have h5 : rd c (v : Int) = 1 := by
        change finB c = true at h2
        unfold finB at h2
        rw [List.all_eq_true] at h2
        have hmem : c[v] ∈ c.drop 1 := by
          rw [List.mem_iff_getElem?]
          exact ⟨v - 1, by rw [List.getElem?_drop, show 1 + (v - 1) = v by omega]; exact h4⟩
        have := h2 _ hmem
        unfold rd
        rw [Int.toNat_natCast, List.getD_eq_getElem?_getD, h4]
        simpa using this
      omega
/-! the heights -/
def hgt (l : List IN) : Nat → Nat → Nat
  | 0, _ => 0
  | f + 1, i => ((nodeAt l (i : Int)).f1.map fun v => 1 + hgt l f v.toNat).foldl max 0
theorem foldl_max_ge (xs : List Nat) : ∀ a, a ≤ xs.foldl max a ∧ ∀ x ∈ xs, x ≤ xs.foldl max a := by
  induction xs with
  | nil => intro a; simp
  | cons y ys ih =>
    intro a
    simp only [List.foldl_cons]
    obtain ⟨h1, h2⟩ := ih (max a y)
    refine ⟨by omega, fun x hx => ?_⟩
    rcases List.mem_cons.mp hx with rfl | hx
    · omega
    · exact h2 x hx
theorem foldl_max_in (xs : List Nat) : ∀ a, xs.foldl max a = a ∨ xs.foldl max a ∈ xs := by
  induction xs with
  | nil => intro a; simp
  | cons y ys ih =>
    intro a
    simp only [List.foldl_cons]
    rcases ih (max a y) with h | h
    · by_cases c : a ≤ y
      · right; rw [h, Nat.max_eq_right c]; simp
      · left; rw [h, Nat.max_eq_left (by omega)]
    · right; exact List.mem_cons_of_mem _ h
theorem split_at {l : List IN} {i : Nat} (h : i < l.length) : ∃ pre rest, l = pre ++ nodeAt l (i : Int) :: rest ∧ pre.length = i := by
  refine ⟨l.take i, l.drop (i + 1), ?_, by simp; omega⟩
  have e : nodeAt l (i : Int) = l[i] := by
    unfold nodeAt rd_T49
    rw [Int.toNat_natCast, List.getD_eq_getElem?_getD, List.getElem?_eq_getElem h]
    rfl
  rw [e, ← List.drop_eq_getElem_cons h, List.take_append_drop]
theorem kid_range {l : List IN} (T : Tree l) {i : Nat} (h : i < l.length) {v : Int} (hv : v ∈ (nodeAt l (i : Int)).f1) : (i : Int) < v ∧ v < (l.length : Int) := by
  obtain ⟨pre, rest, e, hl⟩ := split_at h
  have := T.up pre _ rest e v hv
  rwa [hl] at this
/-- More than enough is enough. -/
theorem hgt_more {l : List IN} (T : Tree l) (f : Nat) : ∀ i, i < l.length → l.length ≤ i + f → ∀ g, f ≤ g → hgt l g i = hgt l f i := by
  induction f with
  | zero => intro i h1 h2 g hg; omega
  | succ f ih =>
    intro i h1 h2 g hg
    obtain ⟨g, rfl⟩ : ∃ m, g = m + 1 := ⟨g - 1, by omega⟩
    unfold hgt
    congr 1
    apply List.map_congr_left
    intro v hv
    have := kid_range T h1 hv
    rw [ih v.toNat (by omega) (by omega) g (by omega)]
theorem hgt_kid {l : List IN} (T : Tree l) {i : Nat} (h : i < l.length) {v : Int} (hv : v ∈ (nodeAt l (i : Int)).f1) : 1 + hgt l l.length v.toNat ≤ hgt l l.length i := by
  have hr := kid_range T h hv
  obtain ⟨m, hm⟩ : ∃ m, l.length = m + 1 := ⟨l.length - 1, by omega⟩
  have e : hgt l l.length v.toNat = hgt l m v.toNat := hgt_more T m v.toNat (by omega) (by omega) _ (by omega)
  rw [e, hm]
  conv => rhs; unfold hgt
  exact (foldl_max_ge _ 0).2 _ (List.mem_map.mpr ⟨v, hv, rfl⟩)
theorem hgt_some {l : List IN} (T : Tree l) {i : Nat} (h : i < l.length) (hp : 0 < hgt l l.length i) : ∃ v ∈ (nodeAt l (i : Int)).f1, hgt l l.length i = 1 + hgt l l.length v.toNat := by
  obtain ⟨m, hm⟩ : ∃ m, l.length = m + 1 := ⟨l.length - 1, by omega⟩
  have e : hgt l l.length i = ((nodeAt l (i : Int)).f1.map fun v => 1 + hgt l m v.toNat).foldl max 0 := by rw [hm]; rfl
  rcases foldl_max_in ((nodeAt l (i : Int)).f1.map fun v => 1 + hgt l m v.toNat) 0 with h2 | h2
  · omega
  · obtain ⟨v, hv, hv2⟩ := List.mem_map.mp h2
    have hr := kid_range T h hv
    refine ⟨v, hv, ?_⟩
    rw [e, ← hv2, hgt_more T m v.toNat (by omega) (by omega) l.length (by omega)]
/-! the table of depths -/
def stepD (i : Int) (vs : List Int) (D : List Int) : List Int := vs.foldl (fun D v => D.set v.toNat (wrap64 (rd D i + 1))) D
def runD : Int → List IN → List Int → List Int
  | _, [], D => D
  | i, x :: xs, D => runD (i + 1) xs (stepD i x.f1 D)
def runO : Int → List IN → List Int → Int → Int
  | _, [], _, o => o
  | i, x :: xs, D, o => runO (i + 1) xs (stepD i x.f1 D) (mx o (rd (stepD i x.f1 D) i))
theorem stepD_cons (i v : Int) (vs D : List Int) : stepD i (v :: vs) D = stepD i vs (D.set v.toNat (wrap64 (rd D i + 1))) := rfl
theorem stepD_len (i : Int) (vs : List Int) : ∀ D, (stepD i vs D).length = D.length := by
  induction vs with
  | nil => intro D; rfl
  | cons v vs ih => intro D; rw [stepD_cons, ih, List.length_set]
theorem stepD_other (i : Nat) (vs : List Int) : ∀ (D : List Int) (j : Nat), (∀ v ∈ vs, 0 ≤ v ∧ v < (D.length : Int)) → (j : Int) ∉ vs → rd (stepD i vs D) (j : Int) = rd D (j : Int) := by
  induction vs with
  | nil => intro D j _ _; rfl
  | cons v vs ih =>
    intro D j hv hj
    obtain ⟨u, rfl⟩ := Int.eq_ofNat_of_zero_le (hv v (by simp)).1
    have hu := (hv (u : Int) (by simp)).2
    rw [stepD_cons, ih _ j (by intro v hv2; rw [List.length_set]; exact hv v (by simp [hv2])) (fun h => hj (by simp [h])), Int.toNat_natCast, rd_set _ _ _ _ (by omega), if_neg (by rintro rfl; exact hj (by simp))]
theorem stepD_hit (i : Nat) (vs : List Int) : ∀ (D : List Int) (j : Nat), (∀ v ∈ vs, (i : Int) < v ∧ v < (D.length : Int)) → (j : Int) ∈ vs → rd (stepD i vs D) (j : Int) = wrap64 (rd D (i : Int) + 1) := by
  induction vs with
  | nil => intro D j _ h; simp at h
  | cons v vs ih =>
    intro D j hv hj
    have hv0 := hv v (by simp)
    obtain ⟨u, rfl⟩ := Int.eq_ofNat_of_zero_le (show 0 ≤ v by omega)
    have hset : rd (D.set u (wrap64 (rd D (i : Int) + 1))) (i : Int) = rd D (i : Int) := by rw [rd_set _ _ _ _ (by omega), if_neg (by omega)]
    rw [stepD_cons, Int.toNat_natCast]
    by_cases hm : (j : Int) ∈ vs
    · rw [ih _ j (by intro w hw; rw [List.length_set]; exact hv w (by simp [hw])) hm, hset]
    · have e : j = u := by
        rcases List.mem_cons.mp hj with h | h
        · omega
        · exact absurd h hm
      subst e
      rw [stepD_other i vs _ j (by intro w hw; have := hv w (by simp [hw]); rw [List.length_set]; omega) hm, rd_set _ _ _ _ (by omega), if_pos rfl]
theorem runD_len (xs : List IN) : ∀ (i : Int) (D : List Int), (runD i xs D).length = D.length := by
  induction xs with
  | nil => intro i D; rfl
  | cons x xs ih => intro i D; unfold runD; rw [ih, stepD_len]
theorem runD_other (xs : List IN) : ∀ (i : Nat) (D : List Int) (j : Nat), (∀ x ∈ xs, ∀ v ∈ x.f1, 0 ≤ v ∧ v < (D.length : Int)) → (∀ x ∈ xs, (j : Int) ∉ x.f1) → rd (runD (i : Int) xs D) (j : Int) = rd D (j : Int) := by
  induction xs with
  | nil => intro i D j _ _; rfl
  | cons x xs ih =>
    intro i D j hv hj
    unfold runD
    rw [show (i : Int) + 1 = ((i + 1 : Nat) : Int) by omega, ih (i + 1) _ j (by intro y hy; rw [stepD_len]; exact hv y (by simp [hy])) (fun y hy => hj y (by simp [hy])), stepD_other i _ _ j (hv x (by simp)) (hj x (by simp))]
theorem runD_append (a b : List IN) : ∀ (i : Nat) (D : List Int), runD (i : Int) (a ++ b) D = runD ((i + a.length : Nat) : Int) b (runD (i : Int) a D) := by
  induction a with
  | nil => intro i D; rfl
  | cons x a ih =>
    intro i D
    rw [List.cons_append]
    conv => lhs; unfold runD
    conv => rhs; arg 3; unfold runD
    rw [show (i : Int) + 1 = ((i + 1 : Nat) : Int) by omega, ih]
    congr 2
    simp only [List.length_cons]; omega
theorem tree_vs {l : List IN} (T : Tree l) : ∀ x ∈ l, ∀ v ∈ x.f1, 0 ≤ v ∧ v < (l.length : Int) := by
  intro x hx v hv
  obtain ⟨pre, rest, e⟩ := List.append_of_mem hx
  have := T.up pre x rest e v hv
  omega
/-- The table at its end, round node i. -/
theorem end_here {l : List IN} (T : Tree l) (D : List Int) (hD : D.length = l.length) (pre : List IN) (x : IN) (rest : List IN) (e : l = pre ++ x :: rest) (D1 : List Int) (h1 : D1 = runD 0 pre D) :
    rd (stepD (pre.length : Int) x.f1 D1) (pre.length : Int) = rd (runD 0 l D) (pre.length : Int) ∧ ∀ v : Nat, (v : Int) ∈ x.f1 → rd (runD 0 l D) (v : Int) = wrap64 (rd (runD 0 l D) (pre.length : Int) + 1) := by
  have hup : ∀ v ∈ x.f1, (pre.length : Int) < v ∧ v < (l.length : Int) := T.up pre x rest e
  have hvs := tree_vs T
  have hl1 : D1.length = l.length := by rw [h1, runD_len, hD]
  have hF : runD 0 l D = runD ((pre.length + 1 : Nat) : Int) rest (stepD (pre.length : Int) x.f1 D1) := by
    have := runD_append pre (x :: rest) 0 D
    rw [e, show (0 : Int) = ((0 : Nat) : Int) from rfl, this, Nat.zero_add]
    conv => lhs; unfold runD
    rw [h1, show (pre.length : Int) + 1 = ((pre.length + 1 : Nat) : Int) by omega]
    rfl
  have hlater : ∀ y ∈ rest, ∀ v ∈ y.f1, (pre.length : Int) + 1 < v := by
    intro y hy v hv
    obtain ⟨p2, r2, e2⟩ := List.append_of_mem hy
    have := T.up (pre ++ x :: p2) y r2 (by rw [e, e2]; simp) v hv
    simp at this
    omega
  have hvr : ∀ y ∈ rest, ∀ v ∈ y.f1, 0 ≤ v ∧ v < ((stepD (pre.length : Int) x.f1 D1).length : Int) := by
    intro y hy v hv
    rw [stepD_len, hl1]
    exact hvs y (by rw [e]; simp [hy]) v hv
  have A : rd (stepD (pre.length : Int) x.f1 D1) (pre.length : Int) = rd (runD 0 l D) (pre.length : Int) := by
    rw [hF, runD_other rest _ _ pre.length hvr (fun y hy h => by have := hlater y hy _ h; omega)]
  refine ⟨A, fun v hv => ?_⟩
  have hv1 := hup _ hv
  have honce := T.once v (by omega) (by omega)
  rw [e, occ_append, occ_cons] at honce
  have hc : 0 < x.f1.count (v : Int) := List.count_pos_iff.mpr hv
  have hrest : occ (v : Int) rest = 0 := by omega
  have hno : ∀ y ∈ rest, (v : Int) ∉ y.f1 := by
    intro y hy h
    have : (v : Int) ∈ rest.flatMap fun x => x.f1 := List.mem_flatMap.mpr ⟨y, hy, h⟩
    have := List.count_pos_iff.mpr this
    unfold occ at hrest
    omega
  have h2 : rd (stepD (pre.length : Int) x.f1 D1) (pre.length : Int) = rd D1 (pre.length : Int) := stepD_other pre.length x.f1 D1 pre.length (fun v hv => by have := hup v hv; omega) (fun h => by have := hup _ h; omega)
  rw [← A, h2, hF, runD_other rest _ _ v hvr hno, stepD_hit pre.length x.f1 D1 v (fun w hw => by have := hup w hw; omega) hv]
theorem end_kid {l : List IN} (T : Tree l) (D : List Int) (hD : D.length = l.length) {i : Nat} (h : i < l.length) {v : Nat} (hv : (v : Int) ∈ (nodeAt l (i : Int)).f1) : rd (runD 0 l D) (v : Int) = wrap64 (rd (runD 0 l D) (i : Int) + 1) := by
  obtain ⟨pre, rest, e, hl⟩ := split_at h
  have := (end_here T D hD pre _ rest e _ rfl).2 v hv
  rwa [hl] at this
theorem parent {l : List IN} (T : Tree l) (v : Nat) (h1 : 1 ≤ v) (h2 : v < l.length) : ∃ i, i < v ∧ (v : Int) ∈ (nodeAt l (i : Int)).f1 := by
  have ho := T.once v h1 h2
  have hm : (v : Int) ∈ l.flatMap fun x => x.f1 := by
    rw [← List.count_pos_iff]
    unfold occ at ho
    omega
  obtain ⟨x, hx, hv⟩ := List.mem_flatMap.mp hm
  obtain ⟨pre, rest, e⟩ := List.append_of_mem hx
  have hup := T.up pre x rest e _ hv
  refine ⟨pre.length, by omega, ?_⟩
  have : nodeAt l (pre.length : Int) = x := by
    rw [e]
    unfold nodeAt
    exact mid_rdIN _ _ _
  rw [this]
  exact hv
theorem end_small {l : List IN} (T : Tree l) (D : List Int) (hD : D = List.replicate l.length 0) : ∀ (n v : Nat), v < n → v < l.length → 0 ≤ rd (runD 0 l D) (v : Int) ∧ rd (runD 0 l D) (v : Int) ≤ v := by
  intro n
  induction n with
  | zero => intro v h; omega
  | succ n ih =>
    intro v hv hl
    by_cases h0 : v = 0
    · subst h0
      have h1 : rd (runD 0 l D) ((0 : Nat) : Int) = rd D ((0 : Nat) : Int) := runD_other l 0 D 0 (by rw [hD, List.length_replicate]; exact tree_vs T) (fun x hx h => by
        obtain ⟨pre, rest, e⟩ := List.append_of_mem hx
        have := T.up pre x rest e _ h
        omega)
      have h2 : rd D ((0 : Nat) : Int) = 0 := by
        rw [hD]
        unfold rd
        rw [Int.toNat_natCast, List.getD_eq_getElem?_getD, List.getElem?_replicate]
        split <;> rfl
      omega
    · obtain ⟨i, hi, hm⟩ := parent T v (by omega) hl
      have h3 := ih i (by omega) (by omega)
      have h4 := end_kid T D (by rw [hD]; simp) (show i < l.length by omega) hm
      have := T.le
      rw [w64_id (by omega) (by omega)] at h4
      omega
theorem end_root {l : List IN} (T : Tree l) (D : List Int) (hD : D = List.replicate l.length 0) (v : Nat) (hl : v < l.length) : rd (runD 0 l D) (v : Int) + hgt l l.length v ≤ hgt l l.length 0 := by
  suffices h : ∀ (n v : Nat), v < n → v < l.length → rd (runD 0 l D) (v : Int) + hgt l l.length v ≤ hgt l l.length 0 from h (v + 1) v (by omega) hl
  intro n
  induction n with
  | zero => intro v h; omega
  | succ n ih =>
    intro v hv hl
    by_cases h0 : v = 0
    · subst h0
      have := end_small T D hD 1 0 (by omega) hl
      omega
    · obtain ⟨i, hi, hm⟩ := parent T v (by omega) hl
      have h3 := ih i (by omega) (by omega)
      have h4 := end_kid T D (by rw [hD]; simp) (show i < l.length by omega) hm
      have h5 := end_small T D hD (i + 1) i (by omega) (by omega)
      have h6 := hgt_kid T (show i < l.length by omega) hm
      rw [Int.toNat_natCast] at h6
      have := T.le
      rw [w64_id (by omega) (by omega)] at h4
      omega
theorem end_deep {l : List IN} (T : Tree l) (D : List Int) (hD : D = List.replicate l.length 0) : ∀ (n v : Nat), l.length ≤ v + n → v < l.length → ∃ j, j < l.length ∧ rd (runD 0 l D) (j : Int) = rd (runD 0 l D) (v : Int) + hgt l l.length v := by
  intro n
  induction n with
  | zero => intro v h1 h2; omega
  | succ n ih =>
    intro v h1 h2
    by_cases h0 : hgt l l.length v = 0
    · exact ⟨v, h2, by omega⟩
    · obtain ⟨c, hc, he⟩ := hgt_some T h2 (by omega)
      have hr := kid_range T h2 hc
      obtain ⟨u, rfl⟩ := Int.eq_ofNat_of_zero_le (show 0 ≤ c by omega)
      rw [Int.toNat_natCast] at he
      obtain ⟨j, hj, hj2⟩ := ih u (by omega) (by omega)
      have h4 := end_kid T D (by rw [hD]; simp) h2 hc
      have h5 := end_small T D hD (v + 1) v (by omega) h2
      have := T.le
      rw [w64_id (by omega) (by omega)] at h4
      exact ⟨j, hj, by omega⟩
theorem mx_eq (a b : Int) : mx a b = max a b := by
  unfold mx
  split <;> omega
theorem runO_is {l : List IN} (T : Tree l) (D : List Int) (hD : D.length = l.length) (rest : List IN) : ∀ (pre : List IN) (o : Int), l = pre ++ rest →
    let r := runO (pre.length : Int) rest (runD 0 pre D) o
    o ≤ r ∧ (∀ j, pre.length ≤ j → j < l.length → rd (runD 0 l D) (j : Int) ≤ r) ∧ (r = o ∨ ∃ j, j < l.length ∧ r = rd (runD 0 l D) (j : Int)) := by
  induction rest with
  | nil =>
    intro pre o e
    refine ⟨by simp [runO], fun j h1 h2 => ?_, .inl rfl⟩
    rw [e] at h2
    simp at h2
    omega
  | cons x rest ih =>
    intro pre o e
    have hE := (end_here T D hD pre x rest e _ rfl).1
    have hn := ih (pre ++ [x]) (mx o (rd (stepD (pre.length : Int) x.f1 (runD 0 pre D)) (pre.length : Int))) (by rw [e]; simp)
    have e1 : runD 0 (pre ++ [x]) D = stepD (pre.length : Int) x.f1 (runD 0 pre D) := by
      have := runD_append pre [x] 0 D
      rw [show (0 : Int) = ((0 : Nat) : Int) from rfl, this, Nat.zero_add]
      rfl
    have e2 : (((pre ++ [x]).length : Nat) : Int) = (pre.length : Int) + 1 := by simp
    rw [e1, e2] at hn
    simp only [runO] at hn ⊢
    rw [hE, mx_eq] at hn
    rw [hE, mx_eq]
    obtain ⟨n1, n2, n3⟩ := hn
    have hlen : pre.length < l.length := by rw [e]; simp
    refine ⟨by omega, fun j h1 h2 => ?_, ?_⟩
    · by_cases c : j = pre.length
      · subst c; omega
      · exact n2 j (by simp; omega) h2
    · rcases n3 with n3 | n3
      · by_cases c : o ≤ rd (runD 0 l D) (pre.length : Int)
        · exact .inr ⟨pre.length, hlen, by omega⟩
        · exact .inl (by omega)
      · exact .inr n3
theorem depth_is {l : List IN} (T : Tree l) : runO 0 l (List.replicate l.length 0) 0 = hgt l l.length 0 := by
  have hp := T.pos
  obtain ⟨h1, h2, h3⟩ := runO_is T (List.replicate l.length 0) (by simp) l [] 0 rfl
  obtain ⟨j, hj, hj2⟩ := end_deep T (List.replicate l.length 0) rfl l.length 0 (by omega) (by omega)
  have h4 := h2 j (by simp) hj
  have h5 := end_small T (List.replicate l.length 0) rfl 1 0 (by omega) (by omega)
  simp only [List.length_nil, Int.natCast_zero, runD] at h1 h2 h3 h4
  have e0 : rd (runD 0 l (List.replicate l.length 0)) ((0 : Nat) : Int) = 0 := by omega
  rcases h3 with h3 | ⟨i, hi, h3⟩
  · omega
  · have := end_root T (List.replicate l.length 0) rfl i hi
    omega
/-! the program's functions -/
end Go.Proofs.Ytgldcbcefncjjaa.F
end
section
/- The forces that the laws draw are forces. -/
namespace Go.Proofs.Ytgldcbcefncjjaa.F
open Go.RowKit Go.Proofs.YtgldcbcefncjjaaW.PrintWords Go.Proofs.YtgldcbcefncjjaaW.PrintLast Go.Proofs.YtgldcbcefncjjaaW.PrintMore
set_option linter.unusedVariables false
set_option linter.unusedSimpArgs false
theorem forceM_some (n : Int) (xs : List IN) : ∀ (i : Int) (c : List Int), (∀ x ∈ xs, nodeB x = true) → (∀ pre x rest, xs = pre ++ x :: rest → ∀ v ∈ x.f1, i + pre.length < v ∧ v < n) → ∃ c', forceM n i xs c = some c' := by
  induction xs with
  | nil => intro i c h1 h2; exact ⟨c, rfl⟩
  | cons x xs ih =>
    intro i c h1 h2
    have hk : ∀ (vs : List Int) (c : List Int), (∀ v ∈ vs, i < v ∧ v < n) → ∃ c', nextM i n vs c = some c' := by
      intro vs
      induction vs with
      | nil => intro c h; exact ⟨c, rfl⟩
      | cons v vs ihv =>
        intro c h
        unfold nextM
        rw [if_pos (h v (by simp))]
        exact ihv _ (fun w hw => h w (by simp [hw]))
    obtain ⟨c2, hc2⟩ := hk x.f1 c (fun v hv => by have := h2 [] x xs rfl v hv; simpa using this)
    obtain ⟨c3, hc3⟩ := ih (i + 1) c2 (fun y hy => h1 y (by simp [hy])) (fun pre y rest e v hv => by
      have := h2 (x :: pre) y rest (by rw [e]; rfl) v hv
      simp only [List.length_cons] at this
      omega)
    unfold forceM
    rw [if_pos (h1 x (by simp)), hc2]
    exact ⟨c3, hc3⟩
/-- What a growing force keeps. -/
structure Grown (l : List IN) : Prop where
  pos : 1 ≤ l.length
  up : ∀ j : Nat, j < l.length → ∀ v ∈ (nodeAt l (j : Int)).f1, (j : Int) < v ∧ v < (l.length : Int)
  once : ∀ v : Nat, 1 ≤ v → v < l.length → occ v l = 1
theorem nodeAt_nat (l : List IN) (j : Nat) (h : j < l.length) : nodeAt l (j : Int) = l[j] := by
  unfold nodeAt rd_T49
  rw [Int.toNat_natCast, List.getD_eq_getElem?_getD, List.getElem?_eq_getElem h]; rfl
theorem force_of (l : List IN) (G : Grown l) (hle : l.length ≤ 40) (hn : ∀ x ∈ l, nodeB x = true) (hx : ∀ x ∈ l, x.f1.length ≤ 1048576) : forceB l = true := by
  obtain ⟨c, hc⟩ := forceM_some (l.length : Int) l 0 (List.replicate l.length 0) hn (fun pre x rest e v hv => by
    have hlt : pre.length < l.length := by rw [e]; simp
    have hx : nodeAt l (pre.length : Int) = x := by rw [nodeAt_nat l _ hlt]; simp [e]
    have := G.up pre.length hlt v (by rw [hx]; exact hv)
    omega)
  unfold forceB forceR
  rw [hc]
  have h1 := G.pos
  simp only [Bool.and_eq_true, decide_eq_true_eq]
  refine ⟨by omega, ?_⟩
  have hl : ∀ (xs : List IN) (i : Int) (a b : List Int), forceM l.length i xs a = some b → b.length = a.length := by
    intro xs
    induction xs with
    | nil => intro i a b hh; simp [forceM] at hh; rw [hh]
    | cons y ys ih =>
      intro i a b hh
      unfold forceM at hh
      by_cases q : nodeB y = true
      · rw [if_pos q] at hh
        obtain ⟨c2, g1, g2⟩ := Option.bind_eq_some_iff.mp hh
        rw [ih _ _ _ g2, nextM_len _ _ _ _ _ g1]
      · rw [if_neg q] at hh
        exact absurd hh (by simp)
  have hcl := hl _ _ _ _ hc
  rw [List.length_replicate] at hcl
  unfold finB
  rw [List.all_eq_true]
  intro y hy
  obtain ⟨j, hj, rfl⟩ := List.getElem_of_mem hy
  rw [List.getElem_drop]
  simp only [List.length_drop] at hj
  have hz : rd (List.replicate l.length 0) ((1 + j : Nat) : Int) = 0 := by
    unfold rd
    rw [Int.toNat_natCast, List.getD_eq_getElem?_getD, List.getElem?_replicate]
    split <;> rfl
  have h3 := forceM_count _ l 0 _ c (1 + j) (by omega) hc (by simp) (by first | omega | (rw [hz]; omega)) hx (by rw [hz]; omega)
  rw [hz, G.once (1 + j) (by omega) (by omega)] at h3
  have h4 : rd c ((1 + j : Nat) : Int) = c[1 + j]'(by omega) := by
    unfold rd
    rw [Int.toNat_natCast, List.getD_eq_getElem?_getD, List.getElem?_eq_getElem (by omega)]; rfl
  rw [h4] at h3
  simp only [beq_iff_eq]
  omega
theorem occ_set (v : Int) (l : List IN) (p : Nat) (hp : p < l.length) (y : IN) : occ v (l.set p y) + (l[p]).f1.count v = occ v l + y.f1.count v := by
  have h1 : l = l.take p ++ l[p] :: l.drop (p + 1) := by rw [List.getElem_cons_drop, List.take_append_drop]
  have h2 : l.set p y = l.take p ++ y :: l.drop (p + 1) := List.set_eq_take_append_cons_drop .. |>.trans (if_pos hp)
  rw [h2]
  conv => rhs; rw [h1]
  rw [occ_append, occ_append, occ_cons, occ_cons]
  omega
theorem occ_new (l : List IN) (G : Grown l) : occ (l.length : Int) l = 0 := by
  unfold occ
  rw [List.count_eq_zero]
  intro hm
  obtain ⟨x, hx, hv⟩ := List.mem_flatMap.1 hm
  obtain ⟨j, hj, rfl⟩ := List.getElem_of_mem hx
  have := G.up j hj (l.length : Int) (by rw [nodeAt_nat l j hj]; exact hv)
  omega
/-- One node more, led to from node p. -/
theorem grown_step (l : List IN) (G : Grown l) (p : Nat) (hp : p < l.length) (y z : IN) (hy : y.f1 = (l[p]).f1 ++ [(l.length : Int)]) (hz : z.f1 = []) : Grown (l.set p y ++ [z]) := by
  have hlen : (l.set p y ++ [z]).length = l.length + 1 := by simp
  refine ⟨by omega, fun j hj v hv => ?_, fun v h1 h2 => ?_⟩
  · rw [nodeAt_nat _ _ hj] at hv
    rw [hlen] at hj ⊢
    by_cases e : j < l.length
    · rw [List.getElem_append_left (by simpa using e), List.getElem_set] at hv
      by_cases e2 : p = j
      · subst e2
        rw [if_pos rfl, hy, List.mem_append] at hv
        rcases hv with hv | hv
        · have := G.up p hp v (by rw [nodeAt_nat l p hp]; exact hv)
          omega
        · rw [List.mem_singleton.1 hv]
          omega
      · rw [if_neg e2] at hv
        have := G.up j e v (by rw [nodeAt_nat l j e]; exact hv)
        omega
    · rw [List.getElem_append_right (by simp; omega)] at hv
      simp [hz] at hv
  · rw [occ_append, show occ (v : Int) [z] = 0 by simp [occ, hz], Nat.add_zero]
    have ho := occ_set (v : Int) l p hp y
    rw [hy, List.count_append] at ho
    rw [hlen] at h2
    by_cases e : v < l.length
    · have := G.once v h1 e
      have hc : [(l.length : Int)].count (v : Int) = 0 := by rw [List.count_eq_zero]; simp; omega
      omega
    · obtain rfl : v = l.length := by omega
      have h0 := occ_new l G
      have hc : [(l.length : Int)].count (l.length : Int) = 1 := by simp
      omega
/-- Nothing but texts and objects is turned. -/
theorem grown_map (l : List IN) (G : Grown l) (m : List IN) (h : m.map (fun x => x.f1) = l.map (fun x => x.f1)) : Grown m := by
  have hlen : m.length = l.length := by have := congrArg List.length h; simpa using this
  have hat : ∀ j (hj : j < l.length), (m[j]'(by omega)).f1 = (l[j]).f1 := fun j hj => by
    have h1 : (m.map (fun x => x.f1))[j]? = (l.map (fun x => x.f1))[j]? := by rw [h]
    rw [List.getElem?_map, List.getElem?_map, List.getElem?_eq_getElem hj, List.getElem?_eq_getElem (by omega)] at h1
    simpa using h1
  refine ⟨by have := G.pos; omega, fun j hj v hv => ?_, fun v h1 h2 => ?_⟩
  · rw [nodeAt_nat m j hj, hat j (by omega)] at hv
    have := G.up j (by omega) v (by rw [nodeAt_nat l j (by omega)]; exact hv)
    omega
  · have e : occ (v : Int) m = occ (v : Int) l := by
      unfold occ
      rw [List.flatMap_def, List.flatMap_def, h]
    rw [e]
    exact G.once v h1 (by omega)
end Go.Proofs.Ytgldcbcefncjjaa.F
end
section
/- The forces that the laws draw: drawn. -/
namespace Go.Proofs.Ytgldcbcefncjjaa.F
open Go.RowKit Go.Proofs.YtgldcbcefncjjaaW.PrintWords Go.Proofs.YtgldcbcefncjjaaW.PrintLast Go.Proofs.YtgldcbcefncjjaaW.PrintMore
set_option linter.unusedVariables false
set_option linter.unusedSimpArgs false
theorem nodup_len : ∀ (l m : List Int), l.Nodup → l ⊆ m → l.length ≤ m.length
  | [], m, _, _ => by simp
  | x :: xs, m, hn, hs => by
    rw [List.nodup_cons] at hn
    have hx : x ∈ m := hs (by simp)
    have h := nodup_len xs (m.erase x) hn.2 (fun y hy => by
      have hne : y ≠ x := fun e => hn.1 (e ▸ hy)
      exact (List.mem_erase_of_ne hne).2 (hs (by simp [hy])))
    rw [List.length_erase_of_mem hx] at h
    have hp : 0 < m.length := List.length_pos_of_mem hx
    simp only [List.length_cons]
    omega
theorem str_ex (f0 : List Int) (f1 f2 : Int) (h : curB f0 f1) : ∃ s g1 g2, spec_l01Str.f f0 f1 f2 ([(⟨#[97]⟩ : ByteArray), (⟨#[98]⟩ : ByteArray)] : List ByteArray) = some (s, g1, g2) ∧ curB f0 g1 := by
  obtain ⟨b, g1, g2, e, h0, h1, hc⟩ := below_ex f0 f1 f2 2 h (by omega) (by omega)
  refine ⟨rdOf ByteArray.empty ([(⟨#[97]⟩ : ByteArray), (⟨#[98]⟩ : ByteArray)] : List ByteArray) b, g1, g2, ?_, hc⟩
  unfold spec_l01Str.f
  rw [show ((([(⟨#[97]⟩ : ByteArray), (⟨#[98]⟩ : ByteArray)] : List ByteArray).length : Nat) : Int) = 2 from rfl, e, Option.bind_some, if_pos h0, if_pos h1]
/-- A node in the making. -/
def nodeG (x : IN) : Prop := 0 ≤ x.f2 ∧ (x.f1.length = 0 ∨ x.f2 = 0)
theorem nodeB_of (x : IN) (h : nodeG x) : nodeB x = true := by
  unfold nodeB
  simp only [Bool.and_eq_true, Bool.or_eq_true, decide_eq_true_eq]
  exact h
theorem rdT_nat (l : List IN) (j : Nat) (h : j < l.length) : rd_T49 l (j : Int) = l[j] := nodeAt_nat l j h
theorem draw2_at (f0 : List Int) (e : Int) (he : 0 ≤ e) (m : Nat) : ∀ (j : Nat) (l : List IN) (f1 f2 : Int), j + m = l.length → l.length ≤ 40 → Grown l → (∀ x ∈ l, nodeG x) → curB f0 f1 →
    ∃ r g1 g2, Ev (fun k => spec_l13Draw.l1 k l e (l.length : Int) (j : Int) f0 f1 f2) (r, g1, g2) ∧ Grown r ∧ (∀ x ∈ r, nodeG x) ∧ r.length = l.length := by
  induction m with
  | zero =>
    intro j l f1 f2 hj hl G hg hc
    refine ⟨l, f1, f2, Ev.step (f := fun _ => some (l, f1, f2)) (fun k => ?_) (Ev.now _), G, hg, rfl⟩
    show spec_l13Draw.l1 (k + 1) _ _ _ _ _ _ _ = _
    rw [spec_l13Draw.l1, if_neg (by omega)]
  | succ m ih =>
    intro j l f1 f2 hj hl G hg hc
    have hjl : j < l.length := by omega
    obtain ⟨s, g1, g2, es, hc1⟩ := str_ex f0 f1 f2 hc
    have hw : wrap64 ((j : Int) + 1) = ((j + 1 : Nat) : Int) := w64_nat j (by omega)
    obtain ⟨x, hx⟩ : ∃ x, x = l[j] := ⟨_, rfl⟩
    have hrd : rd_T49 l (j : Int) = x := by rw [rdT_nat l j hjl, hx]
    have hxm : x ∈ l := by rw [hx]; exact List.getElem_mem hjl
    obtain ⟨l1, hl1⟩ : ∃ l1, l1 = l.set j (⟨s, x.f1, x.f2⟩ : IN) := ⟨_, rfl⟩
    have hlen1 : l1.length = l.length := by rw [hl1]; simp
    have keep : ∀ (l : List IN) (hjl : j < l.length) (y : IN), Grown l → (∀ x ∈ l, nodeG x) → y.f1 = (l[j]).f1 → nodeG y → Grown (l.set j y) ∧ ∀ x ∈ l.set j y, nodeG x := by
      intro l hjl y G hg hy hn
      refine ⟨grown_map l G _ ?_, fun z hz => ?_⟩
      · rw [List.map_set]
        apply List.ext_getElem?
        intro i
        rw [List.getElem?_set]
        by_cases e : j = i
        · subst e
          rw [if_pos rfl, if_pos (by simpa using hjl), List.getElem?_map, List.getElem?_eq_getElem hjl, hy]; rfl
        · rw [if_neg e]
      · rcases List.mem_or_eq_of_mem_set hz with h | h
        · exact hg z h
        · rw [h]; exact hn
    obtain ⟨G1, hg1⟩ := keep l hjl (⟨s, x.f1, x.f2⟩ : IN) G hg (by rw [← hx]) (hg x hxm)
    rw [← hl1] at G1 hg1
    have hjl1 : j < l1.length := by omega
    have hrd1 : rd_T49 l1 (j : Int) = (⟨s, x.f1, x.f2⟩ : IN) := by rw [rdT_nat l1 j hjl1]; simp [hl1]
    have hl1j : l1[j] = (⟨s, x.f1, x.f2⟩ : IN) := by simp [hl1]
    by_cases c : (x.f1.length : Int) = 0
    · obtain ⟨l2, hl2⟩ : ∃ l2, l2 = l1.set j (⟨s, x.f1, e⟩ : IN) := ⟨_, rfl⟩
      have hlen2 : l2.length = l.length := by rw [hl2]; simp [hlen1]
      obtain ⟨G2, hg2⟩ := keep l1 hjl1 (⟨s, x.f1, e⟩ : IN) G1 hg1 (by rw [hl1j]) ⟨he, Or.inl (by simpa using c)⟩
      rw [← hl2] at G2 hg2
      have hjl2 : j < l2.length := by omega
      have hrd2 : rd_T49 l2 (j : Int) = (⟨s, x.f1, e⟩ : IN) := by rw [rdT_nat l2 j hjl2]; simp [hl2]
      have hl2j : l2[j] = (⟨s, x.f1, e⟩ : IN) := by simp [hl2]
      obtain ⟨b, q1, q2, eo, hc2⟩ := once_ex f0 g1 g2 6 hc1 (by omega) (by omega)
      cases b with
      | true =>
        obtain ⟨v, u1, u2, ev, v0, v1, hc3⟩ := below_ex f0 q1 q2 3 hc2 (by omega) (by omega)
        obtain ⟨l3, hl3⟩ : ∃ l3, l3 = l2.set j (⟨s, x.f1, v⟩ : IN) := ⟨_, rfl⟩
        have hlen3 : l3.length = l.length := by rw [hl3]; simp [hlen2]
        obtain ⟨G3, hg3⟩ := keep l2 hjl2 (⟨s, x.f1, v⟩ : IN) G2 hg2 (by rw [hl2j]) ⟨v0, Or.inl (by simpa using c)⟩
        rw [← hl3] at G3 hg3
        obtain ⟨r, a1, a2, E, Gr, hgr, hlr⟩ := ih (j + 1) l3 u1 u2 (by omega) (by omega) G3 hg3 hc3
        refine ⟨r, a1, a2, Ev.step (fun k => ?_) E, Gr, hgr, by omega⟩
        show spec_l13Draw.l1 (k + 1) _ _ _ _ _ _ _ = _
        rw [spec_l13Draw.l1, if_pos (by omega), es, Option.bind_some, if_pos (nn _), if_pos (by omega), hrd]
        simp only [Option.bind_some, Int.toNat_natCast]
        rw [← hl1, hrd1]
        simp only []
        rw [if_pos c, ← hl2, eo, Option.bind_some, if_pos rfl, ev, Option.bind_some, hrd2]
        simp only []
        rw [← hl3, hw, hlen3]
      | false =>
        obtain ⟨r, a1, a2, E, Gr, hgr, hlr⟩ := ih (j + 1) l2 q1 q2 (by omega) (by omega) G2 hg2 hc2
        refine ⟨r, a1, a2, Ev.step (fun k => ?_) E, Gr, hgr, by omega⟩
        show spec_l13Draw.l1 (k + 1) _ _ _ _ _ _ _ = _
        rw [spec_l13Draw.l1, if_pos (by omega), es, Option.bind_some, if_pos (nn _), if_pos (by omega), hrd]
        simp only [Option.bind_some, Int.toNat_natCast]
        rw [← hl1, hrd1]
        simp only []
        rw [if_pos c, ← hl2, eo, Option.bind_some, if_neg (by simp), hw, hlen2]
    · obtain ⟨r, a1, a2, E, Gr, hgr, hlr⟩ := ih (j + 1) l1 g1 g2 (by omega) (by omega) G1 hg1 hc1
      refine ⟨r, a1, a2, Ev.step (fun k => ?_) E, Gr, hgr, by omega⟩
      show spec_l13Draw.l1 (k + 1) _ _ _ _ _ _ _ = _
      rw [spec_l13Draw.l1, if_pos (by omega), es, Option.bind_some, if_pos (nn _), if_pos (by omega), hrd]
      simp only [Option.bind_some, Int.toNat_natCast]
      rw [← hl1, hrd1]
      simp only []
      rw [if_neg c, hw, hlen1]
theorem draw1_at (f0 : List Int) (m : Nat) : ∀ (l : List IN) (f1 f2 : Int), l.length + m ≤ 40 → Grown l → (∀ x ∈ l, nodeG x ∧ x.f2 = 0) → curB f0 f1 →
    ∃ r g1 g2, Ev (fun k => spec_l13Draw.l0 k l (m : Int) f0 f1 f2) (r, g1, g2) ∧ Grown r ∧ (∀ x ∈ r, nodeG x) ∧ r.length = l.length + m := by
  induction m with
  | zero =>
    intro l f1 f2 hl G hg hc
    obtain ⟨v, u1, u2, ev, v0, v1, hc3⟩ := below_ex f0 f1 f2 3 hc (by omega) (by omega)
    obtain ⟨r, a1, a2, E, Gr, hgr, hlr⟩ := draw2_at f0 v v0 l.length 0 l u1 u2 (by omega) (by omega) G (fun x hx => (hg x hx).1) hc3
    refine ⟨r, a1, a2, Ev.step (fun k => ?_) E, Gr, hgr, by omega⟩
    show spec_l13Draw.l0 (k + 1) _ _ _ _ _ = _
    rw [spec_l13Draw.l0, if_neg (by omega), ev, Option.bind_some]
    rfl
  | succ m ih =>
    intro l f1 f2 hl G hg hc
    have hpos := G.pos
    obtain ⟨v, u1, u2, ev, v0, v1, hc3⟩ := below_ex f0 f1 f2 (l.length : Int) hc (by omega) (by omega)
    obtain ⟨p, rfl⟩ := Int.eq_ofNat_of_zero_le v0
    have hp : p < l.length := by omega
    have hrd := rdT_nat l p hp
    obtain ⟨y, hy⟩ : ∃ y : IN, y = ⟨(l[p]).f0, (l[p]).f1 ++ [(l.length : Int)], (l[p]).f2⟩ := ⟨_, rfl⟩
    obtain ⟨z, hz⟩ : ∃ z : IN, z = ⟨(⟨#[]⟩ : ByteArray), ([] : List Int), 0⟩ := ⟨_, rfl⟩
    have hG := grown_step l G p hp y z (by rw [hy]) (by rw [hz])
    have hgp := hg (l[p]) (List.getElem_mem hp)
    have hg2 : ∀ x ∈ l.set p y ++ [z], nodeG x ∧ x.f2 = 0 := by
      intro x hx
      rcases List.mem_append.1 hx with hx | hx
      · rcases List.mem_or_eq_of_mem_set hx with h | h
        · exact hg x h
        · have e2 : x.f2 = 0 := by rw [h, hy]; exact hgp.2
          exact ⟨⟨by omega, Or.inr e2⟩, e2⟩
      · rw [List.mem_singleton.1 hx, hz]
        exact ⟨⟨Int.le_refl _, Or.inr rfl⟩, rfl⟩
    obtain ⟨r, a1, a2, E, Gr, hgr, hlr⟩ := ih (l.set p y ++ [z]) u1 u2 (by simp; omega) hG hg2 hc3
    refine ⟨r, a1, a2, Ev.step (fun k => ?_) E, Gr, hgr, by rw [hlr]; simp; omega⟩
    have hf1 : (l[p]).f1.length < 17592186044416 := by
      have hub := fun v hv => G.up p hp v (by rw [nodeAt_nat l p hp]; exact hv)
      have hcnt : ∀ v ∈ (l[p]).f1, (l[p]).f1.count v ≤ 1 := by
        intro v hv
        have h1 := hub v hv
        obtain ⟨w, rfl⟩ := Int.eq_ofNat_of_zero_le (show 0 ≤ v by omega)
        have h2 := G.once w (by omega) (by omega)
        have h3 := occ_set (w : Int) l p hp (⟨(l[p]).f0, [], (l[p]).f2⟩ : IN)
        simp only [List.count_nil] at h3
        omega
      have hnd : (l[p]).f1.Nodup := List.nodup_iff_count.2 (fun v => by
        by_cases hv : v ∈ (l[p]).f1
        · exact hcnt v hv
        · rw [List.count_eq_zero.2 hv]; omega)
      have hsub : (l[p]).f1 ⊆ seqFrom 0 l.length := by
        intro v hv
        have h1 := hub v hv
        have : ∀ (n : Nat) (a x : Int), a ≤ x → x < a + n → x ∈ seqFrom a n := by
          intro n
          induction n with
          | zero => intro a x h1 h2; omega
          | succ n ih =>
            intro a x h1 h2
            by_cases e : x = a
            · rw [e]; simp [seqFrom]
            · exact List.mem_cons_of_mem _ (ih (a + 1) x (by omega) (by omega))
        exact this l.length 0 v (by omega) (by omega)
      have hle := nodup_len _ _ hnd hsub
      rw [seqFrom_length] at hle
      omega
    show spec_l13Draw.l0 (k + 1) l ((m + 1 : Nat) : Int) f0 f1 f2 = _
    rw [spec_l13Draw.l0, if_pos (by omega), ev, Option.bind_some, if_pos v0, if_pos v1, hrd, if_pos hf1]
    simp only [Option.bind_some, Int.toNat_natCast]
    rw [← hy, ← hz, if_pos (by simp; omega), show wrap64 (((m + 1 : Nat) : Int) - 1) = (m : Int) by rw [w64_id (by omega) (by omega)]; omega]
theorem grown_one (z : IN) (hz : z.f1 = []) : Grown [z] := by
  refine ⟨Nat.le_refl _, fun j hj v hv => ?_, fun v h1 h2 => ?_⟩
  · have : j = 0 := by simpa using hj
    subst this
    rw [nodeAt_nat [z] 0 (by simp)] at hv
    simp [hz] at hv
  · simp at h2
    omega
/-- The force that is drawn: its check says yes. -/
theorem makeForce_ev (c : List Int) (hb : c.length ≤ 1048576) : ∃ l : List IN, Ev (fun k => spec_MakeForce.f k c) l ∧ forceB l = true ∧ l.length ≤ 40 ∧ (∀ x ∈ l, x.f1.length ≤ 1048576) := by
  obtain ⟨r0, e0⟩ := new_ev c hb
  have hc : curB c 0 := ⟨by omega, by omega, hb⟩
  obtain ⟨v, u1, u2, ev, v0, v1, hc3⟩ := below_ex c 0 r0 7 hc (by omega) (by omega)
  obtain ⟨m, rfl⟩ := Int.eq_ofNat_of_zero_le v0
  obtain ⟨r, a1, a2, E, Gr, hgr, hlr⟩ := draw1_at c m [(⟨(⟨#[]⟩ : ByteArray), ([] : List Int), 0⟩ : IN)] u1 u2 (by simp; omega) (grown_one _ rfl) (fun x hx => by rw [List.mem_singleton.1 hx]; exact ⟨⟨Int.le_refl _, Or.inr rfl⟩, rfl⟩) hc3
  have hl : r.length ≤ 40 := by rw [hlr]; simp; omega
  have hx : ∀ x ∈ r, x.f1.length ≤ 1048576 := by
    intro x hx
    obtain ⟨p, hp, rfl⟩ := List.getElem_of_mem hx
    have hub := fun v hv => Gr.up p hp v (by rw [nodeAt_nat r p hp]; exact hv)
    have hnd : (r[p]).f1.Nodup := List.nodup_iff_count.2 (fun v => by
      by_cases hv : v ∈ (r[p]).f1
      · have h1 := hub v hv
        obtain ⟨w, rfl⟩ := Int.eq_ofNat_of_zero_le (show 0 ≤ v by omega)
        have h2 := Gr.once w (by omega) (by omega)
        have h3 := occ_set (w : Int) r p hp (⟨(r[p]).f0, [], (r[p]).f2⟩ : IN)
        simp only [List.count_nil] at h3
        omega
      · rw [List.count_eq_zero.2 hv]; omega)
    have hsub : (r[p]).f1 ⊆ seqFrom 0 r.length := by
      intro v hv
      have h1 := hub v hv
      have : ∀ (n : Nat) (a x : Int), a ≤ x → x < a + n → x ∈ seqFrom a n := by
        intro n
        induction n with
        | zero => intro a x h1 h2; omega
        | succ n ih =>
          intro a x h1 h2
          by_cases e : x = a
          · rw [e]; simp [seqFrom]
          · exact List.mem_cons_of_mem _ (ih (a + 1) x (by omega) (by omega))
      exact this r.length 0 v (by omega) (by omega)
    have hle := nodup_len _ _ hnd hsub
    rw [seqFrom_length] at hle
    omega
  refine ⟨r, ?_, force_of r Gr hl (fun x hx => nodeB_of x (hgr x hx)) hx, hl, hx⟩
  unfold spec_MakeForce.f
  refine Ev.bind e0 ?_
  refine Ev.bind (f := fun k (bt : List IN × Int × Int) => some bt.1) (a := (r, a1, a2)) ?_ (Ev.now _)
  unfold spec_l13Draw.f
  simp only [ev, Option.bind_some]
  exact E
end Go.Proofs.Ytgldcbcefncjjaa.F
end
