import Derived.Test.YtbeehklibkeecaaZFnRounds4
import Derived.Test.YtbeehklibkeecaaZFnRounds9
import Derived.Test.YtbeehklibkeecaaZFnRounds10
import Derived.Test.YtbeehklibkeecaaZFnRounds6
import Derived.Test.YtbeehklibkeecaaZFnRounds7
import Derived.Test.YtbeehklibkeecaaZFnRounds8
section
/- Laid by a program of this claim's own. What the Go function does, as a Lean function, and the proof that the Go code does just that; Lean checks it. -/
namespace Go.Proofs.Ytbeehklibkeecaa.F
open Go.RowKit Go.Proofs.YtbeehklibkeecaaW.PrintWords Go.Proofs.YtbeehklibkeecaaW.PrintLast Go.Proofs.YtbeehklibkeecaaW.PrintMore
attribute [local go_sem] max2_int min2_int max_two min_two max_three min_three max_four min_four   -- for this text's walks alone
set_option linter.unusedVariables false
set_option linter.unusedSimpArgs false
/-! ### spec_l14Same: function 40 -/
def spec_l14Same.l0 : Nat → List Int → List Int → Int → Int → Option (Bool)
  | 0, _, _, _, _ => none
  | k + 1, x0, x5, x6, x7 => if x7 < x6 then (if 0 ≤ x7 then (if x7 < (x5.length : Int) then (if 0 < (x0.length : Int) then (if (rd x5 x7) = (rd x0 0) then (spec_l14Same.l0 k x0 x5 x6 (wrap64 (x7 + 1))) else (some false)) else (none)) else (none)) else (none)) else (some true)
def spec_l14Same.f (k : Nat) (l0 : List Int) : Option (Bool) := spec_l14Same.l0 k l0 l0 (l0.length : Int) 0
end Go.Proofs.Ytbeehklibkeecaa.F
end
section
/- Laid by a program of this claim's own. What the Go function does, as a Lean function, and the proof that the Go code does just that; Lean checks it. -/
namespace Go.Proofs.Ytbeehklibkeecaa.F
open Go.RowKit Go.Proofs.YtbeehklibkeecaaW.PrintWords Go.Proofs.YtbeehklibkeecaaW.PrintLast Go.Proofs.YtbeehklibkeecaaW.PrintMore
attribute [local go_sem] max2_int min2_int max_two min_two max_three min_three max_four min_four   -- for this text's walks alone
set_option linter.unusedVariables false
set_option linter.unusedSimpArgs false
/-! ### spec_RoundsNeeded: function 11 -/
mutual
def spec_RoundsNeeded.j0 : Nat → Int → Int → Int → Bool → Option (Int)
  | 0, _, _, _, _ => none
  | k + 1, x0, x1, x2, x18 => if x18 = true then (some (-1)) else (spec_RoundsNeeded.l0 k x0 x1 x2 0)
def spec_RoundsNeeded.l0 : Nat → Int → Int → Int → Int → Option (Int)
  | 0, _, _, _, _ => none
  | k + 1, x0, x1, x2, x7 => if x7 ≤ x0 then ((spec_l14Images.f k x0 x1 x2 x7).bind fun t191 => ((spec_l14Same.f k t191).bind fun t194 => (if t194 = true then (some x7) else (spec_RoundsNeeded.l0 k x0 x1 x2 (wrap64 (x7 + 1)))))) else (some (-1))
end
end Go.Proofs.Ytbeehklibkeecaa.F
end
section
/- How many rounds are needed, and where every card then lies: both functions tell the same. -/
namespace Go.Proofs.Ytbeehklibkeecaa.F
open Go.RowKit Go.Proofs.YtbeehklibkeecaaW.PrintWords Go.Proofs.YtbeehklibkeecaaW.PrintLast Go.Proofs.YtbeehklibkeecaaW.PrintMore
set_option linter.unusedVariables false
set_option linter.unusedSimpArgs false
section
variable (n p pl : Int) (f : Int → Int)
theorem imp_l1 (hf : ∀ x, 0 ≤ x → x < n → Ev (fun k => impl_IndexAfter.f k n p x pl) (f x)) (j : Int) (r : Int × Int) (rest : List Int) : ∀ pre : List Int, (∀ x ∈ rest, 0 ≤ x ∧ x < n) → (pre ++ rest).length ≤ 1000 →
    Ev (fun k => impl_rounds.l0 k n p pl (pre ++ rest.map f) (wrap64 (j + 1))) r → Ev (fun k => impl_rounds.l1 k n p pl (pre ++ rest) j (pre.length : Int)) r := by
  induction rest with
  | nil =>
    intro pre _ hb h
    refine Ev.step (fun k => ?_) h
    show impl_rounds.l1 (k + 1) _ _ _ _ _ _ = _
    rw [impl_rounds.l1, if_neg (mid_nlt _)]
    simp
  | cons x rest ih =>
    intro pre hx hb h
    have hx0 := hx x List.mem_cons_self
    refine Ev.stepb (hf x hx0.1 hx0.2) (fun k => by rw [impl_rounds.l1, if_pos (mid_lt _ _ _), if_pos (nn _), mid_rd]) ?_
    have h2 := ih (pre ++ [f x]) (fun y hy => hx y (List.mem_cons_of_mem _ hy)) (by simpa using hb) (by simpa using h)
    rw [mid_set, mid_succ pre (f x) (by simp at hb; omega)]
    exact h2
end
theorem max_at (rest : List Int) : ∀ (pre : List Int) (m : Int), (pre ++ rest).length ≤ 1000 → Ev (fun k => slices_Max_Lint_int.l0 k (pre ++ rest) m (pre.length : Int)) (rest.foldl mx m) := by
  induction rest with
  | nil =>
    intro pre m hb
    refine Ev.step (f := fun _ => some m) (fun k => ?_) (Ev.now _)
    show slices_Max_Lint_int.l0 (k + 1) _ _ _ = _
    rw [slices_Max_Lint_int.l0, if_neg (mid_nlt _)]
  | cons x rest ih =>
    intro pre m hb
    have h := ih (pre ++ [x]) (mx m x) (by simpa using hb)
    rw [← mid_cons, ← mid_succ pre x (by simp at hb; omega)] at h
    refine Ev.step (fun k => ?_) h
    show slices_Max_Lint_int.l0 (k + 1) _ _ _ = _
    rw [slices_Max_Lint_int.l0, if_pos (mid_lt _ _ _), if_pos (nn _), mid_rd]
theorem min_at (rest : List Int) : ∀ (pre : List Int) (m : Int), (pre ++ rest).length ≤ 1000 → Ev (fun k => slices_Min_Lint_int.l0 k (pre ++ rest) m (pre.length : Int)) (rest.foldl mn m) := by
  induction rest with
  | nil =>
    intro pre m hb
    refine Ev.step (f := fun _ => some m) (fun k => ?_) (Ev.now _)
    show slices_Min_Lint_int.l0 (k + 1) _ _ _ = _
    rw [slices_Min_Lint_int.l0, if_neg (mid_nlt _)]
  | cons x rest ih =>
    intro pre m hb
    have h := ih (pre ++ [x]) (mn m x) (by simpa using hb)
    rw [← mid_cons, ← mid_succ pre x (by simp at hb; omega)] at h
    refine Ev.step (fun k => ?_) h
    show slices_Min_Lint_int.l0 (k + 1) _ _ _ = _
    rw [slices_Min_Lint_int.l0, if_pos (mid_lt _ _ _), if_pos (nn _), mid_rd]
theorem max_ev (x : Int) (rest : List Int) (hb : rest.length < 1000) : Ev (fun k => slices_Max_Lint_int.f k (x :: rest)) (rest.foldl mx x) := by
  have h := max_at rest [x] x (by simp <;> omega)
  unfold slices_Max_Lint_int.f
  simp only [if_neg (show ¬ (((x :: rest).length : Int) < 1) by simp <;> omega), if_pos (show 0 < ((x :: rest).length : Int) by simp <;> omega)]
  exact h
theorem min_ev (x : Int) (rest : List Int) (hb : rest.length < 1000) : Ev (fun k => slices_Min_Lint_int.f k (x :: rest)) (rest.foldl mn x) := by
  have h := min_at rest [x] x (by simp <;> omega)
  unfold slices_Min_Lint_int.f
  simp only [if_neg (show ¬ (((x :: rest).length : Int) < 1) by simp <;> omega), if_pos (show 0 < ((x :: rest).length : Int) by simp <;> omega)]
  exact h
theorem mx_ge (rest : List Int) : ∀ m : Int, m ≤ rest.foldl mx m ∧ ∀ y ∈ rest, y ≤ rest.foldl mx m := by
  induction rest with
  | nil => intro m; exact ⟨Int.le_refl _, by simp⟩
  | cons x rest ih =>
    intro m
    obtain ⟨h1, h2⟩ := ih (mx m x)
    have h3 : m ≤ mx m x ∧ x ≤ mx m x := by unfold mx; split <;> omega
    refine ⟨by simp only [List.foldl_cons]; omega, fun y hy => ?_⟩
    rcases List.mem_cons.1 hy with rfl | hy
    · simp only [List.foldl_cons]; omega
    · exact h2 y hy
theorem mn_le (rest : List Int) : ∀ m : Int, rest.foldl mn m ≤ m ∧ ∀ y ∈ rest, rest.foldl mn m ≤ y := by
  induction rest with
  | nil => intro m; exact ⟨Int.le_refl _, by simp⟩
  | cons x rest ih =>
    intro m
    obtain ⟨h1, h2⟩ := ih (mn m x)
    have h3 : mn m x ≤ m ∧ mn m x ≤ x := by unfold mn; split <;> omega
    refine ⟨by simp only [List.foldl_cons]; omega, fun y hy => ?_⟩
    rcases List.mem_cons.1 hy with rfl | hy
    · simp only [List.foldl_cons]; omega
    · exact h2 y hy
theorem mx_same (m : Int) : ∀ rest : List Int, (∀ y ∈ rest, y = m) → rest.foldl mx m = m ∧ rest.foldl mn m = m
  | [], _ => ⟨rfl, rfl⟩
  | x :: rest, h => by
    have hx := h x List.mem_cons_self
    subst hx
    have h2 := mx_same x rest (fun y hy => h y (List.mem_cons_of_mem _ hy))
    simp only [List.foldl_cons, show mx x x = x by unfold mx; split <;> omega, show mn x x = x by unfold mn; split <;> omega]
    exact h2
/-- Are all the same? -/
def sameI : List Int → Bool
  | [] => true
  | x :: xs => xs.all (fun y => decide (y = x))
theorem sameI_mx (x : Int) (rest : List Int) : (rest.foldl mx x = rest.foldl mn x) ↔ sameI (x :: rest) = true := by
  unfold sameI
  rw [List.all_eq_true]
  constructor
  · intro h y hy
    obtain ⟨a1, a2⟩ := mx_ge rest x
    obtain ⟨b1, b2⟩ := mn_le rest x
    have := a2 y hy
    have := b2 y hy
    exact decide_eq_true (by omega)
  · intro h
    obtain ⟨e1, e2⟩ := mx_same x rest (fun y hy => of_decide_eq_true (h y hy))
    rw [e1, e2]
/-- The places of all cards behind j rounds. -/
def imR (f : Int → Int) (l : List Int) : Nat → List Int
  | 0 => l
  | j + 1 => (imR f l j).map f
theorem imR_len (f : Int → Int) (l : List Int) : ∀ j, (imR f l j).length = l.length
  | 0 => rfl
  | j + 1 => by simp [imR, imR_len f l j]
theorem imR_mem (f : Int → Int) (l : List Int) (n : Int) (hl : ∀ x ∈ l, 0 ≤ x ∧ x < n) (hf : ∀ x, 0 ≤ f x ∧ f x < n) : ∀ j, ∀ x ∈ imR f l j, 0 ≤ x ∧ x < n
  | 0 => hl
  | j + 1 => by
    intro x hx
    obtain ⟨y, _, rfl⟩ := List.mem_map.1 hx
    exact hf y
/-- The first round, from round j on, behind which all are the same. -/
def firstR (f : Int → Int) (l : List Int) : Nat → Nat → Option Nat
  | 0, _ => none
  | m + 1, j => if sameI (imR f l j) = true then some j else firstR f l m (j + 1)
def asR1 : Option Nat → Int
  | some j => (j : Int)
  | none => -1
def asR2 (f : Int → Int) (l : List Int) : Option Nat → Int
  | some j => rd (imR f l j) 0
  | none => -1
theorem firstR_lt (f : Int → Int) (l : List Int) : ∀ m j r, firstR f l m j = some r → j ≤ r ∧ r < j + m
  | 0, _, _, h => by simp [firstR] at h
  | m + 1, j, r, h => by
    unfold firstR at h
    split at h
    · obtain rfl := Option.some.inj h; omega
    · have := firstR_lt f l m (j + 1) r h; omega
theorem seq_in (q s : Nat) : ∀ x ∈ seqFrom 0 (q * s), 0 ≤ x ∧ x < ((q * s : Nat) : Int) := fun x hx => by
  have := seqFrom_mem (q * s) 0 x hx
  omega
theorem im_cons (q s pl : Nat) (h1 : 2 ≤ q) (h3 : 1 ≤ s) (h4 : q * s ≤ 12) (j : Nat) : ∃ x rest, imR (nxF q s pl) (seqFrom 0 (q * s)) j = x :: rest ∧ rest.length < 1000 := by
  have hl := imR_len (nxF q s pl) (seqFrom 0 (q * s)) j
  rw [seqFrom_length] at hl
  have hpos : 0 < q * s := Nat.mul_pos (by omega) (by omega)
  cases h : imR (nxF q s pl) (seqFrom 0 (q * s)) j with
  | nil => rw [h] at hl; simp at hl; omega
  | cons x rest => exact ⟨x, rest, rfl, by rw [h] at hl; simp at hl; omega⟩
section
variable (q s pl : Nat) (h1 : 2 ≤ q) (h2 : q ≤ 4) (h3 : 1 ≤ s) (h4 : q * s ≤ 12) (hp : pl < q)
include h1 h2 h3 h4 hp
theorem rounds_at (m : Nat) : ∀ j : Nat, j + m = q * s + 1 → Ev (fun k => impl_rounds.l0 k ((q * s : Nat) : Int) (q : Int) (pl : Int) (imR (nxF q s pl) (seqFrom 0 (q * s)) j) (j : Int)) (asR1 (firstR (nxF q s pl) (seqFrom 0 (q * s)) m j), asR2 (nxF q s pl) (seqFrom 0 (q * s)) (firstR (nxF q s pl) (seqFrom 0 (q * s)) m j)) := by
  induction m with
  | zero =>
    intro j hj
    refine Ev.step (f := fun _ => some (-1, -1)) (fun k => ?_) (Ev.now _)
    show impl_rounds.l0 (k + 1) _ _ _ _ _ = _
    rw [impl_rounds.l0, if_neg (by omega)]
  | succ m ih =>
    intro j hj
    obtain ⟨x, rest, e, hb⟩ := im_cons q s pl h1 h3 h4 j
    have hmx := max_ev x rest hb
    have hmn := min_ev x rest hb
    have hsame := sameI_mx x rest
    refine Ev.stepb (a := fun k => slices_Max_Lint_int.f k (x :: rest)) hmx (fun k => by rw [impl_rounds.l0, if_pos (by omega), e]) (Ev.bind hmn ?_)
    unfold firstR
    rw [e]
    by_cases c : rest.foldl mx x = rest.foldl mn x
    · simp only [if_pos c, if_pos (hsame.1 c), if_pos (show 0 < ((x :: rest).length : Int) by simp <;> omega)]
      unfold asR1 asR2
      simp only [e]
      exact Ev.now _
    · simp only [if_neg c, if_neg (fun h => c (hsame.2 h))]
      have h := ih (j + 1) (by omega)
      have hm := imR_mem (nxF q s pl) (seqFrom 0 (q * s)) ((q * s : Nat) : Int) (seq_in q s) (nxF_in q s pl h1 h3 hp) j
      rw [e] at hm
      have e2 : imR (nxF q s pl) (seqFrom 0 (q * s)) (j + 1) = (x :: rest).map (nxF q s pl) := by unfold imR; rw [e]
      rw [e2, ← w64_nat j (by omega)] at h
      exact imp_l1 _ _ _ (nxF q s pl) (fun x a b => (ia_nx q s pl h1 h2 h3 h4 hp x a b).1) (j : Int) _ (x :: rest) [] hm (by simp <;> omega) h
/-- Both functions' answer where there is one to be sought. -/
theorem rounds_ev : Ev (fun k => impl_rounds.f k ((q * s : Nat) : Int) (q : Int) (pl : Int)) (asR1 (firstR (nxF q s pl) (seqFrom 0 (q * s)) (q * s + 1) 0), asR2 (nxF q s pl) (seqFrom 0 (q * s)) (firstR (nxF q s pl) (seqFrom 0 (q * s)) (q * s + 1) 0)) := by
  have hpb : pilesB ((q * s : Nat) : Int) (q : Int) = true := by
    rw [pilesB_iff]
    refine ⟨⟨by omega, by omega, ?_, by omega⟩, ?_⟩
    · have : q * 1 ≤ q * s := Nat.mul_le_mul_left q h3
      omega
    · rw [← Int.ofNat_tmod, Nat.mul_mod_right]; rfl
  obtain ⟨u1, _⟩ := upTo_ev ((q * s : Nat) : Int) (by omega) (by omega)
  rw [Int.toNat_natCast] at u1
  unfold impl_rounds.f
  simp only [impl_PilesOk_eq, hpb, Option.bind_some, if_true, if_neg (show ¬ ((pl : Int) < 0) by omega), if_neg (show ¬ ((q : Int) ≤ (pl : Int)) by omega)]
  exact Ev.bind u1 (rounds_at q s pl h1 h2 h3 h4 hp (q * s + 1) 0 (by omega))
end
end Go.Proofs.Ytbeehklibkeecaa.F
end
section
/- FnRounds: every size, every number of piles, every place; every two indices. -/
namespace Go.Proofs.Ytbeehklibkeecaa.Pure
open Go.RowKit Go.Proofs.Ytbeehklibkeecaa.F Go.Proofs.YtbeehklibkeecaaW.PrintWords Go.Proofs.YtbeehklibkeecaaW.PrintLast Go.Proofs.YtbeehklibkeecaaW.PrintMore
set_option linter.unusedVariables false
set_option linter.unusedSimpArgs false
def itN (f : Int → Int) : Nat → Int → Int
  | 0, x => x
  | d + 1, x => itN f d (f x)
def rdOK (q s pl : Nat) : Bool := match firstR (nxF q s pl) (seqFrom 0 (q * s)) (q * s + 1) 0 with
  | some j => decide (0 ≤ rd (imR (nxF q s pl) (seqFrom 0 (q * s)) j) 0) && (List.range (q * s)).all fun i => itN (nxF q s pl) j (i : Int) == rd (imR (nxF q s pl) (seqFrom 0 (q * s)) j) 0
  | none => true
def rdAll : Bool := (List.range 5).all fun q => (List.range 7).all fun s => (!(decide (2 ≤ q) && (decide (1 ≤ s) && decide (q * s ≤ 12)))) || (List.range q).all fun pl => rdOK q s pl
theorem rdAll_true : rdAll = true := by decide +kernel
theorem rdOK_true (q s pl : Nat) (h1 : 2 ≤ q) (h2 : q ≤ 4) (h3 : 1 ≤ s) (h4 : q * s ≤ 12) (h5 : pl < q) : rdOK q s pl = true := by
  have h := rdAll_true
  unfold rdAll at h
  rw [List.all_eq_true] at h
  have hs : s ≤ 6 := by
    rcases (show q = 2 ∨ q = 3 ∨ q = 4 by omega) with rfl | rfl | rfl <;> omega
  have h7 := h q (List.mem_range.2 (by omega))
  rw [List.all_eq_true] at h7
  have h8 := h7 s (List.mem_range.2 (by omega))
  rw [decide_eq_true h1, decide_eq_true h3, decide_eq_true h4] at h8
  simp only [Bool.and_self, Bool.not_true, Bool.false_or] at h8
  rw [List.all_eq_true] at h8
  exact h8 pl (List.mem_range.2 h5)
section
variable (q s : Nat) (h1 : 2 ≤ q) (h2 : q ≤ 4) (h3 : 1 ≤ s) (h4 : q * s ≤ 12)
include h1 h2 h3 h4
theorem fr_l2 (t : Int) (l : List Int) (hl : l.length ≤ 100) (rest : List Int) : ∀ (pre : List Int) (x : Int), (∀ c ∈ rest, 0 ≤ c ∧ c < (q : Int)) → (pre ++ rest).length ≤ 100 → 0 ≤ x → x < ((q * s : Nat) : Int) → rest.foldl (fun x c => nxF q s c.toNat x) x = t → (l.length : Int) ≤ ((q * s : Nat) : Int) →
    Ev (fun k => laws_FnRounds.l2 k ((q * s : Nat) : Int) (q : Int) x t l (pre ++ rest) ((pre ++ rest).length : Int) (pre.length : Int)) true := by
  induction rest with
  | nil =>
    intro pre x _ hb h0 h1' hf hle
    refine Ev.step (f := fun _ => some true) (fun k => ?_) (Ev.now _)
    show laws_FnRounds.l2 (k + 1) _ _ _ _ _ _ _ _ = _
    rw [laws_FnRounds.l2, if_neg (mid_nlt _), if_pos (show x = t from hf), decide_eq_true hle]
  | cons c rest ih =>
    intro pre x hc hb h0 h1' hf hle
    obtain ⟨c0, c1⟩ := hc c List.mem_cons_self
    have hx := (ia_nx q s c.toNat h1 h2 h3 h4 (by omega) x h0 h1').1
    rw [Int.toNat_of_nonneg c0] at hx
    have hin := nxF_in q s c.toNat h1 h3 (by omega) x
    have h := ih (pre ++ [c]) (nxF q s c.toNat x) (fun y hy => hc y (List.mem_cons_of_mem _ hy)) (by simpa using hb) hin.1 hin.2 hf hle
    rw [← mid_cons, ← mid_succ pre c (by simp at hb; omega)] at h
    refine Ev.stepb hx (fun k => by rw [laws_FnRounds.l2, if_pos (mid_lt _ _ _), if_pos (nn _), if_pos (mid_lt _ _ _), mid_rd]) ?_
    exact h
end
theorem FnRounds : laws_FnRounds.Pure := by
  intro l hm hb hw
  by_cases hbig : (l.length : Int) > 1048576
  · exact ⟨0, by unfold laws_FnRounds.f; rw [if_pos hbig]⟩
  obtain ⟨q, s, hmk, h1, h2, h3, h4⟩ := makePiles_ev l (by omega)
  have hqs : q * 1 ≤ q * s := Nat.mul_le_mul_left q h3
  obtain ⟨v, hv, v0, v1⟩ := num_ev l 40 (by omega) (by omega) (by omega)
  obtain ⟨u, hu, u0, u1⟩ := num_ev l 42 (by omega) (by omega) (by omega)
  obtain ⟨z, hz, z0, z1⟩ := num_ev l 44 (by omega) (by omega) (by omega)
  obtain ⟨vn, rfl⟩ := Int.eq_ofNat_of_zero_le v0
  obtain ⟨un, rfl⟩ := Int.eq_ofNat_of_zero_le u0
  obtain ⟨zn, rfl⟩ := Int.eq_ofNat_of_zero_le z0
  have ha : un % (q * s) < q * s := Nat.mod_lt _ (by omega)
  have hza : zn % (q * s) < q * s := Nat.mod_lt _ (by omega)
  have hpl : vn % q < q := Nat.mod_lt _ (by omega)
  have t1 : Int.tmod (un : Int) ((q * s : Nat) : Int) = ((un % (q * s) : Nat) : Int) := (Int.ofNat_tmod _ _).symm
  have t3 : Int.tmod (zn : Int) ((q * s : Nat) : Int) = ((zn % (q * s) : Nat) : Int) := (Int.ofNat_tmod _ _).symm
  have t2 : Int.tmod (vn : Int) (q : Int) = ((vn % q : Nat) : Int) := (Int.ofNat_tmod _ _).symm
  generalize un % (q * s) = a at ha t1
  generalize zn % (q * s) = b at hza t3
  generalize vn % q = pl at hpl t2
  have hpb : pilesB ((q * s : Nat) : Int) (q : Int) = true := by
    rw [pilesB_iff]
    refine ⟨⟨by omega, by omega, by omega, by omega⟩, ?_⟩
    rw [← Int.ofNat_tmod, Nat.mul_mod_right]; rfl
  have E := rounds_ev q s pl h1 h2 h3 h4 hpl
  obtain ⟨r, _, R2, R3, R4, R5⟩ := places_in q s a b h1 h2 h3 h4 ha hza
  have hok := rdOK_true q s pl h1 h2 h3 h4 hpl
  unfold rdOK at hok
  -- what stands behind the loop
  have tail : ∀ K X i : Int, Ev (fun k => laws_FnRounds.j2 k l ((q * s : Nat) : Int) (q : Int) (pl : Int) K X i false) true := fun K X i => by
    refine Ev.stepb hu (fun k => by rw [laws_FnRounds.j2, if_neg (by decide)]) ?_
    simp only [if_neg (show ¬ ((q * s : Nat) : Int) = 0 by omega), t1]
    refine Ev.bind hz ?_
    simp only [t3]
    refine Ev.bind R2 ?_
    cases hr : r.2 with
    | true =>
      simp only [if_true]
      obtain ⟨f1, f2⟩ := R4 hr
      exact fr_l2 q s h1 h2 h3 h4 (b : Int) r.1 (by omega) r.1 [] (a : Int) f2 (by simp; omega) (by omega) (by omega) f1 (by omega)
    | false =>
      simp only [Bool.false_eq_true, if_false]
      rw [R5 hr]
      exact Ev.now _
  have main2 : Ev (fun k => laws_FnRounds.f k l) true := by
    unfold laws_FnRounds.f
    simp only [if_neg hbig]
    refine Ev.bind hmk (Ev.bind hv ?_)
    simp only [if_neg (show ¬ (q : Int) = 0 by omega), t2]
    refine Ev.bind (a := asR1 (firstR (nxF q s pl) (seqFrom 0 (q * s)) (q * s + 1) 0)) (Ev.bind E (Ev.now _)) ?_
    refine Ev.bind (a := asR2 (nxF q s pl) (seqFrom 0 (q * s)) (firstR (nxF q s pl) (seqFrom 0 (q * s)) (q * s + 1) 0)) (Ev.bind E (Ev.now _)) ?_
    simp only [impl_PilesOk_eq, hpb, Option.bind_some, if_true]
    cases hr : firstR (nxF q s pl) (seqFrom 0 (q * s)) (q * s + 1) 0 with
    | none =>
      unfold asR1 asR2
      simp only [if_neg (show ¬ (-1 : Int) < -1 by omega), if_neg (show ¬ (-1 : Int) > ((q * s : Nat) : Int) by omega), decide_eq_true (show (-1 : Int) < 0 by omega), bne_self_eq_false]
      refine Ev.step (fun k => by rw [laws_FnRounds.j0, if_neg (by decide)]) ?_
      refine Ev.step (fun k => by rw [laws_FnRounds.l0, if_pos (by omega), decide_eq_false (show ¬ ((-1 : Int) ≥ 0) by omega)]) (tail _ _ _)
    | some j =>
      have hj := firstR_lt _ _ _ _ _ hr
      rw [hr] at hok
      simp only [Bool.and_eq_true, decide_eq_true_eq, List.all_eq_true, beq_iff_eq] at hok
      obtain ⟨hx0, hit⟩ := hok
      have fin : ∀ X : Int, 0 ≤ X → (∀ x : Nat, x ∈ List.range (q * s) → itN (nxF q s pl) j (x : Int) = X) → Ev (fun k => laws_FnRounds.j0 k l ((q * s : Nat) : Int) (q : Int) (pl : Int) (j : Int) X false) true := by
       intro X hx0 hit
       refine Ev.step (fun k => by rw [laws_FnRounds.j0, if_neg (by decide)]) ?_
       -- one card's rounds
       have inner : ∀ (d : Nat) (c : Nat) (i y : Int), c + d = j → 0 ≤ y → y < ((q * s : Nat) : Int) → itN (nxF q s pl) d y = X → Ev (fun k => laws_FnRounds.l0 k l ((q * s : Nat) : Int) (q : Int) (pl : Int) (j : Int) X (wrap64 (i + 1))) true → Ev (fun k => laws_FnRounds.l1 k l ((q * s : Nat) : Int) (q : Int) (pl : Int) (j : Int) X i y (c : Int)) true := by
         intro d
         induction d with
         | zero =>
           intro c i y hc _ _ hX h
           refine Ev.step (fun k => ?_) h
           show laws_FnRounds.l1 (k + 1) _ _ _ _ _ _ _ _ _ = _
           rw [laws_FnRounds.l1, if_neg (by omega), if_pos (show y = X from hX)]
         | succ d ih =>
           intro c i y hc y0 y1 hX h
           have hin := nxF_in q s pl h1 h3 hpl y
           have h2' := ih (c + 1) i (nxF q s pl y) (by omega) hin.1 hin.2 hX h
           rw [← w64_nat c (by omega)] at h2'
           exact Ev.stepb (ia_nx q s pl h1 h2 h3 h4 hpl y y0 y1).1 (fun k => by rw [laws_FnRounds.l1, if_pos (by omega)]) h2'
       have outer : ∀ (d : Nat) (i : Nat), i + d = q * s → Ev (fun k => laws_FnRounds.l0 k l ((q * s : Nat) : Int) (q : Int) (pl : Int) (j : Int) X (i : Int)) true := by
         intro d
         induction d with
         | zero =>
           intro i hi
           exact Ev.step (fun k => by rw [laws_FnRounds.l0, if_neg (by omega)]) (tail _ _ _)
         | succ d ih =>
           intro i hi
           have h := ih (i + 1) (by omega)
           rw [← w64_nat i (by omega)] at h
           refine Ev.step (fun k => by rw [laws_FnRounds.l0, if_pos (by omega), decide_eq_true (show (j : Int) ≥ 0 by omega)]) ?_
           refine Ev.step (fun k => by rw [laws_FnRounds.j2, if_pos rfl]) ?_
           exact inner j 0 (i : Int) (i : Int) (by omega) (by omega) (by omega) (hit i (List.mem_range.2 (by omega))) h
       exact outer (q * s) 0 (by omega)
      rw [show asR1 (some j) = (j : Int) from rfl, show asR2 (nxF q s pl) (seqFrom 0 (q * s)) (some j) = rd (imR (nxF q s pl) (seqFrom 0 (q * s)) j) 0 from rfl]
      simp only [if_neg (show ¬ (j : Int) < -1 by omega), if_neg (show ¬ (j : Int) > ((q * s : Nat) : Int) by omega), decide_eq_false (show ¬ (j : Int) < 0 by omega), decide_eq_false (show ¬ rd (imR (nxF q s pl) (seqFrom 0 (q * s)) j) 0 < 0 by omega), bne_self_eq_false]
      exact fin _ hx0 hit
  exact main2.imp fun K hK => hK K (Nat.le_refl _)
end Go.Proofs.Ytbeehklibkeecaa.Pure
end
