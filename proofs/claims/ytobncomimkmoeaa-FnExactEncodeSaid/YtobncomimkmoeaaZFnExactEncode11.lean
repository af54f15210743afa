import Derived.Test.YtobncomimkmoeaaZFnExactEncode2
import Derived.Deep.Slices
import Derived.Deep.Strs
import Derived.ChangeArms
import Derived.SizedLaws
import Derived.Test.YtobncomimkmoeaaZFnExactEncode10
import Derived.Test.YtobncomimkmoeaaZFnExactEncode7
import Derived.Test.YtobncomimkmoeaaZFnExactEncode4
import Derived.Test.YtobncomimkmoeaaZFnExactEncode9
import Derived.Test.YtobncomimkmoeaaZFnExactEncode8
import Derived.Test.YtobncomimkmoeaaZFnExactEncode5
import Derived.Test.YtobncomimkmoeaaZFnExactEncode6
section
/- What an argument reads as, kind by kind: plain facts of my own on the model's reading; no function of the program is named here. -/
namespace Go.Proofs.Ytobncomimkmoeaa.F
open Go.ChangeShapes Go.WideShapes Go.RowKit Go.Proofs.YtobncomimkmoeaaW.PrintWords
/-- All that reads by type t is of kind d, and has Q. -/
def Opn {α : Type} (P : Program) (t : TypeId) (d : Kd α) (Q : α → Prop) : Prop :=
  ∀ (H : Type) (enc : TypeId × Value → H) (w : World) (base : Nat) (held : Bool) (fuel : Nat) (cs : List Value) (x : DataW H × List MemPlace), DataW.trod enc P w base (fun _ => true) held fuel t cs = some x → (∀ n ∈ x.1.weights P t, n ≤ reachBytes) → ∃ a, d.K w a cs ∧ Q a
theorem reach_eq : reachBytes = 140737488351232 := by decide
section
variable {P : Program} {t e : TypeId}
theorem Opn_int {k : IntKind} (ht : P.underlying t = some (.int k)) : Opn P t (Kd.int k) (fun n => (Lit.int k n).wf = true) := by
  intro H enc w base held fuel cs x h _
  obtain ⟨n, rfl, _, hw⟩ := DataW.trod_int ht h
  exact ⟨n, rfl, hw⟩
theorem weightsAll_mem {H : Type} {P : Program} {e : TypeId} : ∀ {ds : List (DataW H)} {d : DataW H}, d ∈ ds → ∀ n ∈ d.weights P e, n ∈ DataW.weightsAll P e ds
  | d0 :: ds, d, hd, n, hn => by
    simp only [DataW.weightsAll, List.mem_append]
    rcases List.mem_cons.mp hd with rfl | hd
    · exact Or.inl hn
    · exact Or.inr (weightsAll_mem hd n hn)
  | [], _, hd, _, _ => by simp at hd
theorem Opn_slice {α : Type} {d : Kd α} {Q : α → Prop} (e' B : Nat) (hB : P.bytesOf e = B) (ht : P.underlying t = some (.slice e)) (hc : P.cellsOf e = d.sz) (h : Opn P e d Q) :
    Opn P t (Kd.slice e' d) (fun xs => xs.length * B ≤ 140737488351232 ∧ xs.length ≤ maxLen ∧ ∀ x ∈ xs, Q x) := by
  intro H enc w base held fuel cs x hx hz
  rcases Go.Deep.open_slice ht hx with ⟨rfl, _⟩ | ⟨a, len, cap, m, n, D, Pl, rfl, _, hl, hm, hmm, rfl, hel⟩
  · exact ⟨[], ⟨none, 0, rfl, Nat.le_refl _, rfl, by simp, fun h => absurd h (by simp)⟩, by simp, by simp, by simp⟩
  · have hmm' : m = cap := by simpa using hmm
    subst hmm'
    have hz' := hz
    simp only [DataW.weights, ht] at hz'
    have each : ∀ i, i < len → ∃ y : α, (∃ c, c.length = d.sz ∧ d.K w y c ∧ ∀ j u, c[j]? = some u → w.cell? (a.add (i * d.sz + j)) = some u) ∧ Q y := by
      intro i hi
      obtain ⟨cs', h1, h2⟩ := hel i (by omega)
      obtain ⟨y, hK, hQ⟩ := h H enc w base held n cs' _ h2 (fun q hq => hz' q (List.mem_cons_of_mem _ (List.mem_append.mpr (Or.inl (weightsAll_mem (List.mem_map.mpr ⟨i, List.mem_range.mpr hi, rfl⟩) q hq)))))
      obtain ⟨_, h4, h5⟩ := World.cells?_some h1
      rw [hc] at h4 h5
      refine ⟨y, ⟨cs', h4, hK, fun j u hu => ?_⟩, hQ⟩
      have hj : j < d.sz := by
        rw [← h4]
        exact (List.getElem?_eq_some_iff.mp hu).1
      have := h5 j hj
      rw [hu] at this
      rw [← this]
      congr 1
      unfold Addr.add
      by_cases q1 : i * d.sz = 0
      · simp [q1]
      · by_cases q2 : j = 0
        · simp [q1, q2]
        · simp [q1, q2, Nat.add_assoc]
    rcases Nat.eq_zero_or_pos len with hl0 | hl0
    · subst hl0
      exact ⟨[], ⟨some a, m, rfl, by simp, rfl, by simp, fun h => absurd h (by simp)⟩, by simp, by simp, by simp⟩
    haveI : Inhabited α := ⟨Classical.choose (each 0 hl0)⟩
    obtain ⟨Y, hY⟩ := Go.Deep.choose_lt each
    refine ⟨(List.range len).map Y, ⟨some a, m, by simp, by simpa using hl, by simp, ?_, fun _ => ⟨a, rfl, ?_⟩⟩, ?_, by simp; omega, ?_⟩
    · have : maxLen ≤ 9223372036854775807 := by decide
      simp
      omega
    · intro j p hp
      simp only [List.getElem?_map, Option.map_eq_some_iff] at hp
      obtain ⟨i, hi, rfl⟩ := hp
      obtain ⟨hi1, hi2⟩ := List.getElem?_eq_some_iff.mp hi
      simp only [List.length_range] at hi1
      simp only [List.getElem_range] at hi2
      subst hi2
      exact (hY _ hi1).1
    · have := hz' _ List.mem_cons_self
      rw [hB, reach_eq] at this
      simp only [List.length_map, List.length_range] at this ⊢
      exact Nat.le_trans (Nat.mul_le_mul_right _ (Nat.le_add_right _ _)) this
    · intro x hx
      obtain ⟨i, hi, rfl⟩ := List.mem_map.mp hx
      exact (hY i (List.mem_range.mp hi)).2
theorem take_of_len {cs : List Value} {n : Nat} (h : cs.length = n) : cs.take n = cs := List.take_of_length_le (by omega)
theorem Opn_struct3 {α β γ : Type} {d0 : Kd α} {d1 : Kd β} {d2 : Kd γ} {Q0 : α → Prop} {Q1 : β → Prop} {Q2 : γ → Prop} {f0 f1 f2 : Field} (ht : P.underlying t = some (.struct #[f0, f1, f2])) (o0 : f0.offset = 0) (o1 : f1.offset = d0.sz) (o2 : f2.offset = d0.sz + d1.sz) (c0 : P.cellsOf f0.type = d0.sz) (c1 : P.cellsOf f1.type = d1.sz) (c2 : P.cellsOf f2.type = d2.sz) (ct : P.cellsOf t = d0.sz + d1.sz + d2.sz) (h0 : Opn P f0.type d0 Q0) (h1 : Opn P f1.type d1 Q1) (h2 : Opn P f2.type d2 Q2) :
    Opn P t (Kd.pair d0 (Kd.pair d1 d2)) (fun x => Q0 x.1 ∧ Q1 x.2.1 ∧ Q2 x.2.2) := by
  intro H enc w base held fuel cs x hx hz
  obtain ⟨y0, y1, y2, n, rfl, hl, g0, g1, g2⟩ := Go.Deep.trod_struct3 ht hx
  simp only [DataW.weights, ht, DataW.weightsEach, List.map_cons, List.map_nil] at hz
  obtain ⟨a, ha, qa⟩ := h0 H enc w base held n _ _ g0 (fun q hq => hz q (by simp [hq]))
  obtain ⟨b, hb, qb⟩ := h1 H enc w base held n _ _ g1 (fun q hq => hz q (by simp [hq]))
  obtain ⟨c, hc, qc⟩ := h2 H enc w base held n _ _ g2 (fun q hq => hz q (by simp [hq]))
  refine ⟨(a, b, c), ⟨_, _, ?_, ha, _, _, rfl, hb, hc⟩, qa, qb, qc⟩
  rw [o0, o1, o2, c0, c1, c2, List.drop_zero, take_of_len (show (cs.drop (d0.sz + d1.sz)).length = d2.sz by rw [List.length_drop]; omega), ← List.drop_drop, List.take_append_drop, List.take_append_drop]
end
end Go.Proofs.Ytobncomimkmoeaa.F
end
section
namespace Go.Proofs.Ytobncomimkmoeaa.F
open Go.RowKit Go.Proofs.YtobncomimkmoeaaW.PrintWords
/-- What is to be shown of numbers and lists. -/
def laws_FnExactEncode.Pure : Prop := ∀ (a0_0 : Int) (l0_1 : List (List (Int))) (l0_2 : List (List (Int))) (l1 : List (Int)), (((Lit.int .i64 a0_0).wf = true) ∧ (l0_1.length * 24 ≤ 140737488351232 ∧ l0_1.length ≤ maxLen ∧ ∀ yl0_1 ∈ l0_1, (yl0_1.length * 8 ≤ 140737488351232 ∧ yl0_1.length ≤ maxLen ∧ ∀ yyl0_1 ∈ yl0_1, ((Lit.int .i64 yyl0_1).wf = true))) ∧ (l0_2.length * 24 ≤ 140737488351232 ∧ l0_2.length ≤ maxLen ∧ ∀ yl0_2 ∈ l0_2, (yl0_2.length * 8 ≤ 140737488351232 ∧ yl0_2.length ≤ maxLen ∧ ∀ yyl0_2 ∈ yl0_2, ((Lit.int .i64 yyl0_2).wf = true)))) → ((l1.length * 8 ≤ 140737488351232 ∧ l1.length ≤ maxLen ∧ ∀ yl1 ∈ l1, ((Lit.int .i64 yl1).wf = true))) → ∃ k, laws_FnExactEncode.f k a0_0 l0_1 l0_2 l1 = some true
end Go.Proofs.Ytobncomimkmoeaa.F
end
section
/- What the laws' own helpers tell: equality, a copy, marks and whether they are held. -/
namespace Go.Proofs.Ytobncomimkmoeaa.F
open Go.RowKit Go.Proofs.YtobncomimkmoeaaW.PrintWords Go.Proofs.YtobncomimkmoeaaW.PrintLast Go.Proofs.YtobncomimkmoeaaW.PrintMore
set_option linter.unusedVariables false
set_option linter.unusedSimpArgs false
theorem eqIntS_at (rest : List Int) : ∀ (pre : List Int) (ys : List Int), (pre ++ ys).length ≤ 4611686018427387904 → rest.length = ys.length →
    Ev (fun k => laws_eqIntS.l0 k (pre ++ rest) (pre ++ ys) (pre.length : Int)) (decide (rest = ys)) := by
  induction rest with
  | nil =>
    intro pre ys hb hl
    obtain rfl : ys = [] := List.eq_nil_of_length_eq_zero hl.symm
    exact Ev.step (f := fun _ => some true) (fun k => by rw [laws_eqIntS.l0, if_neg (mid_nlt _)]) (Ev.now _)
  | cons x rest ih =>
    intro pre ys hb hl
    cases ys with
    | nil => simp at hl
    | cons y ys =>
      by_cases e : x = y
      · subst e
        have h := ih (pre ++ [x]) ys (by simpa using hb) (by simpa using hl)
        rw [← mid_cons, ← mid_cons] at h
        rw [show decide (x :: rest = x :: ys) = decide (rest = ys) by simp]
        exact Ev.step (fun k => by rw [laws_eqIntS.l0, if_pos (mid_lt _ _ _), if_pos (nn _), if_pos (mid_lt _ _ _), mid_rd, mid_rd, if_pos rfl, mid_succ pre x (by simp at hb; omega)]) h
      · rw [show decide (x :: rest = y :: ys) = false by simp [e]]
        exact Ev.step (f := fun _ => some false) (fun k => by rw [laws_eqIntS.l0, if_pos (mid_lt _ _ _), if_pos (nn _), if_pos (mid_lt _ _ _), mid_rd, mid_rd, if_neg e]) (Ev.now _)
theorem eqIntS_ev (l m : List Int) (hl : l.length ≤ 4611686018427387904) : Ev (fun k => laws_eqIntS.f k l m) (decide (l = m)) := by
  unfold laws_eqIntS.f
  by_cases e : (l.length : Int) = (m.length : Int)
  · have h := eqIntS_at l [] m (by simp; omega) (by omega)
    simpa [e] using h
  · have e2 : ¬ l = m := fun h => e (by rw [h])
    simp only [if_neg e, e2, decide_false]
    exact Ev.now _
theorem eqIntS_same (l : List Int) (hl : l.length ≤ 4611686018427387904) : Ev (fun k => laws_eqIntS.f k l l) true := by
  have := eqIntS_ev l l hl
  simpa using this
theorem toIntS_at (rest : List Int) : ∀ (pre zs : List Int), (pre ++ rest).length ≤ 4611686018427387904 → zs.length = rest.length →
    Ev (fun k => laws_toIntS.l0 k (pre ++ rest) (pre ++ zs) (pre.length : Int)) (pre ++ rest) := by
  induction rest with
  | nil =>
    intro pre zs hb hl
    obtain rfl : zs = [] := List.eq_nil_of_length_eq_zero hl
    exact Ev.step (f := fun _ => some (pre ++ [])) (fun k => by rw [laws_toIntS.l0, if_neg (mid_nlt _)]) (Ev.now _)
  | cons x rest ih =>
    intro pre zs hb hl
    cases zs with
    | nil => simp at hl
    | cons z zs =>
      have h := ih (pre ++ [x]) zs (by simpa using hb) (by simpa using hl)
      rw [← mid_cons] at h
      exact Ev.step (fun k => by rw [laws_toIntS.l0, if_pos (mid_lt _ _ _), if_pos (nn _), if_pos (mid_lt _ _ _), mid_rd, mid_set, mid_succ pre x (by simp at hb; omega)]) h
theorem toIntS_ev (l : List Int) (hl : l.length ≤ 35184372088832) : Ev (fun k => laws_toIntS.f k l) l := by
  unfold laws_toIntS.f
  have h := toIntS_at l [] (List.replicate l.length 0) (by simp; omega) (by simp)
  have e2 : (0 : Int) ≤ (l.length : Int) := nn _
  simpa [hl] using h
theorem markIntS_at (rest : List Int) : ∀ (pre : List Int) (a : Int), (pre ++ rest).length ≤ 4611686018427387904 → 0 ≤ a → a + rest.length ≤ 4611686018427387904 →
    Ev (fun k => laws_markIntS.l0 k (pre ++ rest) a (pre.length : Int)) (a + rest.length, pre ++ seqFrom a rest.length) := by
  induction rest with
  | nil =>
    intro pre a hb h0 h1
    refine Ev.step (f := fun _ => some (a + 0, pre ++ [])) (fun k => ?_) ?_
    · rw [laws_markIntS.l0, if_neg (mid_nlt _)]
      simp
    · simpa [seqFrom] using Ev.now _
  | cons x rest ih =>
    intro pre a hb h0 h1
    have h := ih (pre ++ [a]) (a + 1) (by simpa using hb) (by omega) (by simp at h1; omega)
    have e : (a + ((x :: rest).length : Int), pre ++ seqFrom a (x :: rest).length) = (a + 1 + (rest.length : Int), pre ++ [a] ++ seqFrom (a + 1) rest.length) := by
      simp [seqFrom]
      omega
    rw [e]
    exact Ev.step (fun k => by rw [laws_markIntS.l0, if_pos (mid_lt _ _ _), if_pos (nn _), mid_set, w64_id (by omega) (by simp at h1; omega), mid_succ pre a (by simp at hb; omega)]) h
theorem markIntS_ev (l : List Int) (a : Int) (hl : l.length ≤ 1152921504606846976) (h0 : 0 ≤ a) (h1 : a ≤ 1152921504606846976) : Ev (fun k => laws_markIntS.f k l a) (a + l.length, seqFrom a l.length) := by
  unfold laws_markIntS.f
  have h := markIntS_at l [] a (by simp; omega) h0 (by omega)
  simpa using h
theorem heldIntS_at (n : Nat) : ∀ (pre : List Int) (a : Int), (pre ++ seqFrom a n).length ≤ 4611686018427387904 → 0 ≤ a → a + n ≤ 4611686018427387904 →
    Ev (fun k => laws_heldIntS.l0 k (pre ++ seqFrom a n) a (pre.length : Int)) (a + n) := by
  induction n with
  | zero =>
    intro pre a hb h0 h1
    refine Ev.step (f := fun _ => some (a + 0)) (fun k => ?_) ?_
    · show laws_heldIntS.l0 (k + 1) (pre ++ []) a _ = _
      rw [laws_heldIntS.l0, if_neg (mid_nlt _)]
      simp
    · simpa using Ev.now _
  | succ n ih =>
    intro pre a hb h0 h1
    have h := ih (pre ++ [a]) (a + 1) (by simpa [seqFrom] using hb) (by omega) (by omega)
    rw [← mid_cons] at h
    have e : a + ((n + 1 : Nat) : Int) = a + 1 + (n : Int) := by omega
    rw [e]
    refine Ev.step (fun k => ?_) h
    show laws_heldIntS.l0 (k + 1) (pre ++ a :: seqFrom (a + 1) n) a _ = _
    rw [laws_heldIntS.l0, if_pos (mid_lt _ _ _), if_pos (nn _), mid_rd, if_pos rfl, w64_id (by omega) (by omega), mid_succ pre a (by simp at hb; omega)]
theorem heldIntS_ev (n : Nat) (a : Int) (hl : n ≤ 1152921504606846976) (h0 : 0 ≤ a) (h1 : a ≤ 1152921504606846976) : Ev (fun k => laws_heldIntS.f k (seqFrom a n) a) (a + n) := by
  unfold laws_heldIntS.f
  have h := heldIntS_at n [] a (by simp [seqFrom_length]; omega) h0 (by omega)
  simpa using h
end Go.Proofs.Ytobncomimkmoeaa.F
end
section
/- The length of all lists together. -/
namespace Go.Proofs.Ytobncomimkmoeaa.F
open Go.RowKit Go.Proofs.YtobncomimkmoeaaW.PrintWords Go.Proofs.YtobncomimkmoeaaW.PrintLast Go.Proofs.YtobncomimkmoeaaW.PrintMore
set_option linter.unusedVariables false
set_option linter.unusedSimpArgs false
def total (l : List (List Int)) : Nat := (l.map List.length).sum
theorem total_cons (x : List Int) (l : List (List Int)) : total (x :: l) = x.length + total l := by simp [total]
end Go.Proofs.Ytobncomimkmoeaa.F
end
section
/- The laws' helpers on lists of lists. -/
namespace Go.Proofs.Ytobncomimkmoeaa.F
open Go.RowKit Go.Proofs.YtobncomimkmoeaaW.PrintWords Go.Proofs.YtobncomimkmoeaaW.PrintLast Go.Proofs.YtobncomimkmoeaaW.PrintMore
set_option linter.unusedVariables false
set_option linter.unusedSimpArgs false
theorem mid_rdL (pre : List (List Int)) (x : List Int) (rest : List (List Int)) : (pre ++ x :: rest).getD ((pre.length : Int)).toNat [] = x := by simp
theorem mid_rdL1 (pre : List (List Int)) (x : List Int) (rest : List (List Int)) : rd_L1 (pre ++ x :: rest) (pre.length : Int) = x := by
  unfold rd_L1
  first | exact mid_rdL pre x rest | simp [rdOf]
theorem eqIntSS_at (rest : List (List Int)) : ∀ (pre : List (List Int)), (pre ++ rest).length ≤ 4611686018427387904 → (∀ x ∈ rest, x.length ≤ 4611686018427387904) →
    Ev (fun k => laws_eqIntSS.l0 k (pre ++ rest) (pre ++ rest) (pre.length : Int)) true := by
  induction rest with
  | nil =>
    intro pre hb hx
    exact Ev.step (f := fun _ => some true) (fun k => by rw [laws_eqIntSS.l0, if_neg (mid_nlt _)]) (Ev.now _)
  | cons x rest ih =>
    intro pre hb hx
    have h := ih (pre ++ [x]) (by simpa using hb) (fun y hy => hx y (by simp [hy]))
    rw [← mid_cons, ← mid_succ pre x (by simp at hb; omega)] at h
    refine Ev.stepb (eqIntS_same x (hx x (by simp))) (fun k => by rw [laws_eqIntSS.l0, if_pos (mid_lt _ _ _), if_pos (nn _), if_pos (mid_lt _ _ _), mid_rdL1]) ?_
    simp only [if_true]
    exact h
theorem eqIntSS_same (l : List (List Int)) (hb : l.length ≤ 4611686018427387904) (hx : ∀ x ∈ l, x.length ≤ 4611686018427387904) : Ev (fun k => laws_eqIntSS.f k l l) true := by
  unfold laws_eqIntSS.f
  simp only [if_true]
  exact eqIntSS_at l [] hb hx
end Go.Proofs.Ytobncomimkmoeaa.F
end
section
/- The laws' size check of a list. -/
namespace Go.Proofs.Ytobncomimkmoeaa.F
open Go.RowKit Go.Proofs.YtobncomimkmoeaaW.PrintWords Go.Proofs.YtobncomimkmoeaaW.PrintLast Go.Proofs.YtobncomimkmoeaaW.PrintMore
set_option linter.unusedVariables false
set_option linter.unusedSimpArgs false
theorem szIntS_eq (x : List Int) (a : Int) (h0 : 0 ≤ a) (h1 : a ≤ 1152921504606846976) (hx : x.length ≤ 1152921504606846976) : laws_szIntS.f x a = some (if a - x.length < 0 then -1 else a - x.length) := by
  unfold laws_szIntS.f
  rw [w64_id (by omega) (by omega)]
  split <;> rfl
end Go.Proofs.Ytobncomimkmoeaa.F
end
section
/- The laws' size check and copy of lists of lists. -/
namespace Go.Proofs.Ytobncomimkmoeaa.F
open Go.RowKit Go.Proofs.YtobncomimkmoeaaW.PrintWords Go.Proofs.YtobncomimkmoeaaW.PrintLast Go.Proofs.YtobncomimkmoeaaW.PrintMore
set_option linter.unusedVariables false
set_option linter.unusedSimpArgs false
theorem toIntSS_at (rest : List (List Int)) : ∀ (pre zs : List (List Int)), (pre ++ rest).length ≤ 4611686018427387904 → zs.length = rest.length → (∀ x ∈ rest, x.length ≤ 35184372088832) →
    Ev (fun k => laws_toIntSS.l0 k (pre ++ rest) (pre ++ zs) (pre.length : Int)) (pre ++ rest) := by
  induction rest with
  | nil =>
    intro pre zs hb hz hx
    obtain rfl : zs = [] := List.eq_nil_of_length_eq_zero hz
    refine Ev.step (f := fun _ => some (pre ++ [])) (fun k => ?_) (Ev.now _)
    show laws_toIntSS.l0 (k + 1) _ _ _ = _
    rw [laws_toIntSS.l0, if_neg (mid_nlt _)]
  | cons x rest ih =>
    intro pre zs hb hz hx
    cases zs with
    | nil => simp at hz
    | cons z zs =>
      have h := ih (pre ++ [x]) zs (by simpa using hb) (by simpa using hz) (fun y hy => hx y (by simp [hy]))
      rw [← mid_cons, ← mid_succ pre x (by simp at hb; omega)] at h
      refine Ev.stepb (toIntS_ev x (hx x (by simp))) (fun k => by rw [laws_toIntSS.l0, if_pos (mid_lt _ _ _), if_pos (nn _), mid_rdL1]) ?_
      simp only [mid_lt, if_true, mid_set]
      exact h
theorem toIntSS_ev (l : List (List Int)) (hb : l.length ≤ 11728124029610) (hx : ∀ x ∈ l, x.length ≤ 35184372088832) : Ev (fun k => laws_toIntSS.f k l) l := by
  unfold laws_toIntSS.f
  simp only [if_pos (nn l.length), Int.toNat_natCast, if_pos hb]
  exact toIntSS_at l [] (List.replicate l.length []) (by simp; omega) (by simp) hx
theorem total_mem (l : List (List Int)) : ∀ x ∈ l, x.length ≤ total l := by
  induction l with
  | nil => intro x hx; simp at hx
  | cons y l ih =>
    intro x hx
    rw [total_cons]
    rcases List.mem_cons.mp hx with rfl | hx
    · omega
    · have := ih x hx
      omega
end Go.Proofs.Ytobncomimkmoeaa.F
end
section
/- HandsOf: both functions make the same hands, each of the wanted size. -/
namespace Go.Proofs.Ytobncomimkmoeaa.F
open Go.RowKit Go.Proofs.YtobncomimkmoeaaW.PrintWords Go.Proofs.YtobncomimkmoeaaW.PrintLast Go.Proofs.YtobncomimkmoeaaW.PrintMore
set_option linter.unusedVariables false
set_option linter.unusedSimpArgs false
def handsC (n m : Int) : Bool := match spec_HandsOf.f 500 n m, impl_HandsOf.f 500 n m with
  | some a, some b => decide (a = b) && (decide (a.length ≤ 70) && a.all fun x => decide ((x.length : Int) = m))
  | _, _ => false
theorem hands_both (n m : Int) (h0 : 1 ≤ n) (h1 : n ≤ 8) (m0 : 1 ≤ m) (m1 : m ≤ 8) : ∃ r : List (List Int), Ev (fun k => spec_HandsOf.f k n m) r ∧ Ev (fun k => impl_HandsOf.f k n m) r ∧ r.length ≤ 70 ∧ ∀ x ∈ r, (x.length : Int) = m := by
  have h : handsC n m = true := by
    obtain ⟨n, rfl⟩ := Int.eq_ofNat_of_zero_le (show 0 ≤ n by omega)
    obtain ⟨m, rfl⟩ := Int.eq_ofNat_of_zero_le (show 0 ≤ m by omega)
    have key : ∀ n : Fin 9, ∀ m : Fin 9, 1 ≤ n.1 → 1 ≤ m.1 → handsC (n.1 : Int) (m.1 : Int) = true := by decide +kernel
    exact key ⟨n, by omega⟩ ⟨m, by omega⟩ (by simp; omega) (by simp; omega)
  unfold handsC at h
  split at h
  · rename_i a b h2 h3
    simp only [Bool.and_eq_true, decide_eq_true_eq, List.all_eq_true] at h
    obtain ⟨rfl, h4, h5⟩ := h
    exact ⟨a, Ev.of (spec_HandsOf.mono _ _) h2, Ev.of (impl_HandsOf.mono _ _) h3, h4, h5⟩
  · cases h
end Go.Proofs.Ytobncomimkmoeaa.F
end
section
/- SortPackets of the program: sorted, each list once. -/
namespace Go.Proofs.Ytobncomimkmoeaa.F
open Go.RowKit Go.Proofs.YtobncomimkmoeaaW.PrintWords Go.Proofs.YtobncomimkmoeaaW.PrintLast Go.Proofs.YtobncomimkmoeaaW.PrintMore
set_option linter.unusedVariables false
set_option linter.unusedSimpArgs false
theorem rdLLs (pre : List (List Int)) (x : List Int) (rest : List (List Int)) : rd_L1 (pre ++ x :: rest) (pre.length : Int) = x := by
  unfold rd_L1
  simp
theorem sortPk_at (rest : List (List Int)) : ∀ (pre : List (List Int)), (pre ++ rest).length < 5864062014805 → (∀ x ∈ rest, x.length < 17592186044416) →
    Ev (fun k => impl_SortPackets.l0 k pre (pre ++ rest) ((pre ++ rest).length : Int) (pre.length : Int)) (sortP (pre ++ rest)) := by
  induction rest with
  | nil =>
    intro pre hb hx
    refine Ev.step (f := fun _ => some (sortP (pre ++ []))) (fun k => ?_) (Ev.now _)
    show impl_SortPackets.l0 (k + 1) _ _ _ _ = _
    rw [List.append_nil] at hb ⊢
    rw [impl_SortPackets.l0, if_neg (by omega), if_pos (by omega)]
  | cons x rest ih =>
    intro pre hb hx
    have h := ih (pre ++ [x]) (by simpa using hb) (fun y hy => hx y (by simp [hy]))
    have hp : pre.length < 5864062014805 := by simp at hb; omega
    have hc : slices_Clone_Lint_int.f x = some x := by
      unfold slices_Clone_Lint_int.f
      rw [if_pos (hx x (by simp))]
    rw [← mid_cons, ← mid_succ pre x (by omega)] at h
    refine Ev.step (fun k => ?_) h
    show impl_SortPackets.l0 (k + 1) _ _ _ _ = _
    rw [impl_SortPackets.l0, if_pos (mid_lt _ _ _), if_pos (nn _), if_pos (mid_lt _ _ _), rdLLs, hc, Option.bind_some, if_pos hp]
theorem sortPk_ev (l : List (List Int)) (hb : l.length < 5864062014805) (hx : ∀ x ∈ l, x.length < 17592186044416) : Ev (fun k => impl_SortPackets.f k l) (sortP l) := sortPk_at l [] hb hx
end Go.Proofs.Ytobncomimkmoeaa.F
end
section
/- The reference's equality of packets. -/
namespace Go.Proofs.Ytobncomimkmoeaa.F
open Go.RowKit Go.Proofs.YtobncomimkmoeaaW.PrintWords Go.Proofs.YtobncomimkmoeaaW.PrintLast Go.Proofs.YtobncomimkmoeaaW.PrintMore
set_option linter.unusedVariables false
set_option linter.unusedSimpArgs false
theorem same_at (rest : List Int) : ∀ (pre ys : List Int), (pre ++ ys).length ≤ 4611686018427387904 → rest.length = ys.length →
    Ev (fun k => spec_SamePacket.l0 k (pre ++ ys) (pre ++ rest) ((pre ++ rest).length : Int) (pre.length : Int)) (decide (rest = ys)) := by
  induction rest with
  | nil =>
    intro pre ys hb hl
    obtain rfl : ys = [] := List.length_eq_zero_iff.mp hl.symm
    exact Ev.step (f := fun _ => some true) (fun k => by rw [spec_SamePacket.l0, if_neg (mid_nlt _)]) (Ev.now _)
  | cons x rest ih =>
    intro pre ys hb hl
    cases ys with
    | nil => simp at hl
    | cons y ys =>
      by_cases e : x = y
      · subst e
        have h := ih (pre ++ [x]) ys (by simpa using hb) (by simpa using hl)
        rw [← mid_cons, ← mid_cons, ← mid_succ pre x (by simp at hb; omega)] at h
        rw [show decide (x :: rest = x :: ys) = decide (rest = ys) by simp]
        exact Ev.step (fun k => by rw [spec_SamePacket.l0, if_pos (mid_lt _ _ _), if_pos (nn _), if_pos (mid_lt _ _ _), if_pos (mid_lt _ _ _), mid_rd, mid_rd, if_pos rfl]) h
      · rw [show decide (x :: rest = y :: ys) = false by simp [e]]
        exact Ev.step (f := fun _ => some false) (fun k => by rw [spec_SamePacket.l0, if_pos (mid_lt _ _ _), if_pos (nn _), if_pos (mid_lt _ _ _), if_pos (mid_lt _ _ _), mid_rd, mid_rd, if_neg e]) (Ev.now _)
theorem same_ev (l m : List Int) (hl : l.length ≤ 4611686018427387904) : Ev (fun k => spec_SamePacket.f k l m) (decide (l = m)) := by
  unfold spec_SamePacket.f
  by_cases e : (l.length : Int) = (m.length : Int)
  · simp only [if_pos e]
    exact same_at l [] m (by simp; omega) (by omega)
  · simp only [if_neg e]
    rw [show decide (l = m) = false from decide_eq_false (fun h => e (by rw [h]))]
    exact Ev.now _
end Go.Proofs.Ytobncomimkmoeaa.F
end
section
/- The reference's look for a list among lists. -/
namespace Go.Proofs.Ytobncomimkmoeaa.F
open Go.RowKit Go.Proofs.YtobncomimkmoeaaW.PrintWords Go.Proofs.YtobncomimkmoeaaW.PrintLast Go.Proofs.YtobncomimkmoeaaW.PrintMore
set_option linter.unusedVariables false
set_option linter.unusedSimpArgs false
theorem rdLLf (pre : List (List Int)) (x : List Int) (rest : List (List Int)) : rd_L1 (pre ++ x :: rest) (pre.length : Int) = x := by
  unfold rd_L1
  simp
theorem find_at (y : List Int) (rest : List (List Int)) : ∀ (pre : List (List Int)), (pre ++ rest).length ≤ 4611686018427387904 → (∀ x ∈ rest, x.length ≤ 4611686018427387904) →
    Ev (fun k => spec_l05Find.l0 k y (pre ++ rest) ((pre ++ rest).length : Int) (pre.length : Int)) (decide (y ∈ rest)) := by
  induction rest with
  | nil =>
    intro pre hb hx
    refine Ev.step (f := fun _ => some false) (fun k => ?_) (by simpa using Ev.now false)
    show spec_l05Find.l0 (k + 1) _ _ _ _ = _
    rw [spec_l05Find.l0, if_neg (mid_nlt _)]
  | cons x rest ih =>
    intro pre hb hx
    have hs := same_ev x y (hx x (by simp))
    refine Ev.stepb hs (fun k => by rw [spec_l05Find.l0, if_pos (mid_lt _ _ _), if_pos (nn _), if_pos (mid_lt _ _ _), rdLLf]) ?_
    by_cases e : x = y
    · subst e
      simp only [decide_true, if_true, List.mem_cons, true_or]
      exact Ev.now _
    · have h := ih (pre ++ [x]) (by simpa using hb) (fun z hz => hx z (by simp [hz]))
      rw [← mid_cons, ← mid_succ pre x (by simp at hb; omega)] at h
      simp only [decide_eq_false e, Bool.false_eq_true, if_false]
      rw [show decide (y ∈ x :: rest) = decide (y ∈ rest) by simp [List.mem_cons, Ne.symm e]]
      exact h
theorem find_ev (l : List (List Int)) (y : List Int) (hb : l.length ≤ 4611686018427387904) (hx : ∀ x ∈ l, x.length ≤ 4611686018427387904) : Ev (fun k => spec_l05Find.f k l y) (decide (y ∈ l)) := find_at y l [] hb hx
end Go.Proofs.Ytobncomimkmoeaa.F
end
section
/- slices.Index and slices.Contains. -/
namespace Go.Proofs.Ytobncomimkmoeaa.F
open Go.RowKit Go.Proofs.YtobncomimkmoeaaW.PrintWords Go.Proofs.YtobncomimkmoeaaW.PrintLast Go.Proofs.YtobncomimkmoeaaW.PrintMore
set_option linter.unusedVariables false
set_option linter.unusedSimpArgs false
theorem index_at (x : Int) (rest : List Int) : ∀ (pre : List Int), (pre ++ rest).length ≤ 4611686018427387904 →
    ∃ i : Int, Ev (fun k => slices_Index_Lint_int.l0 k (pre ++ rest) x ((pre ++ rest).length : Int) (pre.length : Int)) i ∧ (decide (i ≥ 0) = rest.contains x) ∧ -1 ≤ i ∧ (rest.contains x = true → i < (pre ++ rest).length ∧ rd (pre ++ rest) i = x) := by
  induction rest with
  | nil =>
    intro pre hb
    exact ⟨-1, Ev.step (f := fun _ => some (-1)) (fun k => by rw [slices_Index_Lint_int.l0, if_neg (mid_nlt _)]) (Ev.now _), by simp, by omega, by simp⟩
  | cons y rest ih =>
    intro pre hb
    by_cases e : x = y
    · subst e
      exact ⟨pre.length, Ev.step (f := fun _ => some (pre.length : Int)) (fun k => by rw [slices_Index_Lint_int.l0, if_pos (mid_lt _ _ _), if_pos (nn _), if_pos (mid_lt _ _ _), mid_rd, if_pos rfl]) (Ev.now _), by simp, by omega, fun _ => ⟨mid_lt _ _ _, mid_rd _ _ _⟩⟩
    · obtain ⟨i, h, h1, h2, h3⟩ := ih (pre ++ [y]) (by simpa using hb)
      rw [← mid_cons] at h h3
      have hc : (y :: rest).contains x = rest.contains x := by simp only [List.contains_cons]; rw [show (x == y) = false by simpa using e]; rfl
      exact ⟨i, Ev.step (fun k => by rw [slices_Index_Lint_int.l0, if_pos (mid_lt _ _ _), if_pos (nn _), if_pos (mid_lt _ _ _), mid_rd, if_neg e, mid_succ pre y (by simp at hb; omega)]) h, by rw [hc]; exact h1, h2, by rw [hc]; exact h3⟩
theorem index_ev (l : List Int) (x : Int) (hb : l.length ≤ 4611686018427387904) : ∃ i : Int, Ev (fun k => slices_Index_Lint_int.f k l x) i ∧ (decide (i ≥ 0) = l.contains x) ∧ -1 ≤ i ∧ (l.contains x = true → i < l.length ∧ rd l i = x) := index_at x l [] hb
theorem contains_ev (l : List Int) (x : Int) (hb : l.length ≤ 4611686018427387904) : Ev (fun k => slices_Contains_Lint_int.f k l x) (l.contains x) := by
  obtain ⟨i, h, h1, _⟩ := index_ev l x hb
  unfold slices_Contains_Lint_int.f
  refine Ev.bind h ?_
  rw [h1]
  exact Ev.now _
end Go.Proofs.Ytobncomimkmoeaa.F
end
section
/- Cards, and when a list is a packet: the program's and the reference's functions tell one thing. -/
namespace Go.Proofs.Ytobncomimkmoeaa.F
open Go.RowKit Go.Proofs.YtobncomimkmoeaaW.PrintWords Go.Proofs.YtobncomimkmoeaaW.PrintLast Go.Proofs.YtobncomimkmoeaaW.PrintMore
set_option linter.unusedVariables false
set_option linter.unusedSimpArgs false
theorem l01In_eq (a b c : Int) : spec_l01In.f a b c = some (decide (b ≤ a ∧ a ≤ c)) := by
  unfold spec_l01In.f
  by_cases h : b ≤ a
  · simp [h]
  · simp [h]
theorem l02Has_at (x : Int) (rest : List Int) : ∀ (pre : List Int), (pre ++ rest).length ≤ 4611686018427387904 →
    Ev (fun k => spec_l02Has.l0 k x (pre ++ rest) ((pre ++ rest).length : Int) (pre.length : Int)) (rest.contains x) := by
  induction rest with
  | nil =>
    intro pre hb
    exact Ev.step (f := fun _ => some false) (fun k => by rw [spec_l02Has.l0, if_neg (mid_nlt _)]) (Ev.now _)
  | cons y rest ih =>
    intro pre hb
    by_cases e : y = x
    · subst e
      simp only [List.contains_cons, beq_self_eq_true, Bool.true_or]
      exact Ev.step (f := fun _ => some true) (fun k => by rw [spec_l02Has.l0, if_pos (mid_lt _ _ _), if_pos (nn _), if_pos (mid_lt _ _ _), mid_rd, if_pos rfl]) (Ev.now _)
    · have h := ih (pre ++ [y]) (by simpa using hb)
      rw [← mid_cons] at h
      rw [show (y :: rest).contains x = rest.contains x by simp only [List.contains_cons]; rw [show (x == y) = false by simpa using fun h => e h.symm]; rfl]
      exact Ev.step (fun k => by rw [spec_l02Has.l0, if_pos (mid_lt _ _ _), if_pos (nn _), if_pos (mid_lt _ _ _), mid_rd, if_neg e, mid_succ pre y (by simp at hb; omega)]) h
theorem l02Has_ev (l : List Int) (x : Int) (hb : l.length ≤ 4611686018427387904) : Ev (fun k => spec_l02Has.f k l x) (l.contains x) := l02Has_at x l [] hb
end Go.Proofs.Ytobncomimkmoeaa.F
end
section
/- Codes: the program's and the reference's check. -/
namespace Go.Proofs.Ytobncomimkmoeaa.F
open Go.RowKit Go.Proofs.YtobncomimkmoeaaW.PrintWords Go.Proofs.YtobncomimkmoeaaW.PrintLast Go.Proofs.YtobncomimkmoeaaW.PrintMore
set_option linter.unusedVariables false
set_option linter.unusedSimpArgs false
def msgM (hd : List Int) : List Int → List Int → Bool
  | _, [] => true
  | pre, x :: xs => hd.contains x && (!pre.contains x && msgM hd (pre ++ [x]) xs)
def msgB (sh hd : List Int) : Bool := msgM hd [] sh && decide ((sh.length : Int) = (hd.length : Int) - 1)
theorem mid_takeC (pre : List Int) (rest : List Int) : (pre ++ rest).take ((pre.length : Int)).toNat = pre := by simp
theorem impl_msg_at (hd : List Int) (hh : hd.length ≤ 1048576) (rest : List Int) : ∀ (pre : List Int), (pre ++ rest).length ≤ 1048576 →
    Ev (fun k => impl_isMessage.l0 k (pre ++ rest) hd (pre ++ rest) ((pre ++ rest).length : Int) (pre.length : Int)) (msgM hd pre rest && decide (((pre ++ rest).length : Int) = (hd.length : Int) - 1)) := by
  induction rest with
  | nil =>
    intro pre hb
    have hw : wrap64 ((hd.length : Int) - 1) = (hd.length : Int) - 1 := w64_id (by omega) (by omega)
    refine Ev.step (f := fun _ => some (((pre ++ []).length : Int) == (hd.length : Int) - 1)) (fun k => ?_) ?_
    · show impl_isMessage.l0 (k + 1) _ _ _ _ _ = _
      rw [impl_isMessage.l0, if_neg (mid_nlt _), hw]
    · have e : (((pre ++ []).length : Int) == (hd.length : Int) - 1) = (msgM hd pre [] && decide (((pre ++ []).length : Int) = (hd.length : Int) - 1)) := by
        rw [show msgM hd pre [] = true from rfl, Bool.true_and]; rfl
      rw [e]
      exact Ev.now _
  | cons x rest ih =>
    intro pre hb
    have hp : pre.length ≤ 1048576 := by simp at hb; omega
    refine Ev.stepb (contains_ev hd x (by omega)) (fun k => by rw [impl_isMessage.l0, if_pos (mid_lt _ _ _), if_pos (nn _), if_pos (mid_lt _ _ _), mid_rd]) ?_
    by_cases c : hd.contains x = true
    · simp only [c, if_true, if_pos (show (pre.length : Int) ≤ ((pre ++ x :: rest).length : Int) by simp; omega), mid_takeC, msgM, Bool.true_and]
      refine Ev.bind (contains_ev pre x (by omega)) ?_
      by_cases d : pre.contains x = true
      · simp only [d, if_true, Bool.not_true, Bool.false_and]
        exact Ev.now _
      · have d' : pre.contains x = false := by simpa using d
        have h := ih (pre ++ [x]) (by simpa using hb)
        rw [← mid_cons, ← mid_succ pre x (by omega)] at h
        simp only [d', Bool.false_eq_true, if_false, Bool.not_false, Bool.true_and]
        exact h
    · have c' : hd.contains x = false := by simpa using c
      simp only [c', Bool.false_eq_true, if_false, msgM, Bool.false_and]
      exact Ev.now _
theorem impl_msg_ev (sh hd : List Int) (h1 : sh.length ≤ 1048576) (h2 : hd.length ≤ 1048576) : Ev (fun k => impl_isMessage.f k sh hd) (msgB sh hd) := impl_msg_at hd h2 sh [] h1
theorem spec_msg_at (hd : List Int) (hh : hd.length ≤ 1048576) (rest : List Int) : ∀ (pre : List Int), (pre ++ rest).length ≤ 1048576 →
    Ev (fun k => spec_l12Shown.l0 k hd (pre ++ rest) (pre ++ rest) ((pre ++ rest).length : Int) (pre.length : Int)) (msgM hd pre rest) := by
  induction rest with
  | nil =>
    intro pre hb
    refine Ev.step (f := fun _ => some true) (fun k => ?_) (Ev.now _)
    show spec_l12Shown.l0 (k + 1) _ _ _ _ _ = _
    rw [spec_l12Shown.l0, if_neg (mid_nlt _)]
  | cons x rest ih =>
    intro pre hb
    have hp : pre.length ≤ 1048576 := by simp at hb; omega
    refine Ev.stepb (l02Has_ev hd x (by omega)) (fun k => by rw [spec_l12Shown.l0, if_pos (mid_lt _ _ _), if_pos (nn _), if_pos (mid_lt _ _ _), mid_rd]) ?_
    by_cases c : hd.contains x = true
    · simp only [c, if_true, if_pos (show (pre.length : Int) ≤ ((pre ++ x :: rest).length : Int) by simp; omega), mid_takeC, msgM, Bool.true_and]
      refine Ev.bind (l02Has_ev pre x (by omega)) ?_
      by_cases d : pre.contains x = true
      · simp only [d, if_true, Bool.not_true, Bool.false_and]
        exact Ev.now _
      · have d' : pre.contains x = false := by simpa using d
        have h := ih (pre ++ [x]) (by simpa using hb)
        rw [← mid_cons, ← mid_succ pre x (by omega)] at h
        simp only [d', Bool.false_eq_true, if_false, Bool.not_false, Bool.true_and]
        exact h
    · have c' : hd.contains x = false := by simpa using c
      simp only [c', Bool.false_eq_true, if_false, msgM, Bool.false_and]
      exact Ev.now _
theorem spec_msg_ev (sh hd : List Int) (h1 : sh.length ≤ 1048576) (h2 : hd.length ≤ 1048576) : Ev (fun k => spec_l12Shown.f k hd sh) (msgB sh hd) := by
  unfold spec_l12Shown.f msgB
  have hw : wrap64 ((hd.length : Int) - 1) = (hd.length : Int) - 1 := w64_id (by omega) (by omega)
  rw [hw]
  by_cases c : (sh.length : Int) = (hd.length : Int) - 1
  · simp only [if_pos c, decide_eq_true c, Bool.and_true]
    exact spec_msg_at hd h2 sh [] h1
  · simp only [if_neg c, decide_eq_false c, Bool.and_false]
    exact Ev.now _
/-- Each shown list is a message of its hand. -/
def allM : List (List Int) → List (List Int) → Bool
  | h :: hs, s :: ss => msgB s h && allM hs ss
  | _, _ => true
/-- .. and none was shown before. -/
def newM : List (List Int) → List (List Int) → Bool
  | _, [] => true
  | pre, s :: ss => !(decide (s ∈ pre)) && newM (pre ++ [s]) ss
theorem newM_nodup (ss : List (List Int)) : ∀ pre : List (List Int), pre.Nodup → newM pre ss = decide (pre ++ ss).Nodup := by
  induction ss with
  | nil => intro pre h; rw [List.append_nil, decide_eq_true h]; rfl
  | cons s ss ih =>
    intro pre h
    unfold newM
    by_cases c : s ∈ pre
    · rw [decide_eq_true c, Bool.not_true, Bool.false_and]
      symm
      apply decide_eq_false
      intro hn
      rw [List.nodup_append] at hn
      exact hn.2.2 s c s (by simp) rfl
    · rw [decide_eq_false c, Bool.not_false, Bool.true_and]
      have h2 : (pre ++ [s]).Nodup := by
        rw [List.nodup_append]
        exact ⟨h, by simp, fun a ha b hb => by rw [List.mem_singleton.1 hb]; intro e; exact c (e ▸ ha)⟩
      rw [ih _ h2]
      simp
theorem impl_code_at (d : Int) (hb0 : List (List Int) → Prop) (H S : List (List Int)) (hS : S.length ≤ 1048576) (hH : ∀ x ∈ H, x.length ≤ 1048576) (hSx : ∀ x ∈ S, x.length ≤ 1048576) (rest : List (List Int)) : ∀ (pre hp hr : List (List Int)), S = pre ++ rest → H = hp ++ hr → hp.length = pre.length → hr.length = rest.length →
    Ev (fun k => impl_CodeOk.l0 k S (S.length : Int) (pre.length : Int) d H S) (allM hr rest && decide S.Nodup) := by
  induction rest with
  | nil =>
    intro pre hp hr e1 e2 e3 e4
    have hs := sortPk_ev S (by omega) (fun x h => by have := hSx x h; omega)
    have hl : S.length = pre.length := by rw [e1]; simp
    refine Ev.stepb hs (fun k => by rw [impl_CodeOk.l0, if_neg (by omega)]) ?_
    have e : ((sortP S).length : Int) = (S.length : Int) ↔ S.Nodup := by
      rw [← sortP_length]
      omega
    rw [show (((sortP S).length : Int) == (S.length : Int)) = decide S.Nodup by rw [Bool.eq_iff_iff, beq_iff_eq, decide_eq_true_eq]; exact e]
    rw [show allM hr [] = true by cases hr <;> rfl, Bool.true_and]
    exact Ev.now _
  | cons s rest ih =>
    intro pre hp hr e1 e2 e3 e4
    cases hr with
    | nil => simp at e4
    | cons h hr =>
      have hpl : pre.length ≤ 1048576 := by rw [e1] at hS; simp at hS; omega
      have hlt : (pre.length : Int) < (S.length : Int) := by rw [e1]; exact mid_lt _ _ _
      have hlt2 : (pre.length : Int) < (H.length : Int) := by rw [e2]; simp; omega
      have hrs : rd_L1 S (pre.length : Int) = s := by rw [e1]; exact mid_rdL1 pre s rest
      have hrh : rd_L1 H (pre.length : Int) = h := by rw [e2, ← e3]; exact mid_rdL1 hp h hr
      have hm := impl_msg_ev s h (hSx s (by rw [e1]; simp)) (hH h (by rw [e2]; simp))
      refine Ev.stepb hm (fun k => by rw [impl_CodeOk.l0, if_pos hlt, if_pos (nn _), if_pos hlt, if_pos hlt2, hrs, hrh]) ?_
      unfold allM
      by_cases c : msgB s h = true
      · simp only [c, if_true, Bool.true_and]
        have h2 := ih (pre ++ [s]) (hp ++ [h]) hr (by rw [e1]; simp) (by rw [e2]; simp) (by simp [e3]) (by simpa using e4)
        rw [← mid_succ pre s (by omega)] at h2
        exact h2
      · have c' : msgB s h = false := by simpa using c
        simp only [c', Bool.false_eq_true, if_false, Bool.false_and]
        exact Ev.now _
theorem spec_code_at (d : Int) (R H S : List (List Int)) (hS : S.length ≤ 1048576) (hH : ∀ x ∈ R, x.length ≤ 1048576) (hH2 : ∀ x ∈ H, x.length ≤ 1048576) (hSx : ∀ x ∈ S, x.length ≤ 1048576) (rest : List (List Int)) : ∀ (pre rp rr hp hr : List (List Int)), S = pre ++ rest → R = rp ++ rr → rp.length = pre.length → rr.length = rest.length → H = hp ++ hr → hp.length = pre.length → hr.length = rest.length →
    Ev (fun k => spec_CodeOk.l0 k R (R.length : Int) (pre.length : Int) d H S) (decide (rr = hr) && (allM hr rest && newM pre rest)) := by
  induction rest with
  | nil =>
    intro pre rp rr hp hr e1 e2 e3 e4 e5 e6 e7
    obtain rfl : rr = [] := List.eq_nil_of_length_eq_zero e4
    obtain rfl : hr = [] := List.eq_nil_of_length_eq_zero e7
    have hl : R.length = pre.length := by rw [e2]; simp [e3]
    refine Ev.step (f := fun _ => some true) (fun k => ?_) ?_
    · show spec_CodeOk.l0 (k + 1) _ _ _ _ _ _ = _
      rw [spec_CodeOk.l0, if_neg (by omega)]
    · exact Ev.now _
  | cons s rest ih =>
    intro pre rp rr hp hr e1 e2 e3 e4 e5 e6 e7
    cases hr with
    | nil => simp at e7
    | cons h hr =>
      cases rr with
      | nil => simp at e4
      | cons r rr =>
        have hpl : pre.length ≤ 1048576 := by rw [e1] at hS; simp at hS; omega
        have hlt : (pre.length : Int) < (S.length : Int) := by rw [e1]; exact mid_lt _ _ _
        have hlt2 : (pre.length : Int) < (H.length : Int) := by rw [e5]; simp; omega
        have hlt3 : (pre.length : Int) < (R.length : Int) := by rw [e2]; simp; omega
        have hrs : rd_L1 S (pre.length : Int) = s := by rw [e1]; exact mid_rdL1 pre s rest
        have hrh : rd_L1 H (pre.length : Int) = h := by rw [e5, ← e6]; exact mid_rdL1 hp h hr
        have hrr : rd_L1 R (pre.length : Int) = r := by rw [e2, ← e3]; exact mid_rdL1 rp r rr
        have htk : S.take ((pre.length : Int)).toNat = pre := by rw [e1]; simp
        have hr1 := hH r (by rw [e2]; simp)
        have hs1 := hSx s (by rw [e1]; simp)
        have hE := same_ev r h (by omega)
        refine Ev.stepb hE (fun k => by rw [spec_CodeOk.l0, if_pos hlt3, if_pos (nn _), if_pos hlt3, if_pos hlt2, hrr, hrh]) ?_
        by_cases c : r = h
        · subst c
          have hm := spec_msg_ev s r hs1 hr1
          simp only [decide_true, if_true, if_pos hlt, hrs]
          refine Ev.bind hm ?_
          unfold allM newM
          by_cases c2 : msgB s r = true
          · simp only [c2, if_true, if_pos (show (pre.length : Int) ≤ (S.length : Int) by omega), htk, Bool.true_and]
            refine Ev.bind (find_ev pre s (by omega) (fun x hx => by have := hSx x (by rw [e1]; simp [hx]); omega)) ?_
            by_cases c3 : s ∈ pre
            · simp only [decide_eq_true c3, if_true, Bool.not_true, Bool.false_and, Bool.and_false]
              exact Ev.now _
            · simp only [decide_eq_false c3, Bool.false_eq_true, if_false, Bool.not_false, Bool.true_and]
              have h2 := ih (pre ++ [s]) (rp ++ [r]) rr (hp ++ [r]) hr (by rw [e1]; simp) (by rw [e2]; simp) (by simp [e3]) (by simpa using e4) (by rw [e5]; simp) (by simp [e6]) (by simpa using e7)
              rw [← mid_succ pre s (by omega)] at h2
              rw [show decide (r :: rr = r :: hr) = decide (rr = hr) by simp]
              exact h2
          · have c' : msgB s r = false := by simpa using c2
            simp only [c', Bool.false_eq_true, if_false, Bool.false_and, Bool.and_false]
            exact Ev.now _
        · rw [show decide (r :: rr = h :: hr) = false by simp [c]]
          simp only [decide_eq_false c, Bool.false_eq_true, if_false, Bool.false_and]
          exact Ev.now _
/-- Both checks answer the same. -/
theorem code_both (d : Int) (H S : List (List Int)) (hHl : H.length ≤ 1048576) (hS : S.length ≤ 1048576) (hH : ∀ x ∈ H, x.length ≤ 1048576) (hSx : ∀ x ∈ S, x.length ≤ 1048576) : ∃ b, Ev (fun k => spec_CodeOk.f k d H S) b ∧ Ev (fun k => impl_CodeOk.f k d H S) b ∧ (b = true → H.length = S.length) := by
  have js : Ev (fun k => spec_CodeOk.j0 k true d H S) false := Ev.at_ 1 (fun k hk => by obtain ⟨m, rfl⟩ := Nat.exists_eq_add_of_le' hk; rfl)
  have ji : Ev (fun k => impl_CodeOk.j0 k true d H S) false := Ev.at_ 1 (fun k hk => by obtain ⟨m, rfl⟩ := Nat.exists_eq_add_of_le' hk; rfl)
  have j1 : Ev (fun k => impl_CodeOk.j1 k true d H S) false := Ev.at_ 1 (fun k hk => by obtain ⟨m, rfl⟩ := Nat.exists_eq_add_of_le' hk; rfl)
  have rd0 : rd_L1 H 0 = H.getD 0 [] := by
    unfold rd_L1
    rfl
  unfold spec_CodeOk.f impl_CodeOk.f
  simp only [l01In_eq, Option.bind_some]
  by_cases c1 : 1 ≤ d ∧ d ≤ 8
  · simp only [decide_eq_true c1, if_true, if_neg (show ¬ d < 1 by omega), if_neg (show ¬ d > 8 by omega)]
    by_cases c2 : (H.length : Int) = 0
    · simp only [if_pos c2]
      exact ⟨false, js, ji, by simp⟩
    · simp only [if_neg c2]
      have hpos : 0 < H.length := by omega
      by_cases c3 : (S.length : Int) = (H.length : Int)
      · have e3 : ((H.length : Int) != (S.length : Int)) = false := bne_eq_false_iff_eq.mpr c3.symm
        simp only [if_pos c3, e3, if_pos (show 0 < (H.length : Int) by omega), rd0]
        have h0m : H.getD 0 [] ∈ H := by rw [List.getD_eq_getElem?_getD, List.getElem?_eq_getElem hpos]; exact List.getElem_mem hpos
        have hmn : mn d 4 = min d 4 := by unfold mn; omega
        obtain ⟨K, hK⟩ : ∃ K : Int, K = ((H.getD 0 []).length : Int) := ⟨_, rfl⟩
        rw [← hK, hmn]
        by_cases c4 : 1 ≤ K ∧ K ≤ 4
        · obtain ⟨R, s1, i1, hR1, hR2⟩ := hands_both d K (by omega) (by omega) (by omega) (by omega)
          have hRx : ∀ x ∈ R, x.length ≤ 1048576 := fun x hx => by have := hR2 x hx; omega
          have hi : Ev (fun k => impl_CodeOk.j0 k false d H S) (decide (H = R) && (allM H S && decide S.Nodup)) := by
            refine Ev.stepb i1 (fun k => by rw [impl_CodeOk.j0, if_neg (by simp), if_pos (by omega), rd0, ← hK, if_neg (by omega), if_neg (by omega)]) ?_
            simp only [slices_EqualFunc_LLint_LLint_Lint_Lint__slices_Equal_Lint_int.f, Option.bind_some]
            by_cases c5 : H = R
            · simp only [decide_eq_true c5, Bool.not_true, Bool.true_and]
              refine Ev.step (fun k => ?_) (impl_code_at d (fun _ => True) H S hS hH hSx S [] [] H rfl rfl rfl (by omega))
              show impl_CodeOk.j1 (k + 1) false d H S = _
              rw [impl_CodeOk.j1, if_neg (by simp)]
              rfl
            · simp only [decide_eq_false c5, Bool.not_false, Bool.false_and]
              exact j1
          refine ⟨_, ?_, hi, fun _ => by omega⟩
          by_cases c6 : K ≤ d
          · rw [show (!(decide (1 ≤ K ∧ K ≤ min d 4))) = false by rw [decide_eq_true (by omega)]; rfl]
            refine Ev.stepb s1 (fun k => by rw [spec_CodeOk.j0, if_neg (by simp), if_pos (by omega), rd0, ← hK]) ?_
            by_cases c7 : (R.length : Int) = (H.length : Int)
            · simp only [if_pos c7]
              have := spec_code_at d R H S hS hRx hH hSx S [] [] R [] H rfl rfl rfl (by omega) rfl rfl (by omega)
              rw [newM_nodup S [] List.nodup_nil, List.nil_append] at this
              rw [show decide (H = R) = decide (R = H) by rw [decide_eq_decide]; exact eq_comm]
              exact this
            · simp only [if_neg c7]
              rw [show decide (H = R) = false from decide_eq_false (fun e => c7 (by rw [e])), Bool.false_and]
              exact Ev.now _
          · rw [show (!(decide (1 ≤ K ∧ K ≤ min d 4))) = true by rw [decide_eq_false (by omega)]; rfl]
            have hRn : H ≠ R := by
              intro e
              have hh : impl_HandsOf.f 500 d K = some [] := by
                unfold impl_HandsOf.f
                simp only [if_neg (show ¬ d < 1 by omega), if_neg (show ¬ d > 8 by omega), if_neg (show ¬ K < 1 by omega), if_pos (show K > d by omega), decide_eq_true (show K > d by omega)]
                try rfl
              have := Ev.uniq i1 (Ev.of (impl_HandsOf.mono _ _) hh)
              rw [this] at e
              rw [e] at hpos
              simp at hpos
            rw [decide_eq_false hRn, Bool.false_and]
            exact js
        · rw [show (!(decide (1 ≤ K ∧ K ≤ min d 4))) = true by rw [decide_eq_false (by omega)]; rfl]
          refine ⟨false, js, ?_, by simp⟩
          by_cases c5 : K < 1
          · refine Ev.step (fun k => ?_) j1
            show impl_CodeOk.j0 (k + 1) false d H S = _
            rw [impl_CodeOk.j0, if_neg (by simp), if_pos (by omega), rd0, ← hK, if_pos c5]
          · refine Ev.step (fun k => ?_) j1
            show impl_CodeOk.j0 (k + 1) false d H S = _
            rw [impl_CodeOk.j0, if_neg (by simp), if_pos (by omega), rd0, ← hK, if_neg c5, if_pos (by omega)]
      · have e3 : ((H.length : Int) != (S.length : Int)) = true := bne_iff_ne.mpr (fun e => c3 e.symm)
        simp only [if_neg c3, e3]
        exact ⟨false, js, ji, by simp⟩
  · simp only [decide_eq_false c1, Bool.false_eq_true, if_false]
    by_cases c2 : d < 1
    · simp only [if_pos c2]
      exact ⟨false, js, ji, by simp⟩
    · simp only [if_neg c2, if_pos (show d > 8 by omega)]
      exact ⟨false, js, ji, by simp⟩
end Go.Proofs.Ytobncomimkmoeaa.F
end
section
/- The laws' helpers on codes. -/
namespace Go.Proofs.Ytobncomimkmoeaa.F
open Go.RowKit Go.Proofs.YtobncomimkmoeaaW.PrintWords Go.Proofs.YtobncomimkmoeaaW.PrintLast Go.Proofs.YtobncomimkmoeaaW.PrintMore
set_option linter.unusedVariables false
set_option linter.unusedSimpArgs false
theorem szSS2_at (rest : List (List Int)) : ∀ (pre : List (List Int)) (a : Int), (pre ++ rest).length ≤ 1152921504606846976 → 0 ≤ a → a ≤ 1152921504606846976 → (∀ x ∈ rest, x.length ≤ 1152921504606846976) →
    ∃ r : Int, Ev (fun k => laws_szIntSS.l0 k (pre ++ rest) a (pre.length : Int)) r ∧ (r < 0 ∨ (0 ≤ r ∧ r + (total rest : Int) = a)) := by
  induction rest with
  | nil =>
    intro pre a hb h0 h1 hx
    refine ⟨a, Ev.step (f := fun _ => some a) (fun k => ?_) (Ev.now _), Or.inr ⟨h0, by simp [total]⟩⟩
    show laws_szIntSS.l0 (k + 1) _ a _ = _
    rw [laws_szIntSS.l0, if_neg (mid_nlt _)]
  | cons x rest ih =>
    intro pre a hb h0 h1 hx
    have hxl := hx x (by simp)
    have hz := szIntS_eq x a h0 h1 hxl
    by_cases c : a - (x.length : Int) < 0
    · rw [if_pos c] at hz
      refine ⟨-1, Ev.step (f := fun _ => some (-1)) (fun k => ?_) (Ev.now _), Or.inl (by omega)⟩
      show laws_szIntSS.l0 (k + 1) _ a _ = _
      rw [laws_szIntSS.l0, if_pos (mid_lt _ _ _), if_pos (nn _), mid_rdL1, hz, Option.bind_some, if_pos (by omega)]
    · rw [if_neg c] at hz
      obtain ⟨r, h, hr⟩ := ih (pre ++ [x]) (a - x.length) (by simpa using hb) (by omega) (by omega) (fun y hy => hx y (by simp [hy]))
      rw [← mid_cons, ← mid_succ pre x (by simp at hb; omega)] at h
      refine ⟨r, Ev.step (fun k => ?_) h, ?_⟩
      · show laws_szIntSS.l0 (k + 1) _ a _ = _
        rw [laws_szIntSS.l0, if_pos (mid_lt _ _ _), if_pos (nn _), mid_rdL1, hz, Option.bind_some, if_neg c]
      · rcases hr with hr | ⟨h2, h3⟩
        · exact Or.inl hr
        · refine Or.inr ⟨h2, ?_⟩
          rw [total_cons]
          omega
theorem szSS2_ev (l : List (List Int)) (a : Int) (h0 : 0 ≤ a) (h1 : a ≤ 1152921504606846976) (hb : l.length ≤ 1152921504606846976) (hx : ∀ x ∈ l, x.length ≤ 1152921504606846976) :
    ∃ r : Int, Ev (fun k => laws_szIntSS.f k l a) r ∧ (r < 0 ∨ (0 ≤ r ∧ r + (l.length : Int) + (total l : Int) = a)) := by
  unfold laws_szIntSS.f
  rw [w64_id (show -9223372036854775808 ≤ a - (l.length : Int) by omega) (by omega)]
  by_cases c : a - (l.length : Int) < 0
  · exact ⟨-1, by simp only [if_pos c]; exact Ev.now _, Or.inl (by omega)⟩
  · obtain ⟨r, h, hr⟩ := szSS2_at l [] (a - l.length) hb (by omega) (by omega) hx
    refine ⟨r, by simp only [if_neg c]; exact h, ?_⟩
    rcases hr with hr | ⟨h2, h3⟩
    · exact Or.inl hr
    · exact Or.inr ⟨h2, by omega⟩
theorem szCode_ev (d : Int) (H S : List (List Int)) (hH : H.length ≤ 1152921504606846976) (hS : S.length ≤ 1152921504606846976) (h1 : ∀ x ∈ H, x.length ≤ 1152921504606846976) (h2 : ∀ x ∈ S, x.length ≤ 1152921504606846976) :
    ∃ r : Int, Ev (fun k => laws_szCode.f k d H S 1048576) r ∧ (r < 0 ∨ (H.length + total H ≤ 1048576 ∧ S.length + total S ≤ 1048576)) := by
  obtain ⟨r, e1, g1⟩ := szSS2_ev H 1048576 (by omega) (by omega) hH h1
  unfold laws_szCode.f
  by_cases c : r < 0
  · refine ⟨-1, Ev.bind e1 ?_, Or.inl (by omega)⟩
    simp only [if_pos c]
    exact Ev.now _
  · have b1 := g1.resolve_left c
    obtain ⟨q, e2, g2⟩ := szSS2_ev S r (by omega) (by omega) hS h2
    by_cases d : q < 0
    · refine ⟨-1, Ev.bind e1 ?_, Or.inl (by omega)⟩
      simp only [if_neg c]
      refine Ev.bind e2 ?_
      simp only [if_pos d]
      exact Ev.now _
    · have b2 := g2.resolve_left d
      refine ⟨q, Ev.bind e1 ?_, Or.inr (by omega)⟩
      simp only [if_neg c]
      refine Ev.bind e2 ?_
      simp only [if_neg d]
      exact Ev.now _
theorem toCode_ev (d : Int) (H S : List (List Int)) (hH : H.length ≤ 1048576) (hS : S.length ≤ 1048576) (h1 : ∀ x ∈ H, x.length ≤ 1048576) (h2 : ∀ x ∈ S, x.length ≤ 1048576) : Ev (fun k => laws_toCode.f k d H S) (d, H, S) := by
  unfold laws_toCode.f
  exact Ev.bind (toIntSS_ev H (by omega) (fun x h => by have := h1 x h; omega)) (Ev.bind (toIntSS_ev S (by omega) (fun x h => by have := h2 x h; omega)) (Ev.now _))
theorem eqCode_ev (d : Int) (H S : List (List Int)) (hH : H.length ≤ 1048576) (hS : S.length ≤ 1048576) (h1 : ∀ x ∈ H, x.length ≤ 1048576) (h2 : ∀ x ∈ S, x.length ≤ 1048576) : Ev (fun k => laws_eqCode.f k d H S d H S) true := by
  unfold laws_eqCode.f
  simp only [if_true]
  refine Ev.bind (eqIntSS_same H (by omega) (fun x h => by have := h1 x h; omega)) ?_
  simp only [if_true]
  refine Ev.bind (eqIntSS_same S (by omega) (fun x h => by have := h2 x h; omega)) ?_
  simp only [if_true]
  exact Ev.now _
end Go.Proofs.Ytobncomimkmoeaa.F
end
section
/- Of DecodeP: where a list stands among lists. -/
namespace Go.Proofs.Ytobncomimkmoeaa.F
open Go.RowKit Go.Proofs.YtobncomimkmoeaaW.PrintWords Go.Proofs.YtobncomimkmoeaaW.PrintLast Go.Proofs.YtobncomimkmoeaaW.PrintMore
set_option linter.unusedVariables false
set_option linter.unusedSimpArgs false
theorem rdc (pre : List (List Int)) (x : List Int) (rest : List (List Int)) : rd_L1 (pre ++ x :: rest) (pre.length : Int) = x := mid_rdL1 pre x rest
theorem l12_at (y : List Int) (hy : y.length ≤ 4611686018427387904) (rest : List (List Int)) : ∀ (pre : List (List Int)), (pre ++ rest).length ≤ 4611686018427387904 →
    Ev (fun k => spec_l12Index.l0 k y (pre ++ rest) ((pre ++ rest).length : Int) (pre.length : Int)) (idxFromL (fun s => decide (s = y)) rest (pre.length : Int)) := by
  induction rest with
  | nil =>
    intro pre hb
    refine Ev.step (f := fun _ => some (-1)) (fun k => ?_) (Ev.now _)
    show spec_l12Index.l0 (k + 1) _ _ _ _ = _
    rw [spec_l12Index.l0, if_neg (mid_nlt _)]
  | cons x rest ih =>
    intro pre hb
    have hE := same_ev y x hy
    refine Ev.stepb hE (fun k => by rw [spec_l12Index.l0, if_pos (mid_lt _ _ _), if_pos (nn _), if_pos (mid_lt _ _ _), rdc]) ?_
    unfold idxFromL
    by_cases c : x = y
    · simp only [c, decide_true, if_true]
      exact Ev.now _
    · have h := ih (pre ++ [x]) (by simpa using hb)
      rw [← mid_cons, ← mid_succ pre x (by simp at hb; omega)] at h
      have e : wrap64 ((pre.length : Int) + 1) = (pre.length : Int) + 1 := w64_id (by omega) (by simp at hb; omega)
      simp only [decide_eq_false c, decide_eq_false (fun h => c (Eq.symm h) : ¬ y = x), Bool.false_eq_true, if_false]
      rw [e] at h
      rw [e]
      exact h
theorem l12_ev (l : List (List Int)) (y : List Int) (hb : l.length ≤ 4611686018427387904) (hy : y.length ≤ 4611686018427387904) : Ev (fun k => spec_l12Index.f k l y) (idxFromL (fun s => decide (s = y)) l 0) := l12_at y hy l [] hb
theorem idxL_lt (p : List Int → Bool) : ∀ (l : List (List Int)) (i : Int), 0 ≤ i → (idxFromL p l i < 0 ∨ (i ≤ idxFromL p l i ∧ idxFromL p l i < i + l.length))
  | [], i, h => by left; simp [idxFromL]
  | x :: xs, i, h => by
    unfold idxFromL
    by_cases c : p x = true
    · rw [if_pos c]; right; simp; omega
    · rw [if_neg c]
      rcases idxL_lt p xs (i + 1) (by omega) with h | h
      · left; exact h
      · right; simp; omega
end Go.Proofs.Ytobncomimkmoeaa.F
end
section
/- Encode: both functions answer the same. -/
namespace Go.Proofs.Ytobncomimkmoeaa.F
open Go.RowKit Go.Proofs.YtobncomimkmoeaaW.PrintWords Go.Proofs.YtobncomimkmoeaaW.PrintLast Go.Proofs.YtobncomimkmoeaaW.PrintMore
set_option linter.unusedVariables false
set_option linter.unusedSimpArgs false
theorem enc_both (d : Int) (H S : List (List Int)) (y : List Int) (hHl : H.length ≤ 1048576) (hS : S.length ≤ 1048576) (hH : ∀ x ∈ H, x.length ≤ 1048576) (hSx : ∀ x ∈ S, x.length ≤ 1048576) (hy : y.length ≤ 1048576) : ∃ r : List Int × Bool, Ev (fun k => spec_Encode.f k d H S y) r ∧ Ev (fun k => impl_Encode.f k d H S y) r ∧ r.1.length ≤ 1048576 := by
  obtain ⟨b, s1, i1, hlen⟩ := code_both d H S hHl hS hH hSx
  have e1 := l12_ev H y (by omega) (by omega)
  have hlt := idxL_lt (fun s => decide (s = y)) H 0 (by omega)
  unfold spec_Encode.f impl_Encode.f
  obtain ⟨i, hi⟩ : ∃ i : Int, i = idxFromL (fun s => decide (s = y)) H 0 := ⟨_, rfl⟩
  rw [← hi] at e1 hlt
  rw [← hi]
  cases b with
  | false => exact ⟨([], false), Ev.bind e1 (Ev.bind s1 (by simp only [Bool.false_eq_true, if_false]; exact Ev.now _)), Ev.bind i1 (by simp only [Bool.false_eq_true, if_false]; exact Ev.now _), by simp⟩
  | true =>
    have hl := hlen rfl
    by_cases c : i < 0
    · exact ⟨([], false), Ev.bind e1 (Ev.bind s1 (by simp only [if_true, if_pos c]; exact Ev.now _)), Ev.bind i1 (by simp only [if_true, if_pos c]; exact Ev.now _), by simp⟩
    · have h2 : i < (S.length : Int) := by omega
      have hmem : S.getD i.toNat [] ∈ S := by rw [List.getD_eq_getElem?_getD, List.getElem?_eq_getElem (by omega)]; exact List.getElem_mem _
      have hx := hSx _ hmem
      have hrd : rd_L1 S i = S.getD i.toNat [] := by
        unfold rd_L1
        rfl
      refine ⟨(S.getD i.toNat [], true), Ev.bind e1 (Ev.bind s1 ?_), Ev.bind i1 ?_, hx⟩
      · simp only [if_true, if_neg c, Option.bind_some, if_pos (show 0 ≤ i by omega), if_pos h2, hrd, List.nil_append, List.length_nil, Nat.zero_add, if_pos (show (S.getD i.toNat []).length < 17592186044416 by omega)]
        exact Ev.now _
      · simp only [if_true, if_neg c, if_pos h2]
        rw [show slices_Clone_Lint_int.f (S.getD i.toNat []) = some (S.getD i.toNat []) by unfold slices_Clone_Lint_int.f; rw [if_pos (by omega)]]
        exact Ev.now _
end Go.Proofs.Ytobncomimkmoeaa.F
end
section
/- The laws' marks on lists of lists. -/
namespace Go.Proofs.Ytobncomimkmoeaa.F
open Go.RowKit Go.Proofs.YtobncomimkmoeaaW.PrintWords Go.Proofs.YtobncomimkmoeaaW.PrintLast Go.Proofs.YtobncomimkmoeaaW.PrintMore
set_option linter.unusedVariables false
set_option linter.unusedSimpArgs false
def markSS : Int → List (List Int) → List (List Int)
  | _, [] => []
  | a, x :: xs => seqFrom a x.length :: markSS (a + x.length) xs
theorem markIntSS_at (rest : List (List Int)) : ∀ (pre : List (List Int)) (a : Int), (pre ++ rest).length ≤ 1152921504606846976 → 0 ≤ a → a + total rest ≤ 1152921504606846976 →
    Ev (fun k => laws_markIntSS.l0 k (pre ++ rest) a (pre.length : Int)) (a + total rest, pre ++ markSS a rest) := by
  induction rest with
  | nil =>
    intro pre a hb h0 h1
    refine Ev.step (f := fun _ => some (a, pre ++ [])) (fun k => by rw [laws_markIntSS.l0, if_neg (mid_nlt _)]) ?_
    simpa [total, markSS] using Ev.now _
  | cons x rest ih =>
    intro pre a hb h0 h1
    rw [total_cons] at h1
    have h := ih (pre ++ [seqFrom a x.length]) (a + x.length) (by simpa using hb) (by omega) (by omega)
    rw [← mid_succ pre (seqFrom a x.length) (by simp at hb; omega)] at h
    have hm := markIntS_ev x a (by omega) h0 (by omega)
    refine Ev.stepb hm (fun k => by rw [laws_markIntSS.l0, if_pos (mid_lt _ _ _), if_pos (nn _), mid_rdL]) ?_
    have e : (a + (total (x :: rest) : Int), pre ++ markSS a (x :: rest)) = (a + (x.length : Int) + (total rest : Int), pre ++ [seqFrom a x.length] ++ markSS (a + x.length) rest) := by
      rw [total_cons]
      simp [markSS]
      omega
    rw [e]
    simpa [mid_set] using h
theorem markIntSS_ev (l : List (List Int)) (a : Int) (hb : l.length ≤ 1152921504606846976) (h0 : 0 ≤ a) (h1 : a + total l ≤ 1152921504606846976) : Ev (fun k => laws_markIntSS.f k l a) (a + total l, markSS a l) := by
  unfold laws_markIntSS.f
  exact markIntSS_at l [] a hb h0 h1
end Go.Proofs.Ytobncomimkmoeaa.F
end
section
/- Encode: both functions make the same; marks that are laid are held. -/
namespace Go.Proofs.Ytobncomimkmoeaa.Pure
open Go.RowKit Go.Proofs.Ytobncomimkmoeaa.F Go.Proofs.YtobncomimkmoeaaW.PrintWords Go.Proofs.YtobncomimkmoeaaW.PrintLast Go.Proofs.YtobncomimkmoeaaW.PrintMore
set_option linter.unusedVariables false
set_option linter.unusedSimpArgs false
theorem FnExactEncode : laws_FnExactEncode.Pure := by
  intro d H S y hq hq2
  obtain ⟨_, ⟨h1, h2, h3⟩, ⟨s1, s2, s3⟩⟩ := hq
  by_cases c0 : (y.length : Int) > 1048576
  · exact ⟨0, by unfold laws_FnExactEncode.f; rw [if_pos c0]⟩
  have hy : y.length ≤ 1048576 := by omega
  obtain ⟨r, hsz, hr⟩ := szCode_ev d H S (by omega) (by omega) (fun x hx => by have := h3 x hx; omega) (fun x hx => by have := s3 x hx; omega)
  by_cases c : r < 0
  · obtain ⟨k, hk⟩ := hsz
    have e1 : laws_szCode.f k d H S 1048576 = some r := hk k (Nat.le_refl _)
    exact ⟨k, by unfold laws_FnExactEncode.f; rw [if_neg c0, e1, Option.bind_some, if_pos c]⟩
  · obtain ⟨b1, b2⟩ := hr.resolve_left c
    have hx : ∀ x ∈ H, x.length ≤ 1048576 := fun x hx => by have := total_mem H x hx; omega
    have hx2 : ∀ x ∈ S, x.length ≤ 1048576 := fun x hx => by have := total_mem S x hx; omega
    obtain ⟨R, H3, H4, hl⟩ := enc_both d H S y (by omega) (by omega) hx hx2 hy
    obtain ⟨k1, H1⟩ := hsz
    obtain ⟨k2, H2⟩ := toCode_ev d H S (by omega) (by omega) hx hx2
    obtain ⟨k3, H3⟩ := H3
    obtain ⟨k4, H4⟩ := H4
    obtain ⟨k5, H5⟩ := eqCode_ev d H S (by omega) (by omega) hx hx2
    obtain ⟨k6, H6⟩ := toIntS_ev y (by omega)
    obtain ⟨k7, H7⟩ := eqIntS_same y (by omega)
    obtain ⟨k8, H8⟩ := eqIntS_same R.1 (by omega)
    obtain ⟨k9, H9⟩ := markIntSS_ev H 1 (by omega) (by omega) (by omega)
    obtain ⟨k10, H10⟩ := markIntSS_ev S (1 + total H) (by omega) (by omega) (by omega)
    obtain ⟨k11, H11⟩ := markIntS_ev y (1 + total H + total S) (by omega) (by omega) (by omega)
    obtain ⟨k12, H12⟩ := markIntS_ev R.1 1 (by omega) (by omega) (by omega)
    obtain ⟨k13, H13⟩ := heldIntS_ev R.1.length 1 (by omega) (by omega) (by omega)
    obtain ⟨K, hK⟩ : ∃ K, K = k1 + k2 + k3 + k4 + k5 + k6 + k7 + k8 + k9 + k10 + k11 + k12 + k13 := ⟨_, rfl⟩
    have e1 : laws_szCode.f K d H S 1048576 = some r := H1 K (by omega)
    have e2 : laws_toCode.f K d H S = some (d, H, S) := H2 K (by omega)
    have e3 : spec_Encode.f K d H S y = some R := H3 K (by omega)
    have e6 : laws_toIntS.f K y = some y := H6 K (by omega)
    have e9 : laws_markIntSS.f K H 1 = some ((1 : Int) + (total H : Int), markSS 1 H) := H9 K (by omega)
    have e10 : laws_markIntSS.f K S ((1 : Int) + (total H : Int)) = some ((1 : Int) + (total H : Int) + (total S : Int), markSS (1 + (total H : Int)) S) := H10 K (by omega)
    have e11 : laws_markIntS.f K y ((1 : Int) + (total H : Int) + (total S : Int)) = some ((1 : Int) + (total H : Int) + (total S : Int) + (y.length : Int), seqFrom ((1 : Int) + (total H : Int) + (total S : Int)) y.length) := H11 K (by omega)
    have e12 : laws_markIntS.f K R.1 1 = some ((1 : Int) + (R.1.length : Int), seqFrom 1 R.1.length) := H12 K (by omega)
    refine ⟨K, ?_⟩
    unfold laws_FnExactEncode.f
    rw [if_neg c0, e1, Option.bind_some, if_neg c, e2, Option.bind_some, e6, Option.bind_some]
    simp only
    rw [e3, Option.bind_some, e9, Option.bind_some]
    simp only
    rw [e10, Option.bind_some]
    simp only
    rw [e11, Option.bind_some, e12, Option.bind_some]
    rw [if_pos]
    exact ⟨H4 K (by omega), H8 K (by omega), H5 K (by omega), H7 K (by omega), by simp only; omega, by simp only; omega, H13 K (by omega)⟩
end Go.Proofs.Ytobncomimkmoeaa.Pure
end
