import Derived.Test.YtgldcbcefncjjaaZGFnExactFourForce3
import Derived.Deep.Slices
import Derived.Deep.Strs
import Derived.ChangeArms
import Derived.SizedLaws
import Derived.Test.YtgldcbcefncjjaaZGFnExactFourForce5
import Derived.Test.YtgldcbcefncjjaaZGFnExactFourForce6
import Derived.Test.YtgldcbcefncjjaaZGFnExactFourForce7
import Derived.Test.YtgldcbcefncjjaaZGFnExactFourForce4
section
/- What an argument reads as, kind by kind: plain facts of my own on the model's reading; no function of the program is named here. -/
namespace Go.Proofs.Ytgldcbcefncjjaa.F
open Go.ChangeShapes Go.WideShapes Go.RowKit Go.Proofs.YtgldcbcefncjjaaW.PrintWords
/-- All that reads by type t is of kind d, and has Q. -/
def Opn {α : Type} (P : Program) (t : TypeId) (d : Kd α) (Q : α → Prop) : Prop :=
  ∀ (H : Type) (enc : TypeId × Value → H) (w : World) (base : Nat) (held : Bool) (fuel : Nat) (cs : List Value) (x : DataW H × List MemPlace), DataW.trod enc P w base (fun _ => true) held fuel t cs = some x → (∀ n ∈ x.1.weights P t, n ≤ reachBytes) → ∃ a, d.K w a cs ∧ Q a
theorem reach_eq : reachBytes = 140737488351232 := by decide
section
variable {P : Program} {t e : TypeId}
theorem Opn_int {k : IntKind} (ht : P.underlying t = some (.int k)) : Opn P t (Kd.int k) (fun n => (Lit.int k n).wf = true) := by
  intro H enc w base held fuel cs x h _
  obtain ⟨n, rfl, _, hw⟩ := DataW.trod_int ht h
  exact ⟨n, rfl, hw⟩
theorem weightsAll_mem {H : Type} {P : Program} {e : TypeId} : ∀ {ds : List (DataW H)} {d : DataW H}, d ∈ ds → ∀ n ∈ d.weights P e, n ∈ DataW.weightsAll P e ds
  | d0 :: ds, d, hd, n, hn => by
    simp only [DataW.weightsAll, List.mem_append]
    rcases List.mem_cons.mp hd with rfl | hd
    · exact Or.inl hn
    · exact Or.inr (weightsAll_mem hd n hn)
  | [], _, hd, _, _ => by simp at hd
theorem Opn_slice {α : Type} {d : Kd α} {Q : α → Prop} (e' B : Nat) (hB : P.bytesOf e = B) (ht : P.underlying t = some (.slice e)) (hc : P.cellsOf e = d.sz) (h : Opn P e d Q) :
    Opn P t (Kd.slice e' d) (fun xs => xs.length * B ≤ 140737488351232 ∧ xs.length ≤ maxLen ∧ ∀ x ∈ xs, Q x) := by
  intro H enc w base held fuel cs x hx hz
  rcases Go.Deep.open_slice ht hx with ⟨rfl, _⟩ | ⟨a, len, cap, m, n, D, Pl, rfl, _, hl, hm, hmm, rfl, hel⟩
  · exact ⟨[], ⟨none, 0, rfl, Nat.le_refl _, rfl, by simp, fun h => absurd h (by simp)⟩, by simp, by simp, by simp⟩
  · have hmm' : m = cap := by simpa using hmm
    subst hmm'
    have hz' := hz
    simp only [DataW.weights, ht] at hz'
    have each : ∀ i, i < len → ∃ y : α, (∃ c, c.length = d.sz ∧ d.K w y c ∧ ∀ j u, c[j]? = some u → w.cell? (a.add (i * d.sz + j)) = some u) ∧ Q y := by
      intro i hi
      obtain ⟨cs', h1, h2⟩ := hel i (by omega)
      obtain ⟨y, hK, hQ⟩ := h H enc w base held n cs' _ h2 (fun q hq => hz' q (List.mem_cons_of_mem _ (List.mem_append.mpr (Or.inl (weightsAll_mem (List.mem_map.mpr ⟨i, List.mem_range.mpr hi, rfl⟩) q hq)))))
      obtain ⟨_, h4, h5⟩ := World.cells?_some h1
      rw [hc] at h4 h5
      refine ⟨y, ⟨cs', h4, hK, fun j u hu => ?_⟩, hQ⟩
      have hj : j < d.sz := by
        rw [← h4]
        exact (List.getElem?_eq_some_iff.mp hu).1
      have := h5 j hj
      rw [hu] at this
      rw [← this]
      congr 1
      unfold Addr.add
      by_cases q1 : i * d.sz = 0
      · simp [q1]
      · by_cases q2 : j = 0
        · simp [q1, q2]
        · simp [q1, q2, Nat.add_assoc]
    rcases Nat.eq_zero_or_pos len with hl0 | hl0
    · subst hl0
      exact ⟨[], ⟨some a, m, rfl, by simp, rfl, by simp, fun h => absurd h (by simp)⟩, by simp, by simp, by simp⟩
    haveI : Inhabited α := ⟨Classical.choose (each 0 hl0)⟩
    obtain ⟨Y, hY⟩ := Go.Deep.choose_lt each
    refine ⟨(List.range len).map Y, ⟨some a, m, by simp, by simpa using hl, by simp, ?_, fun _ => ⟨a, rfl, ?_⟩⟩, ?_, by simp; omega, ?_⟩
    · have : maxLen ≤ 9223372036854775807 := by decide
      simp
      omega
    · intro j p hp
      simp only [List.getElem?_map, Option.map_eq_some_iff] at hp
      obtain ⟨i, hi, rfl⟩ := hp
      obtain ⟨hi1, hi2⟩ := List.getElem?_eq_some_iff.mp hi
      simp only [List.length_range] at hi1
      simp only [List.getElem_range] at hi2
      subst hi2
      exact (hY _ hi1).1
    · have := hz' _ List.mem_cons_self
      rw [hB, reach_eq] at this
      simp only [List.length_map, List.length_range] at this ⊢
      exact Nat.le_trans (Nat.mul_le_mul_right _ (Nat.le_add_right _ _)) this
    · intro x hx
      obtain ⟨i, hi, rfl⟩ := List.mem_map.mp hx
      exact (hY i (List.mem_range.mp hi)).2
end
end Go.Proofs.Ytgldcbcefncjjaa.F
end
section
/- What the laws' own helpers tell: equality, a copy, marks and whether they are held. -/
namespace Go.Proofs.Ytgldcbcefncjjaa.F
open Go.RowKit Go.Proofs.YtgldcbcefncjjaaW.PrintWords Go.Proofs.YtgldcbcefncjjaaW.PrintLast Go.Proofs.YtgldcbcefncjjaaW.PrintMore
set_option linter.unusedVariables false
set_option linter.unusedSimpArgs false
theorem eqIntS_at (rest : List Int) : ∀ (pre : List Int) (ys : List Int), (pre ++ ys).length ≤ 4611686018427387904 → rest.length = ys.length →
    Ev (fun k => laws_eqIntS.l0 k (pre ++ rest) (pre ++ ys) (pre.length : Int)) (decide (rest = ys)) := by
  induction rest with
  | nil =>
    intro pre ys hb hl
    obtain rfl : ys = [] := List.eq_nil_of_length_eq_zero hl.symm
    exact Ev.step (f := fun _ => some true) (fun k => by rw [laws_eqIntS.l0, if_neg (mid_nlt _)]) (Ev.now _)
  | cons x rest ih =>
    intro pre ys hb hl
    cases ys with
    | nil => simp at hl
    | cons y ys =>
      by_cases e : x = y
      · subst e
        have h := ih (pre ++ [x]) ys (by simpa using hb) (by simpa using hl)
        rw [← mid_cons, ← mid_cons] at h
        rw [show decide (x :: rest = x :: ys) = decide (rest = ys) by simp]
        exact Ev.step (fun k => by rw [laws_eqIntS.l0, if_pos (mid_lt _ _ _), if_pos (nn _), if_pos (mid_lt _ _ _), mid_rd, mid_rd, if_pos rfl, mid_succ pre x (by simp at hb; omega)]) h
      · rw [show decide (x :: rest = y :: ys) = false by simp [e]]
        exact Ev.step (f := fun _ => some false) (fun k => by rw [laws_eqIntS.l0, if_pos (mid_lt _ _ _), if_pos (nn _), if_pos (mid_lt _ _ _), mid_rd, mid_rd, if_neg e]) (Ev.now _)
theorem eqIntS_ev (l m : List Int) (hl : l.length ≤ 4611686018427387904) : Ev (fun k => laws_eqIntS.f k l m) (decide (l = m)) := by
  unfold laws_eqIntS.f
  by_cases e : (l.length : Int) = (m.length : Int)
  · have h := eqIntS_at l [] m (by simp; omega) (by omega)
    simpa [e] using h
  · have e2 : ¬ l = m := fun h => e (by rw [h])
    simp only [if_neg e, e2, decide_false]
    exact Ev.now _
theorem eqIntS_same (l : List Int) (hl : l.length ≤ 4611686018427387904) : Ev (fun k => laws_eqIntS.f k l l) true := by
  have := eqIntS_ev l l hl
  simpa using this
theorem toIntS_at (rest : List Int) : ∀ (pre zs : List Int), (pre ++ rest).length ≤ 4611686018427387904 → zs.length = rest.length →
    Ev (fun k => laws_toIntS.l0 k (pre ++ rest) (pre ++ zs) (pre.length : Int)) (pre ++ rest) := by
  induction rest with
  | nil =>
    intro pre zs hb hl
    obtain rfl : zs = [] := List.eq_nil_of_length_eq_zero hl
    exact Ev.step (f := fun _ => some (pre ++ [])) (fun k => by rw [laws_toIntS.l0, if_neg (mid_nlt _)]) (Ev.now _)
  | cons x rest ih =>
    intro pre zs hb hl
    cases zs with
    | nil => simp at hl
    | cons z zs =>
      have h := ih (pre ++ [x]) zs (by simpa using hb) (by simpa using hl)
      rw [← mid_cons] at h
      exact Ev.step (fun k => by rw [laws_toIntS.l0, if_pos (mid_lt _ _ _), if_pos (nn _), if_pos (mid_lt _ _ _), mid_rd, mid_set, mid_succ pre x (by simp at hb; omega)]) h
theorem toIntS_ev (l : List Int) (hl : l.length ≤ 35184372088832) : Ev (fun k => laws_toIntS.f k l) l := by
  unfold laws_toIntS.f
  have h := toIntS_at l [] (List.replicate l.length 0) (by simp; omega) (by simp)
  have e2 : (0 : Int) ≤ (l.length : Int) := nn _
  simpa [hl] using h
theorem markIntS_at (rest : List Int) : ∀ (pre : List Int) (a : Int), (pre ++ rest).length ≤ 4611686018427387904 → 0 ≤ a → a + rest.length ≤ 4611686018427387904 →
    Ev (fun k => laws_markIntS.l0 k (pre ++ rest) a (pre.length : Int)) (a + rest.length, pre ++ seqFrom a rest.length) := by
  induction rest with
  | nil =>
    intro pre a hb h0 h1
    refine Ev.step (f := fun _ => some (a + 0, pre ++ [])) (fun k => ?_) ?_
    · rw [laws_markIntS.l0, if_neg (mid_nlt _)]
      simp
    · simpa [seqFrom] using Ev.now _
  | cons x rest ih =>
    intro pre a hb h0 h1
    have h := ih (pre ++ [a]) (a + 1) (by simpa using hb) (by omega) (by simp at h1; omega)
    have e : (a + ((x :: rest).length : Int), pre ++ seqFrom a (x :: rest).length) = (a + 1 + (rest.length : Int), pre ++ [a] ++ seqFrom (a + 1) rest.length) := by
      simp [seqFrom]
      omega
    rw [e]
    exact Ev.step (fun k => by rw [laws_markIntS.l0, if_pos (mid_lt _ _ _), if_pos (nn _), mid_set, w64_id (by omega) (by simp at h1; omega), mid_succ pre a (by simp at hb; omega)]) h
theorem markIntS_ev (l : List Int) (a : Int) (hl : l.length ≤ 1152921504606846976) (h0 : 0 ≤ a) (h1 : a ≤ 1152921504606846976) : Ev (fun k => laws_markIntS.f k l a) (a + l.length, seqFrom a l.length) := by
  unfold laws_markIntS.f
  have h := markIntS_at l [] a (by simp; omega) h0 (by omega)
  simpa using h
theorem heldIntS_at (n : Nat) : ∀ (pre : List Int) (a : Int), (pre ++ seqFrom a n).length ≤ 4611686018427387904 → 0 ≤ a → a + n ≤ 4611686018427387904 →
    Ev (fun k => laws_heldIntS.l0 k (pre ++ seqFrom a n) a (pre.length : Int)) (a + n) := by
  induction n with
  | zero =>
    intro pre a hb h0 h1
    refine Ev.step (f := fun _ => some (a + 0)) (fun k => ?_) ?_
    · show laws_heldIntS.l0 (k + 1) (pre ++ []) a _ = _
      rw [laws_heldIntS.l0, if_neg (mid_nlt _)]
      simp
    · simpa using Ev.now _
  | succ n ih =>
    intro pre a hb h0 h1
    have h := ih (pre ++ [a]) (a + 1) (by simpa [seqFrom] using hb) (by omega) (by omega)
    rw [← mid_cons] at h
    have e : a + ((n + 1 : Nat) : Int) = a + 1 + (n : Int) := by omega
    rw [e]
    refine Ev.step (fun k => ?_) h
    show laws_heldIntS.l0 (k + 1) (pre ++ a :: seqFrom (a + 1) n) a _ = _
    rw [laws_heldIntS.l0, if_pos (mid_lt _ _ _), if_pos (nn _), mid_rd, if_pos rfl, w64_id (by omega) (by omega), mid_succ pre a (by simp at hb; omega)]
theorem heldIntS_ev (n : Nat) (a : Int) (hl : n ≤ 1152921504606846976) (h0 : 0 ≤ a) (h1 : a ≤ 1152921504606846976) : Ev (fun k => laws_heldIntS.f k (seqFrom a n) a) (a + n) := by
  unfold laws_heldIntS.f
  have h := heldIntS_at n [] a (by simp [seqFrom_length]; omega) h0 (by omega)
  simpa using h
end Go.Proofs.Ytgldcbcefncjjaa.F
end
section
/- The laws' helpers on lists of nodes. -/
namespace Go.Proofs.Ytgldcbcefncjjaa.F
open Go.RowKit Go.Proofs.YtgldcbcefncjjaaW.PrintWords Go.Proofs.YtgldcbcefncjjaaW.PrintLast Go.Proofs.YtgldcbcefncjjaaW.PrintMore
set_option linter.unusedVariables false
set_option linter.unusedSimpArgs false
abbrev IN := S49
theorem mid_rdIN (pre : List IN) (x : IN) (rest : List IN) : rd_T49 (pre ++ x :: rest) (pre.length : Int) = x := by
  unfold rd_T49
  simp
theorem eqNode_same (x : IN) (hx : x.f1.length ≤ 4611686018427387904) : Ev (fun k => laws_eqNode.f k x.f0 x.f1 x.f2 x.f0 x.f1 x.f2) true := by
  unfold laws_eqNode.f
  simp only [if_true]
  refine Ev.bind (eqIntS_same x.f1 hx) ?_
  simp only [if_true]
  exact Ev.now _
theorem eqNodeS_at (rest : List IN) : ∀ (pre : List IN), (pre ++ rest).length ≤ 4611686018427387904 → (∀ x ∈ rest, x.f1.length ≤ 4611686018427387904) →
    Ev (fun k => laws_eqNodeS.l0 k (pre ++ rest) (pre ++ rest) (pre.length : Int)) true := by
  induction rest with
  | nil =>
    intro pre hb hx
    refine Ev.step (f := fun _ => some true) (fun k => ?_) (Ev.now _)
    show laws_eqNodeS.l0 (k + 1) _ _ _ = _
    rw [laws_eqNodeS.l0, if_neg (mid_nlt _)]
  | cons x rest ih =>
    intro pre hb hx
    have h := ih (pre ++ [x]) (by simpa using hb) (fun y hy => hx y (by simp [hy]))
    rw [← mid_cons, ← mid_succ pre x (by simp at hb; omega)] at h
    refine Ev.stepb (eqNode_same x (hx x (by simp))) (fun k => by rw [laws_eqNodeS.l0, if_pos (mid_lt _ _ _), if_pos (nn _), if_pos (mid_lt _ _ _), mid_rdIN]) ?_
    simp only [if_true]
    exact h
theorem eqNodeS_same (l : List IN) (hb : l.length ≤ 4611686018427387904) (hx : ∀ x ∈ l, x.f1.length ≤ 4611686018427387904) : Ev (fun k => laws_eqNodeS.f k l l) true := by
  unfold laws_eqNodeS.f
  simp only [if_true]
  exact eqNodeS_at l [] hb hx
end Go.Proofs.Ytgldcbcefncjjaa.F
end
section
/- The laws' marks on nodes. -/
namespace Go.Proofs.Ytgldcbcefncjjaa.F
open Go.RowKit Go.Proofs.YtgldcbcefncjjaaW.PrintWords Go.Proofs.YtgldcbcefncjjaaW.PrintLast Go.Proofs.YtgldcbcefncjjaaW.PrintMore
set_option linter.unusedVariables false
set_option linter.unusedSimpArgs false
theorem strNums_one (v : Int) : (strOfNums [v]).size = 1 := by simp [strOfNums, ByteArray.size]
theorem markText_at (n : Nat) : ∀ (x : Int) (s : ByteArray), x ≤ n → 0 ≤ x → x + s.size ≤ 4611686018427387904 → ∃ t, Ev (fun k => laws_markText.l0 k x s) t := by
  induction n with
  | zero =>
    intro x s h h0 hb
    refine ⟨_, Ev.step (f := fun _ => some ((⟨#[109]⟩ : ByteArray) ++ s)) (fun k => ?_) (Ev.now _)⟩
    show laws_markText.l0 (k + 1) x s = _
    rw [laws_markText.l0, if_neg (by omega), if_pos (by omega)]
  | succ n ih =>
    intro x s h h0 hb
    by_cases c : x > 0
    · have hd : Int.tdiv x 10 = x / 10 := Int.tdiv_eq_ediv_of_nonneg h0
      have hw : wrap64 (Int.tdiv x 10) = x / 10 := by rw [hd]; exact w64_id (by omega) (by omega)
      obtain ⟨d, hdd⟩ : ∃ d : Int, d = (wrap64 (48 + (Int.tmod x 10))) % 256 := ⟨_, rfl⟩
      have hs : (strOfNums [d] ++ s).size = 1 + s.size := by rw [ByteArray.size_append, strNums_one]
      obtain ⟨t, ht⟩ := ih (x / 10) (strOfNums [d] ++ s) (by omega) (by omega) (by rw [hs]; omega)
      refine ⟨t, Ev.step (fun k => ?_) ht⟩
      show laws_markText.l0 (k + 1) x s = _
      rw [laws_markText.l0, if_pos c, ← hdd, Option.bind_some, if_pos (by rw [strNums_one]; omega), hw]
    · refine ⟨_, Ev.step (f := fun _ => some ((⟨#[109]⟩ : ByteArray) ++ s)) (fun k => ?_) (Ev.now _)⟩
      show laws_markText.l0 (k + 1) x s = _
      rw [laws_markText.l0, if_neg c, if_pos (by omega)]
open Classical in
/-- The text of a mark. -/
noncomputable def mkT (x : Int) : ByteArray := if h : ∃ t, Ev (fun k => laws_markText.f k x) t then h.choose else ⟨#[]⟩
theorem markText_ev (x : Int) (h0 : 0 ≤ x) (h1 : x ≤ 2305843009213693952) : Ev (fun k => laws_markText.f k x) (mkT x) := by
  have h : ∃ t, Ev (fun k => laws_markText.f k x) t := by
    unfold laws_markText.f
    by_cases c : x ≤ 0
    · simp only [if_pos c]
      exact ⟨_, Ev.now _⟩
    · simp only [if_neg c]
      exact markText_at x.toNat x _ (by omega) h0 (by simp [ByteArray.size]; omega)
  unfold mkT
  rw [dif_pos h]
  exact h.choose_spec
/-- How many marks a list of nodes takes. -/
def wN (l : List IN) : Nat := (l.map fun x => x.f1.length + 2).sum
theorem wN_cons (x : IN) (l : List IN) : wN (x :: l) = x.f1.length + 2 + wN l := by simp [wN]
noncomputable def markN : Int → List IN → List IN
  | _, [] => []
  | a, x :: xs => ⟨mkT a, seqFrom (a + 1) x.f1.length, a + 1 + x.f1.length⟩ :: markN (a + 2 + x.f1.length) xs
theorem mid_getN (pre : List IN) (x : IN) (rest : List IN) : (pre ++ x :: rest).getD ((pre.length : Int)).toNat z49 = x := by simp
theorem markNodeS_at (rest : List IN) : ∀ (pre : List IN) (a : Int), (pre ++ rest).length ≤ 1152921504606846976 → 0 ≤ a → a + wN rest ≤ 1152921504606846976 →
    Ev (fun k => laws_markNodeS.l0 k (pre ++ rest) a (pre.length : Int)) (a + wN rest, pre ++ markN a rest) := by
  induction rest with
  | nil =>
    intro pre a hb h0 h1
    refine Ev.step (f := fun _ => some (a, pre ++ [])) (fun k => by rw [laws_markNodeS.l0, if_neg (mid_nlt _)]) ?_
    simpa [wN, markN] using Ev.now _
  | cons x rest ih =>
    intro pre a hb h0 h1
    rw [wN_cons] at h1
    have h := ih (pre ++ [⟨mkT a, seqFrom (a + 1) x.f1.length, a + 1 + x.f1.length⟩]) (a + 2 + x.f1.length) (by simpa using hb) (by omega) (by omega)
    have hw1 : wrap64 (a + 1) = a + 1 := w64_id (by omega) (by omega)
    have hw2 : wrap64 (a + 1 + (x.f1.length : Int) + 1) = a + 2 + (x.f1.length : Int) := by rw [w64_id (by omega) (by omega)]; omega
    rw [← mid_succ pre _ (by simp at hb; omega)] at h
    have hm := markIntS_ev x.f1 (a + 1) (by omega) (by omega) (by omega)
    refine Ev.stepb (markText_ev a h0 (by omega)) (fun k => by rw [laws_markNodeS.l0, if_pos (mid_lt _ _ _), if_pos (nn _)]) ?_
    simp only [mid_getN, hw1]
    refine Ev.bind hm ?_
    have e : (a + (wN (x :: rest) : Int), pre ++ markN a (x :: rest)) = (a + 2 + (x.f1.length : Int) + (wN rest : Int), pre ++ [⟨mkT a, seqFrom (a + 1) x.f1.length, a + 1 + x.f1.length⟩] ++ markN (a + 2 + x.f1.length) rest) := by
      rw [wN_cons]
      simp [markN]
      omega
    rw [e]
    simp only [hw2, mid_set]
    exact h
theorem markNodeS_ev (l : List IN) (a : Int) (hb : l.length ≤ 1152921504606846976) (h0 : 0 ≤ a) (h1 : a + wN l ≤ 1152921504606846976) : Ev (fun k => laws_markNodeS.f k l a) (a + wN l, markN a l) := by
  unfold laws_markNodeS.f
  exact markNodeS_at l [] a hb h0 h1
end Go.Proofs.Ytgldcbcefncjjaa.F
end
section
/- The marks that are held on nodes. -/
namespace Go.Proofs.Ytgldcbcefncjjaa.F
open Go.RowKit Go.Proofs.YtgldcbcefncjjaaW.PrintWords Go.Proofs.YtgldcbcefncjjaaW.PrintLast Go.Proofs.YtgldcbcefncjjaaW.PrintMore
set_option linter.unusedVariables false
set_option linter.unusedSimpArgs false
theorem heldNodeS_at (rest : List IN) : ∀ (pre : List IN) (a : Int), (pre ++ rest).length ≤ 1152921504606846976 → 0 ≤ a → a + wN rest ≤ 1152921504606846976 →
    Ev (fun k => laws_heldNodeS.l0 k (pre ++ markN a rest) a (pre.length : Int)) (a + wN rest) := by
  induction rest with
  | nil =>
    intro pre a hb h0 h1
    refine Ev.step (f := fun _ => some a) (fun k => ?_) (by simpa [wN] using Ev.now a)
    show laws_heldNodeS.l0 (k + 1) (pre ++ []) a _ = _
    rw [laws_heldNodeS.l0, if_neg (mid_nlt _)]
  | cons x rest ih =>
    intro pre a hb h0 h1
    rw [wN_cons] at h1
    obtain ⟨y, hy⟩ : ∃ y : IN, y = ⟨mkT a, seqFrom (a + 1) x.f1.length, a + 1 + x.f1.length⟩ := ⟨_, rfl⟩
    have h := ih (pre ++ [y]) (a + 2 + x.f1.length) (by simpa using hb) (by omega) (by omega)
    rw [← mid_cons, ← mid_succ pre y (by simp at hb; omega)] at h
    have hw1 : wrap64 (a + 1) = a + 1 := w64_id (by omega) (by omega)
    have hw2 : wrap64 (a + 1 + (x.f1.length : Int) + 1) = a + 2 + (x.f1.length : Int) := by rw [w64_id (by omega) (by omega)]; omega
    have hm := heldIntS_ev x.f1.length (a + 1) (by omega) (by omega) (by omega)
    have hn : ¬ (a + 1 + (x.f1.length : Int) < 0) := by omega
    have e0 : y.f0 = mkT a := by rw [hy]
    have e1 : y.f1 = seqFrom (a + 1) x.f1.length := by rw [hy]
    have e2 : y.f2 = a + 1 + (x.f1.length : Int) := by rw [hy]
    have em : markN a (x :: rest) = y :: markN (a + 2 + x.f1.length) rest := by rw [hy]; rfl
    rw [em]
    refine Ev.stepb (markText_ev a h0 (by omega)) (fun k => by rw [laws_heldNodeS.l0, if_pos (mid_lt _ _ _), if_pos (nn _), mid_rdIN]) ?_
    simp only [e0, e1, e2, if_true, hw1]
    refine Ev.bind hm ?_
    simp only [if_neg hn, if_true, hw2]
    rw [wN_cons, show a + ((x.f1.length + 2 + wN rest : Nat) : Int) = a + 2 + (x.f1.length : Int) + (wN rest : Int) by omega]
    exact h
theorem heldNodeS_ev (l : List IN) (a : Int) (hb : l.length ≤ 1152921504606846976) (h0 : 0 ≤ a) (h1 : a + wN l ≤ 1152921504606846976) : Ev (fun k => laws_heldNodeS.f k (markN a l) a) (a + wN l) := by
  unfold laws_heldNodeS.f
  exact heldNodeS_at l [] a hb h0 h1
end Go.Proofs.Ytgldcbcefncjjaa.F
end
section
/- Cards, and when a list is a packet: the program's and the reference's functions tell one thing. -/
namespace Go.Proofs.Ytgldcbcefncjjaa.F
open Go.RowKit Go.Proofs.YtgldcbcefncjjaaW.PrintWords Go.Proofs.YtgldcbcefncjjaaW.PrintLast Go.Proofs.YtgldcbcefncjjaaW.PrintMore
set_option linter.unusedVariables false
set_option linter.unusedSimpArgs false
theorem l01In_eq (a b c : Int) : spec_l01In.f a b c = some (decide (b ≤ a ∧ a ≤ c)) := by
  unfold spec_l01In.f
  by_cases h : b ≤ a
  · simp [h]
  · simp [h]
theorem l02Has_at (x : Int) (rest : List Int) : ∀ (pre : List Int), (pre ++ rest).length ≤ 4611686018427387904 →
    Ev (fun k => spec_l02Has.l0 k x (pre ++ rest) ((pre ++ rest).length : Int) (pre.length : Int)) (rest.contains x) := by
  induction rest with
  | nil =>
    intro pre hb
    exact Ev.step (f := fun _ => some false) (fun k => by rw [spec_l02Has.l0, if_neg (mid_nlt _)]) (Ev.now _)
  | cons y rest ih =>
    intro pre hb
    by_cases e : y = x
    · subst e
      simp only [List.contains_cons, beq_self_eq_true, Bool.true_or]
      exact Ev.step (f := fun _ => some true) (fun k => by rw [spec_l02Has.l0, if_pos (mid_lt _ _ _), if_pos (nn _), if_pos (mid_lt _ _ _), mid_rd, if_pos rfl]) (Ev.now _)
    · have h := ih (pre ++ [y]) (by simpa using hb)
      rw [← mid_cons] at h
      rw [show (y :: rest).contains x = rest.contains x by simp only [List.contains_cons]; rw [show (x == y) = false by simpa using fun h => e h.symm]; rfl]
      exact Ev.step (fun k => by rw [spec_l02Has.l0, if_pos (mid_lt _ _ _), if_pos (nn _), if_pos (mid_lt _ _ _), mid_rd, if_neg e, mid_succ pre y (by simp at hb; omega)]) h
theorem l02Has_ev (l : List Int) (x : Int) (hb : l.length ≤ 4611686018427387904) : Ev (fun k => spec_l02Has.f k l x) (l.contains x) := l02Has_at x l [] hb
end Go.Proofs.Ytgldcbcefncjjaa.F
end
section
/- slices.Index and slices.Contains. -/
namespace Go.Proofs.Ytgldcbcefncjjaa.F
open Go.RowKit Go.Proofs.YtgldcbcefncjjaaW.PrintWords Go.Proofs.YtgldcbcefncjjaaW.PrintLast Go.Proofs.YtgldcbcefncjjaaW.PrintMore
set_option linter.unusedVariables false
set_option linter.unusedSimpArgs false
theorem index_at (x : Int) (rest : List Int) : ∀ (pre : List Int), (pre ++ rest).length ≤ 4611686018427387904 →
    ∃ i : Int, Ev (fun k => slices_Index_Lint_int.l0 k (pre ++ rest) x ((pre ++ rest).length : Int) (pre.length : Int)) i ∧ (decide (i ≥ 0) = rest.contains x) ∧ -1 ≤ i ∧ (rest.contains x = true → i < (pre ++ rest).length ∧ rd (pre ++ rest) i = x) := by
  induction rest with
  | nil =>
    intro pre hb
    exact ⟨-1, Ev.step (f := fun _ => some (-1)) (fun k => by rw [slices_Index_Lint_int.l0, if_neg (mid_nlt _)]) (Ev.now _), by simp, by omega, by simp⟩
  | cons y rest ih =>
    intro pre hb
    by_cases e : x = y
    · subst e
      exact ⟨pre.length, Ev.step (f := fun _ => some (pre.length : Int)) (fun k => by rw [slices_Index_Lint_int.l0, if_pos (mid_lt _ _ _), if_pos (nn _), if_pos (mid_lt _ _ _), mid_rd, if_pos rfl]) (Ev.now _), by simp, by omega, fun _ => ⟨mid_lt _ _ _, mid_rd _ _ _⟩⟩
    · obtain ⟨i, h, h1, h2, h3⟩ := ih (pre ++ [y]) (by simpa using hb)
      rw [← mid_cons] at h h3
      have hc : (y :: rest).contains x = rest.contains x := by simp only [List.contains_cons]; rw [show (x == y) = false by simpa using e]; rfl
      exact ⟨i, Ev.step (fun k => by rw [slices_Index_Lint_int.l0, if_pos (mid_lt _ _ _), if_pos (nn _), if_pos (mid_lt _ _ _), mid_rd, if_neg e, mid_succ pre y (by simp at hb; omega)]) h, by rw [hc]; exact h1, h2, by rw [hc]; exact h3⟩
theorem index_ev (l : List Int) (x : Int) (hb : l.length ≤ 4611686018427387904) : ∃ i : Int, Ev (fun k => slices_Index_Lint_int.f k l x) i ∧ (decide (i ≥ 0) = l.contains x) ∧ -1 ≤ i ∧ (l.contains x = true → i < l.length ∧ rd l i = x) := index_at x l [] hb
theorem contains_ev (l : List Int) (x : Int) (hb : l.length ≤ 4611686018427387904) : Ev (fun k => slices_Contains_Lint_int.f k l x) (l.contains x) := by
  obtain ⟨i, h, h1, _⟩ := index_ev l x hb
  unfold slices_Contains_Lint_int.f
  refine Ev.bind h ?_
  rw [h1]
  exact Ev.now _
end Go.Proofs.Ytgldcbcefncjjaa.F
end
section
/- Are some objects fit for a force? -/
namespace Go.Proofs.Ytgldcbcefncjjaa.F
open Go.RowKit Go.Proofs.YtgldcbcefncjjaaW.PrintWords Go.Proofs.YtgldcbcefncjjaaW.PrintLast Go.Proofs.YtgldcbcefncjjaaW.PrintMore
set_option linter.unusedVariables false
set_option linter.unusedSimpArgs false
def objM : List Int → List Int → Bool
  | _, [] => true
  | pre, x :: xs => decide (0 ≤ x ∧ x ≤ 99) && (!pre.contains x && objM (pre ++ [x]) xs)
def objB (l : List Int) (n w : Int) : Bool := objM [] l && (decide ((l.length : Int) = n) && l.contains w)
theorem mid_take (pre : List Int) (rest : List Int) : (pre ++ rest).take ((pre.length : Int)).toNat = pre := by simp
theorem areObj_at (n w : Int) (rest : List Int) : ∀ (pre : List Int), (pre ++ rest).length ≤ 1048576 →
    Ev (fun k => impl_areObjects.l0 k (pre ++ rest) n w (pre ++ rest) ((pre ++ rest).length : Int) (pre.length : Int)) (objM pre rest && (decide (((pre ++ rest).length : Int) = n) && (pre ++ rest).contains w)) := by
  induction rest with
  | nil =>
    intro pre hb
    by_cases c : ((pre ++ []).length : Int) = n
    · refine Ev.stepb (contains_ev (pre ++ []) w (by omega)) (fun k => by rw [impl_areObjects.l0, if_neg (mid_nlt _), if_pos c]) ?_
      simp only [objM, Bool.true_and, decide_eq_true c]
      exact Ev.now _
    · refine Ev.step (f := fun _ => some false) (fun k => ?_) ?_
      · show impl_areObjects.l0 (k + 1) _ _ _ _ _ _ = _
        rw [impl_areObjects.l0, if_neg (mid_nlt _), if_neg c]
      · simp only [objM, Bool.true_and, decide_eq_false c, Bool.false_and]
        exact Ev.now _
  | cons x rest ih =>
    intro pre hb
    have hp : pre.length ≤ 1048576 := by simp at hb; omega
    by_cases c1 : x < 0
    · refine Ev.step (f := fun _ => some false) (fun k => ?_) ?_
      · show impl_areObjects.l0 (k + 1) _ _ _ _ _ _ = _
        rw [impl_areObjects.l0, if_pos (mid_lt _ _ _), if_pos (nn _), if_pos (mid_lt _ _ _), mid_rd, if_pos c1]
      · simp only [objM, decide_eq_false (show ¬ (0 ≤ x ∧ x ≤ 99) by omega), Bool.false_and]
        exact Ev.now _
    · by_cases c2 : x > 99
      · refine Ev.step (f := fun _ => some false) (fun k => ?_) ?_
        · show impl_areObjects.l0 (k + 1) _ _ _ _ _ _ = _
          rw [impl_areObjects.l0, if_pos (mid_lt _ _ _), if_pos (nn _), if_pos (mid_lt _ _ _), mid_rd, if_neg c1, if_pos c2]
        · simp only [objM, decide_eq_false (show ¬ (0 ≤ x ∧ x ≤ 99) by omega), Bool.false_and]
          exact Ev.now _
      · refine Ev.stepb (contains_ev pre x (by omega)) (fun k => by rw [impl_areObjects.l0, if_pos (mid_lt _ _ _), if_pos (nn _), if_pos (mid_lt _ _ _), mid_rd, if_neg c1, if_neg c2, if_pos (by simp; omega), mid_take]) ?_
        simp only [objM, decide_eq_true (show 0 ≤ x ∧ x ≤ 99 by omega), Bool.true_and]
        by_cases d : pre.contains x = true
        · simp only [d, if_true, Bool.not_true, Bool.false_and]
          exact Ev.now _
        · have d' : pre.contains x = false := by simpa using d
          have h := ih (pre ++ [x]) (by simpa using hb)
          rw [← mid_cons, ← mid_succ pre x (by omega)] at h
          simp only [d', Bool.false_eq_true, if_false, Bool.not_false, Bool.true_and]
          exact h
theorem areObj_ev (l : List Int) (n w : Int) (hb : l.length ≤ 1048576) : Ev (fun k => impl_areObjects.f k l n w) (objB l n w) := areObj_at n w l [] hb
theorem objs_at (rest : List Int) : ∀ (pre : List Int), (pre ++ rest).length ≤ 1048576 →
    Ev (fun k => spec_l13Objects.l0 k (pre ++ rest) (pre ++ rest) ((pre ++ rest).length : Int) (pre.length : Int)) (objM pre rest) := by
  induction rest with
  | nil =>
    intro pre hb
    refine Ev.step (f := fun _ => some true) (fun k => ?_) (Ev.now _)
    show spec_l13Objects.l0 (k + 1) _ _ _ _ = _
    rw [spec_l13Objects.l0, if_neg (mid_nlt _)]
  | cons x rest ih =>
    intro pre hb
    have hp : pre.length ≤ 1048576 := by simp at hb; omega
    by_cases c : 0 ≤ x ∧ x ≤ 99
    · refine Ev.stepb (l02Has_ev pre x (by omega)) (fun k => by rw [spec_l13Objects.l0, if_pos (mid_lt _ _ _), if_pos (nn _), if_pos (mid_lt _ _ _), mid_rd, l01In_eq, Option.bind_some, decide_eq_true c, if_pos rfl, if_pos (by simp; omega), mid_take]) ?_
      simp only [objM, decide_eq_true c, Bool.true_and]
      by_cases d : pre.contains x = true
      · simp only [d, if_true, Bool.not_true, Bool.false_and]
        exact Ev.now _
      · have d' : pre.contains x = false := by simpa using d
        have h := ih (pre ++ [x]) (by simpa using hb)
        rw [← mid_cons, ← mid_succ pre x (by omega)] at h
        simp only [d', Bool.false_eq_true, if_false, Bool.not_false, Bool.true_and]
        exact h
    · refine Ev.step (f := fun _ => some false) (fun k => ?_) ?_
      · show spec_l13Objects.l0 (k + 1) _ _ _ _ = _
        rw [spec_l13Objects.l0, if_pos (mid_lt _ _ _), if_pos (nn _), if_pos (mid_lt _ _ _), mid_rd, l01In_eq, Option.bind_some, decide_eq_false c, if_neg (by simp)]
      · simp only [objM, decide_eq_false c, Bool.false_and]
        exact Ev.now _
theorem objs_j0 (l : List Int) (b : Bool) (hb : l.length ≤ 1048576) : Ev (fun k => spec_l13Objects.j0 k l (!b)) (objM [] l && b) := by
  cases b with
  | false =>
    refine Ev.step (f := fun _ => some false) (fun k => ?_) (by rw [Bool.and_false]; exact Ev.now _)
    show spec_l13Objects.j0 (k + 1) l true = _
    rw [spec_l13Objects.j0, if_pos rfl]
  | true =>
    have h := objs_at l [] hb
    rw [Bool.and_true]
    refine Ev.step (fun k => ?_) h
    show spec_l13Objects.j0 (k + 1) l false = _
    rw [spec_l13Objects.j0, if_neg (by simp)]
    rfl
theorem objs_ev (l : List Int) (n w : Int) (hb : l.length ≤ 1048576) : Ev (fun k => spec_l13Objects.f k l n w) (objB l n w) := by
  unfold spec_l13Objects.f objB
  by_cases c : (l.length : Int) = n
  · simp only [if_pos c, decide_eq_true c, Bool.true_and]
    exact Ev.bind (l02Has_ev l w (by omega)) (objs_j0 l _ hb)
  · simp only [if_neg c, decide_eq_false c, Bool.false_and]
    have := objs_j0 l false hb
    exact this
end Go.Proofs.Ytgldcbcefncjjaa.F
end
