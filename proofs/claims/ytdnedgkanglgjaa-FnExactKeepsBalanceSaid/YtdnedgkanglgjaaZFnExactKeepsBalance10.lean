import Derived.Test.YtdnedgkanglgjaaZFnExactKeepsBalance2
import Derived.Deep.Slices
import Derived.Deep.Strs
import Derived.ChangeArms
import Derived.SizedLaws
import Derived.Test.YtdnedgkanglgjaaZFnExactKeepsBalance9
import Derived.Test.YtdnedgkanglgjaaZFnExactKeepsBalance3
import Derived.Test.YtdnedgkanglgjaaZFnExactKeepsBalance6
import Derived.Test.YtdnedgkanglgjaaZFnExactKeepsBalance8
import Derived.Test.YtdnedgkanglgjaaZFnExactKeepsBalance4
import Derived.Test.YtdnedgkanglgjaaZFnExactKeepsBalance7
import Derived.Test.YtdnedgkanglgjaaZFnExactKeepsBalance5
section
/- What an argument reads as, kind by kind: plain facts of my own on the model's reading; no function of the program is named here. -/
namespace Go.Proofs.Ytdnedgkanglgjaa.F
open Go.ChangeShapes Go.WideShapes Go.RowKit Go.Proofs.YtdnedgkanglgjaaW.PrintWords
/-- All that reads by type t is of kind d, and has Q. -/
def Opn {α : Type} (P : Program) (t : TypeId) (d : Kd α) (Q : α → Prop) : Prop :=
  ∀ (H : Type) (enc : TypeId × Value → H) (w : World) (base : Nat) (held : Bool) (fuel : Nat) (cs : List Value) (x : DataW H × List MemPlace), DataW.trod enc P w base (fun _ => true) held fuel t cs = some x → (∀ n ∈ x.1.weights P t, n ≤ reachBytes) → ∃ a, d.K w a cs ∧ Q a
theorem reach_eq : reachBytes = 140737488351232 := by decide
section
variable {P : Program} {t e : TypeId}
theorem Opn_int {k : IntKind} (ht : P.underlying t = some (.int k)) : Opn P t (Kd.int k) (fun n => (Lit.int k n).wf = true) := by
  intro H enc w base held fuel cs x h _
  obtain ⟨n, rfl, _, hw⟩ := DataW.trod_int ht h
  exact ⟨n, rfl, hw⟩
theorem weightsAll_mem {H : Type} {P : Program} {e : TypeId} : ∀ {ds : List (DataW H)} {d : DataW H}, d ∈ ds → ∀ n ∈ d.weights P e, n ∈ DataW.weightsAll P e ds
  | d0 :: ds, d, hd, n, hn => by
    simp only [DataW.weightsAll, List.mem_append]
    rcases List.mem_cons.mp hd with rfl | hd
    · exact Or.inl hn
    · exact Or.inr (weightsAll_mem hd n hn)
  | [], _, hd, _, _ => by simp at hd
theorem Opn_slice {α : Type} {d : Kd α} {Q : α → Prop} (e' B : Nat) (hB : P.bytesOf e = B) (ht : P.underlying t = some (.slice e)) (hc : P.cellsOf e = d.sz) (h : Opn P e d Q) :
    Opn P t (Kd.slice e' d) (fun xs => xs.length * B ≤ 140737488351232 ∧ xs.length ≤ maxLen ∧ ∀ x ∈ xs, Q x) := by
  intro H enc w base held fuel cs x hx hz
  rcases Go.Deep.open_slice ht hx with ⟨rfl, _⟩ | ⟨a, len, cap, m, n, D, Pl, rfl, _, hl, hm, hmm, rfl, hel⟩
  · exact ⟨[], ⟨none, 0, rfl, Nat.le_refl _, rfl, by simp, fun h => absurd h (by simp)⟩, by simp, by simp, by simp⟩
  · have hmm' : m = cap := by simpa using hmm
    subst hmm'
    have hz' := hz
    simp only [DataW.weights, ht] at hz'
    have each : ∀ i, i < len → ∃ y : α, (∃ c, c.length = d.sz ∧ d.K w y c ∧ ∀ j u, c[j]? = some u → w.cell? (a.add (i * d.sz + j)) = some u) ∧ Q y := by
      intro i hi
      obtain ⟨cs', h1, h2⟩ := hel i (by omega)
      obtain ⟨y, hK, hQ⟩ := h H enc w base held n cs' _ h2 (fun q hq => hz' q (List.mem_cons_of_mem _ (List.mem_append.mpr (Or.inl (weightsAll_mem (List.mem_map.mpr ⟨i, List.mem_range.mpr hi, rfl⟩) q hq)))))
      obtain ⟨_, h4, h5⟩ := World.cells?_some h1
      rw [hc] at h4 h5
      refine ⟨y, ⟨cs', h4, hK, fun j u hu => ?_⟩, hQ⟩
      have hj : j < d.sz := by
        rw [← h4]
        exact (List.getElem?_eq_some_iff.mp hu).1
      have := h5 j hj
      rw [hu] at this
      rw [← this]
      congr 1
      unfold Addr.add
      by_cases q1 : i * d.sz = 0
      · simp [q1]
      · by_cases q2 : j = 0
        · simp [q1, q2]
        · simp [q1, q2, Nat.add_assoc]
    rcases Nat.eq_zero_or_pos len with hl0 | hl0
    · subst hl0
      exact ⟨[], ⟨some a, m, rfl, by simp, rfl, by simp, fun h => absurd h (by simp)⟩, by simp, by simp, by simp⟩
    haveI : Inhabited α := ⟨Classical.choose (each 0 hl0)⟩
    obtain ⟨Y, hY⟩ := Go.Deep.choose_lt each
    refine ⟨(List.range len).map Y, ⟨some a, m, by simp, by simpa using hl, by simp, ?_, fun _ => ⟨a, rfl, ?_⟩⟩, ?_, by simp; omega, ?_⟩
    · have : maxLen ≤ 9223372036854775807 := by decide
      simp
      omega
    · intro j p hp
      simp only [List.getElem?_map, Option.map_eq_some_iff] at hp
      obtain ⟨i, hi, rfl⟩ := hp
      obtain ⟨hi1, hi2⟩ := List.getElem?_eq_some_iff.mp hi
      simp only [List.length_range] at hi1
      simp only [List.getElem_range] at hi2
      subst hi2
      exact (hY _ hi1).1
    · have := hz' _ List.mem_cons_self
      rw [hB, reach_eq] at this
      simp only [List.length_map, List.length_range] at this ⊢
      exact Nat.le_trans (Nat.mul_le_mul_right _ (Nat.le_add_right _ _)) this
    · intro x hx
      obtain ⟨i, hi, rfl⟩ := List.mem_map.mp hx
      exact (hY i (List.mem_range.mp hi)).2
theorem take_of_len {cs : List Value} {n : Nat} (h : cs.length = n) : cs.take n = cs := List.take_of_length_le (by omega)
theorem Opn_struct2 {α β : Type} {d0 : Kd α} {d1 : Kd β} {Q0 : α → Prop} {Q1 : β → Prop} {f0 f1 : Field} (ht : P.underlying t = some (.struct #[f0, f1])) (o0 : f0.offset = 0) (o1 : f1.offset = d0.sz) (c0 : P.cellsOf f0.type = d0.sz) (c1 : P.cellsOf f1.type = d1.sz) (ct : P.cellsOf t = d0.sz + d1.sz) (h0 : Opn P f0.type d0 Q0) (h1 : Opn P f1.type d1 Q1) :
    Opn P t (Kd.pair d0 d1) (fun x => Q0 x.1 ∧ Q1 x.2) := by
  intro H enc w base held fuel cs x hx hz
  obtain ⟨y0, y1, n, rfl, hl, g0, g1⟩ := trod_struct2 ht hx
  simp only [DataW.weights, ht, DataW.weightsEach, List.map_cons, List.map_nil] at hz
  obtain ⟨a, ha, qa⟩ := h0 H enc w base held n _ _ g0 (fun q hq => hz q (by simp [hq]))
  obtain ⟨b, hb, qb⟩ := h1 H enc w base held n _ _ g1 (fun q hq => hz q (by simp [hq]))
  refine ⟨(a, b), ⟨_, _, ?_, ha, hb⟩, qa, qb⟩
  rw [o0, o1, c0, c1, List.drop_zero, take_of_len (show (cs.drop d0.sz).length = d1.sz by rw [List.length_drop]; omega), List.take_append_drop]
end
end Go.Proofs.Ytdnedgkanglgjaa.F
end
section
namespace Go.Proofs.Ytdnedgkanglgjaa.F
open Go.RowKit Go.Proofs.YtdnedgkanglgjaaW.PrintWords
/-- What is to be shown of numbers and lists. -/
def laws_FnExactKeepsBalance.Pure : Prop := ∀ (l0 : List (Int)) (a1_0 : Int) (a1_1 : Int), ((l0.length * 8 ≤ 140737488351232 ∧ l0.length ≤ maxLen ∧ ∀ yl0 ∈ l0, ((Lit.int .i64 yl0).wf = true))) → (((Lit.int .i64 a1_0).wf = true) ∧ ((Lit.int .i64 a1_1).wf = true)) → ∃ k, laws_FnExactKeepsBalance.f k l0 a1_0 a1_1 = some true
end Go.Proofs.Ytdnedgkanglgjaa.F
end
section
/- What the laws' own helpers tell: equality, a copy, marks and whether they are held. -/
namespace Go.Proofs.Ytdnedgkanglgjaa.F
open Go.RowKit Go.Proofs.YtdnedgkanglgjaaW.PrintWords Go.Proofs.YtdnedgkanglgjaaW.PrintLast Go.Proofs.YtdnedgkanglgjaaW.PrintMore
set_option linter.unusedVariables false
set_option linter.unusedSimpArgs false
theorem eqIntS_at (rest : List Int) : ∀ (pre : List Int) (ys : List Int), (pre ++ ys).length ≤ 4611686018427387904 → rest.length = ys.length →
    Ev (fun k => laws_eqIntS.l0 k (pre ++ rest) (pre ++ ys) (pre.length : Int)) (decide (rest = ys)) := by
  induction rest with
  | nil =>
    intro pre ys hb hl
    obtain rfl : ys = [] := List.eq_nil_of_length_eq_zero hl.symm
    exact Ev.step (f := fun _ => some true) (fun k => by rw [laws_eqIntS.l0, if_neg (mid_nlt _)]) (Ev.now _)
  | cons x rest ih =>
    intro pre ys hb hl
    cases ys with
    | nil => simp at hl
    | cons y ys =>
      by_cases e : x = y
      · subst e
        have h := ih (pre ++ [x]) ys (by simpa using hb) (by simpa using hl)
        rw [← mid_cons, ← mid_cons] at h
        rw [show decide (x :: rest = x :: ys) = decide (rest = ys) by simp]
        exact Ev.step (fun k => by rw [laws_eqIntS.l0, if_pos (mid_lt _ _ _), if_pos (nn _), if_pos (mid_lt _ _ _), mid_rd, mid_rd, if_pos rfl, mid_succ pre x (by simp at hb; omega)]) h
      · rw [show decide (x :: rest = y :: ys) = false by simp [e]]
        exact Ev.step (f := fun _ => some false) (fun k => by rw [laws_eqIntS.l0, if_pos (mid_lt _ _ _), if_pos (nn _), if_pos (mid_lt _ _ _), mid_rd, mid_rd, if_neg e]) (Ev.now _)
theorem eqIntS_ev (l m : List Int) (hl : l.length ≤ 4611686018427387904) : Ev (fun k => laws_eqIntS.f k l m) (decide (l = m)) := by
  unfold laws_eqIntS.f
  by_cases e : (l.length : Int) = (m.length : Int)
  · have h := eqIntS_at l [] m (by simp; omega) (by omega)
    simpa [e] using h
  · have e2 : ¬ l = m := fun h => e (by rw [h])
    simp only [if_neg e, e2, decide_false]
    exact Ev.now _
theorem eqIntS_same (l : List Int) (hl : l.length ≤ 4611686018427387904) : Ev (fun k => laws_eqIntS.f k l l) true := by
  have := eqIntS_ev l l hl
  simpa using this
theorem toIntS_at (rest : List Int) : ∀ (pre zs : List Int), (pre ++ rest).length ≤ 4611686018427387904 → zs.length = rest.length →
    Ev (fun k => laws_toIntS.l0 k (pre ++ rest) (pre ++ zs) (pre.length : Int)) (pre ++ rest) := by
  induction rest with
  | nil =>
    intro pre zs hb hl
    obtain rfl : zs = [] := List.eq_nil_of_length_eq_zero hl
    exact Ev.step (f := fun _ => some (pre ++ [])) (fun k => by rw [laws_toIntS.l0, if_neg (mid_nlt _)]) (Ev.now _)
  | cons x rest ih =>
    intro pre zs hb hl
    cases zs with
    | nil => simp at hl
    | cons z zs =>
      have h := ih (pre ++ [x]) zs (by simpa using hb) (by simpa using hl)
      rw [← mid_cons] at h
      exact Ev.step (fun k => by rw [laws_toIntS.l0, if_pos (mid_lt _ _ _), if_pos (nn _), if_pos (mid_lt _ _ _), mid_rd, mid_set, mid_succ pre x (by simp at hb; omega)]) h
theorem toIntS_ev (l : List Int) (hl : l.length ≤ 35184372088832) : Ev (fun k => laws_toIntS.f k l) l := by
  unfold laws_toIntS.f
  have h := toIntS_at l [] (List.replicate l.length 0) (by simp; omega) (by simp)
  have e2 : (0 : Int) ≤ (l.length : Int) := nn _
  simpa [hl] using h
end Go.Proofs.Ytdnedgkanglgjaa.F
end
section
/- Cards, and when a list is a packet: the program's and the reference's functions tell one thing. -/
namespace Go.Proofs.Ytdnedgkanglgjaa.F
open Go.RowKit Go.Proofs.YtdnedgkanglgjaaW.PrintWords Go.Proofs.YtdnedgkanglgjaaW.PrintLast Go.Proofs.YtdnedgkanglgjaaW.PrintMore
set_option linter.unusedVariables false
set_option linter.unusedSimpArgs false
theorem wf64 {x : Int} (h : (Lit.int .i64 x).wf = true) : -9223372036854775808 ≤ x ∧ x ≤ 9223372036854775807 := by
  have := h
  simp only [Lit.wf, Bool.and_eq_true, decide_eq_true_eq] at this
  have a : IntKind.i64.min = -9223372036854775808 := by kernel_rfl
  have b : IntKind.i64.max = 9223372036854775807 := by kernel_rfl
  omega
theorem l01In_eq (a b c : Int) : spec_l01In.f a b c = some (decide (b ≤ a ∧ a ≤ c)) := by
  unfold spec_l01In.f
  by_cases h : b ≤ a
  · simp [h]
  · simp [h]
def cardOf (x : Int) : Int := if 0 ≤ x ∧ x ≤ 11 then x else if -12 ≤ x ∧ x ≤ -1 then -1 - x else -1
theorem cardOf_lt (x : Int) : cardOf x < 12 := by
  unfold cardOf
  repeat' split
  all_goals omega
theorem spec_CardOf_eq (x : Int) : spec_CardOf.f x = some (cardOf x) := by
  unfold spec_CardOf.f cardOf
  rw [l01In_eq, l01In_eq]
  by_cases h : 0 ≤ x ∧ x ≤ 11
  · simp [h]
  · by_cases k : -12 ≤ x ∧ x ≤ -1
    · have e : wrap64 (-1 - x) = -1 - x := w64_id (by omega) (by omega)
      simp [h, k, e]
    · simp [h, k]
theorem impl_CardOf_eq (x : Int) (h0 : -9223372036854775808 ≤ x) : impl_CardOf.f x = some (cardOf x) := by
  unfold impl_CardOf.f cardOf
  by_cases h : x < 0
  · have e : wrap64 (-1 - x) = -1 - x := w64_id (by omega) (by omega)
    simp only [if_pos h, e]
    by_cases k : -1 - x ≥ 12
    · rw [if_pos k, if_neg (by omega), if_neg (by omega)]
    · rw [if_neg k, if_neg (by omega), if_pos (by omega)]
  · simp only [if_neg h]
    by_cases k : x ≥ 12
    · rw [if_pos k, if_neg (by omega), if_neg (by omega)]
    · rw [if_neg k, if_pos (by omega)]
theorem l02Has_at (x : Int) (rest : List Int) : ∀ (pre : List Int), (pre ++ rest).length ≤ 4611686018427387904 →
    Ev (fun k => spec_l02Has.l0 k x (pre ++ rest) ((pre ++ rest).length : Int) (pre.length : Int)) (rest.contains x) := by
  induction rest with
  | nil =>
    intro pre hb
    exact Ev.step (f := fun _ => some false) (fun k => by rw [spec_l02Has.l0, if_neg (mid_nlt _)]) (Ev.now _)
  | cons y rest ih =>
    intro pre hb
    by_cases e : y = x
    · subst e
      simp only [List.contains_cons, beq_self_eq_true, Bool.true_or]
      exact Ev.step (f := fun _ => some true) (fun k => by rw [spec_l02Has.l0, if_pos (mid_lt _ _ _), if_pos (nn _), if_pos (mid_lt _ _ _), mid_rd, if_pos rfl]) (Ev.now _)
    · have h := ih (pre ++ [y]) (by simpa using hb)
      rw [← mid_cons] at h
      rw [show (y :: rest).contains x = rest.contains x by simp only [List.contains_cons]; rw [show (x == y) = false by simpa using fun h => e h.symm]; rfl]
      exact Ev.step (fun k => by rw [spec_l02Has.l0, if_pos (mid_lt _ _ _), if_pos (nn _), if_pos (mid_lt _ _ _), mid_rd, if_neg e, mid_succ pre y (by simp at hb; omega)]) h
theorem l02Has_ev (l : List Int) (x : Int) (hb : l.length ≤ 4611686018427387904) : Ev (fun k => spec_l02Has.f k l x) (l.contains x) := l02Has_at x l [] hb
/-- Is a list a packet: the cards met so far are told by twelve bools. -/
def packetM : List Bool → List Int → Bool
  | _, [] => true
  | met, x :: xs => if cardOf x < 0 then false else if met.getD (cardOf x).toNat false = true then false else packetM (met.set (cardOf x).toNat true) xs
def packetB (l : List Int) : Bool := packetM (List.replicate 12 false) l
theorem impl_PacketOk_at (rest : List Int) : ∀ (pre : List Int) (met : List Bool), (pre ++ rest).length ≤ 4611686018427387904 → (∀ x ∈ rest, -9223372036854775808 ≤ x) →
    Ev (fun k => impl_PacketOk.l0 k (pre ++ rest) met (pre.length : Int)) (packetM met rest) := by
  induction rest with
  | nil =>
    intro pre met hb hw
    exact Ev.step (f := fun _ => some true) (fun k => by rw [impl_PacketOk.l0, if_neg (mid_nlt _)]) (Ev.now _)
  | cons x rest ih =>
    intro pre met hb hw
    have hx := hw x (by simp)
    unfold packetM
    by_cases c : cardOf x < 0
    · rw [if_pos c]
      exact Ev.step (f := fun _ => some false) (fun k => by rw [impl_PacketOk.l0, if_pos (mid_lt _ _ _), if_pos (nn _), mid_rd, impl_CardOf_eq x hx]; simp only [Option.bind_some]; rw [if_pos c]) (Ev.now _)
    · rw [if_neg c]
      by_cases m : met.getD (cardOf x).toNat false = true
      · rw [if_pos m]
        exact Ev.step (f := fun _ => some false) (fun k => by rw [impl_PacketOk.l0, if_pos (mid_lt _ _ _), if_pos (nn _), mid_rd, impl_CardOf_eq x hx]; simp only [Option.bind_some]; rw [if_neg c, if_pos (cardOf_lt x), if_pos m]) (Ev.now _)
      · rw [if_neg m]
        have h := ih (pre ++ [x]) (met.set (cardOf x).toNat true) (by simpa using hb) (fun y hy => hw y (by simp [hy]))
        rw [← mid_cons] at h
        exact Ev.step (fun k => by rw [impl_PacketOk.l0, if_pos (mid_lt _ _ _), if_pos (nn _), mid_rd, impl_CardOf_eq x hx]; simp only [Option.bind_some]; rw [if_neg c, if_pos (cardOf_lt x), if_neg m, mid_succ pre x (by simp at hb; omega)]) h
theorem impl_PacketOk_ev (l : List Int) (hb : l.length ≤ 4611686018427387904) (hw : ∀ x ∈ l, -9223372036854775808 ≤ x) : Ev (fun k => impl_PacketOk.f k l) (packetB l) := impl_PacketOk_at l [] _ hb hw
theorem count_set (l : List Bool) : ∀ i, i < l.length → l.getD i false ≠ true → (l.set i true).count true = l.count true + 1 := by
  induction l with
  | nil => intro i h; simp at h
  | cons b l ih =>
    intro i h hb
    cases i with
    | zero =>
      cases b with
      | true => simp at hb
      | false => simp
    | succ i =>
      have := ih i (by simpa using h) (by simpa using hb)
      simp only [List.set_cons_succ, List.count_cons]
      omega
theorem packetM_len (xs : List Int) : ∀ met : List Bool, met.length = 12 → packetM met xs = true → met.count true + xs.length ≤ 12 := by
  induction xs with
  | nil =>
    intro met hl _
    have := List.count_le_length (a := true) (l := met)
    simp; omega
  | cons x xs ih =>
    intro met hl h
    unfold packetM at h
    by_cases c : cardOf x < 0
    · rw [if_pos c] at h; cases h
    · rw [if_neg c] at h
      by_cases m : met.getD (cardOf x).toNat false = true
      · rw [if_pos m] at h; cases h
      · rw [if_neg m] at h
        have h1 := ih _ (by simpa using hl) h
        have := cardOf_lt x
        rw [count_set met _ (by omega) m] at h1
        simp; omega
theorem packetB_len {l : List Int} (h : packetB l = true) : l.length ≤ 12 := by
  have := packetM_len l _ (by simp) h
  simp at this
  omega
theorem set_getD (met : List Bool) (i j : Nat) (hi : i < met.length) : (met.set i true).getD j false = (decide (j = i) || met.getD j false) := by
  by_cases e : j = i
  · subst e
    simp [List.getD_eq_getElem?_getD, hi]
  · have e' : ¬ i = j := fun h => e h.symm
    simp [List.getD_eq_getElem?_getD, List.getElem?_set, e, e']
theorem spec_PacketOk_at (rest : List Int) : ∀ (pre seen : List Int) (met : List Bool), (pre ++ rest).length ≤ 12 → seen.length = pre.length → met.length = 12 → (∀ c : Int, 0 ≤ c → c < 12 → seen.contains c = met.getD c.toNat false) →
    Ev (fun k => spec_PacketOk.l0 k seen (pre ++ rest) ((pre ++ rest).length : Int) (pre.length : Int)) (packetM met rest) := by
  induction rest with
  | nil =>
    intro pre seen met hb hs hm hr
    exact Ev.step (f := fun _ => some true) (fun k => by rw [spec_PacketOk.l0, if_neg (mid_nlt _)]) (Ev.now _)
  | cons x rest ih =>
    intro pre seen met hb hs hm hr
    have hlt := cardOf_lt x
    unfold packetM
    by_cases c : cardOf x < 0
    · rw [if_pos c]
      exact Ev.step (f := fun _ => some false) (fun k => by rw [spec_PacketOk.l0, if_pos (mid_lt _ _ _), if_pos (nn _), if_pos (mid_lt _ _ _), mid_rd, spec_CardOf_eq x]; simp only [Option.bind_some]; rw [if_pos c]) (Ev.now _)
    · rw [if_neg c]
      have hh := l02Has_ev seen (cardOf x) (by simp at hb; omega)
      rw [hr _ (by omega) hlt] at hh
      by_cases m : met.getD (cardOf x).toNat false = true
      · rw [if_pos m]
        rw [m] at hh
        refine Ev.stepb hh (fun k => by rw [spec_PacketOk.l0, if_pos (mid_lt _ _ _), if_pos (nn _), if_pos (mid_lt _ _ _), mid_rd, spec_CardOf_eq x]; simp only [Option.bind_some]; rw [if_neg c]) ?_
        simp only [if_true]
        exact Ev.now _
      · rw [if_neg m]
        have m' : met.getD (cardOf x).toNat false = false := by simpa using m
        rw [m'] at hh
        have h := ih (pre ++ [x]) (seen ++ [cardOf x]) (met.set (cardOf x).toNat true) (by simpa using hb) (by simp [hs]) (by simpa using hm) (by
          intro d d0 d1
          rw [set_getD met _ _ (by omega), ← hr d d0 d1]
          rw [Bool.eq_iff_iff]
          simp only [List.contains_iff_mem, List.mem_append, List.mem_singleton, Bool.or_eq_true, decide_eq_true_eq]
          constructor
          · rintro (h | h)
            · exact .inr h
            · exact .inl (by omega)
          · rintro (h | h)
            · exact .inr (by omega)
            · exact .inl h)
        rw [← mid_cons] at h
        refine Ev.stepb hh (fun k => by rw [spec_PacketOk.l0, if_pos (mid_lt _ _ _), if_pos (nn _), if_pos (mid_lt _ _ _), mid_rd, spec_CardOf_eq x]; simp only [Option.bind_some]; rw [if_neg c]) ?_
        have hl : seen.length < 17592186044416 := by simp at hb; omega
        have hs2 := mid_succ pre x (by simp at hb; omega)
        simpa [hl, hs2] using h
theorem spec_PacketOk_ev (l : List Int) : Ev (fun k => spec_PacketOk.f k l) (packetB l) := by
  unfold spec_PacketOk.f
  by_cases h : (l.length : Int) > 12
  · have : packetB l = false := by
      cases e : packetB l with
      | false => rfl
      | true => have := packetB_len e; omega
    rw [this]
    simp only [if_pos h]
    exact Ev.now _
  · simp only [if_neg h]
    exact spec_PacketOk_at l [] [] _ (by simp; omega) rfl (by simp) (by
      intro c h0 h1
      have : c.toNat < 12 := by omega
      rw [List.getD_eq_getElem?_getD, List.getElem?_replicate, if_pos this]
      rfl)
end Go.Proofs.Ytdnedgkanglgjaa.F
end
section
/- Cards that lie face up: the program's function. -/
namespace Go.Proofs.Ytdnedgkanglgjaa.F
open Go.RowKit Go.Proofs.YtdnedgkanglgjaaW.PrintWords Go.Proofs.YtdnedgkanglgjaaW.PrintLast Go.Proofs.YtdnedgkanglgjaaW.PrintMore
set_option linter.unusedVariables false
set_option linter.unusedSimpArgs false
def isUp (x : Int) : Bool := decide (-12 ≤ x ∧ x ≤ -1)
theorem impl_IsUp_eq (x : Int) (h0 : -9223372036854775808 ≤ x) : impl_IsUp.f x = some (isUp x) := by
  unfold impl_IsUp.f isUp
  by_cases h : x < 0
  · rw [if_pos h, impl_CardOf_eq x h0]
    unfold cardOf
    simp only [Option.bind_some]
    congr 1
    by_cases k : -12 ≤ x
    · rw [if_neg (by omega), if_pos (by omega)]; simp; omega
    · rw [if_neg (by omega), if_neg (by omega)]; simp; omega
  · rw [if_neg h]; simp; omega
end Go.Proofs.Ytdnedgkanglgjaa.F
end
section
/- The balance: the program's function. -/
namespace Go.Proofs.Ytdnedgkanglgjaa.F
open Go.RowKit Go.Proofs.YtdnedgkanglgjaaW.PrintWords Go.Proofs.YtdnedgkanglgjaaW.PrintLast Go.Proofs.YtdnedgkanglgjaaW.PrintMore
set_option linter.unusedVariables false
set_option linter.unusedSimpArgs false
def balGo : Nat → List Int → Int → Int
  | _, [], n => n
  | i, x :: xs, n => balGo (i + 1) xs (if (isUp x == (Int.tmod (i : Int) 2 == 0)) = true then wrap64 (n + 1) else n)
theorem impl_bal_at (rest : List Int) : ∀ (pre : List Int) (n : Int), (pre ++ rest).length ≤ 4611686018427387904 → (∀ x ∈ rest, -9223372036854775808 ≤ x) →
    Ev (fun k => impl_BalanceOf.l0 k n (pre ++ rest) ((pre ++ rest).length : Int) (pre.length : Int)) (balGo pre.length rest n, true) := by
  induction rest with
  | nil =>
    intro pre n hb hw
    exact Ev.step (f := fun _ => some (n, true)) (fun k => by rw [impl_BalanceOf.l0, if_neg (mid_nlt _)]) (Ev.now _)
  | cons x rest ih =>
    intro pre n hb hw
    have hx := hw x (by simp)
    have hs := mid_succ pre x (by simp at hb; omega)
    unfold balGo
    have h := ih (pre ++ [x]) (if (isUp x == (Int.tmod (pre.length : Int) 2 == 0)) = true then wrap64 (n + 1) else n) (by simpa using hb) (fun y hy => hw y (by simp [hy]))
    rw [← mid_cons, show (pre ++ [x]).length = pre.length + 1 by simp] at h
    rw [show (pre ++ [x]).length = pre.length + 1 by simp] at hs
    by_cases c : (isUp x == (Int.tmod (pre.length : Int) 2 == 0)) = true
    · rw [if_pos c] at h ⊢
      exact Ev.step (fun k => by rw [impl_BalanceOf.l0, if_pos (mid_lt _ _ _), if_pos (nn _), if_pos (mid_lt _ _ _), mid_rd, impl_IsUp_eq x hx]; simp only [Option.bind_some]; rw [if_pos c, hs]) h
    · rw [if_neg c] at h ⊢
      exact Ev.step (fun k => by rw [impl_BalanceOf.l0, if_pos (mid_lt _ _ _), if_pos (nn _), if_pos (mid_lt _ _ _), mid_rd, impl_IsUp_eq x hx]; simp only [Option.bind_some]; rw [if_neg c, hs]) h
def balanceOf (l : List Int) : Int × Bool := if packetB l = true ∧ (l.length : Int) % 2 = 0 then (balGo 0 l 0, true) else (0, false)
theorem impl_bal_ev (l : List Int) (hb : l.length ≤ 4611686018427387904) (hw : ∀ x ∈ l, -9223372036854775808 ≤ x) : Ev (fun k => impl_BalanceOf.f k l) (balanceOf l) := by
  unfold impl_BalanceOf.f balanceOf
  refine Ev.bind (impl_PacketOk_ev l hb hw) ?_
  by_cases p : packetB l = true
  · by_cases e : (l.length : Int) % 2 = 0
    · simp only [p, e, if_true, true_and]
      refine Ev.succ ?_
      simp only [impl_BalanceOf.j0, bne_self_eq_false, Bool.false_eq_true, if_false]
      exact impl_bal_at l [] 0 hb hw
    · have e' : ((l.length : Int) % 2 != 0) = true := by simpa using e
      simp only [p, e, e', if_true, if_false, true_and]
      refine Ev.succ ?_
      simp only [impl_BalanceOf.j0, if_true]
      exact Ev.now _
  · simp only [p, if_false, false_and]
    refine Ev.succ ?_
    simp only [impl_BalanceOf.j0, if_true]
    exact Ev.now _
end Go.Proofs.Ytdnedgkanglgjaa.F
end
section
/- Cards that lie face up: the reference's function. -/
namespace Go.Proofs.Ytdnedgkanglgjaa.F
open Go.RowKit Go.Proofs.YtdnedgkanglgjaaW.PrintWords Go.Proofs.YtdnedgkanglgjaaW.PrintLast Go.Proofs.YtdnedgkanglgjaaW.PrintMore
set_option linter.unusedVariables false
set_option linter.unusedSimpArgs false
theorem spec_IsUp_eq (x : Int) : spec_IsUp.f x = some (isUp x) := by
  unfold spec_IsUp.f isUp
  rw [l01In_eq]; rfl
end Go.Proofs.Ytdnedgkanglgjaa.F
end
section
/- The balance: the reference's function. -/
namespace Go.Proofs.Ytdnedgkanglgjaa.F
open Go.RowKit Go.Proofs.YtdnedgkanglgjaaW.PrintWords Go.Proofs.YtdnedgkanglgjaaW.PrintLast Go.Proofs.YtdnedgkanglgjaaW.PrintMore
set_option linter.unusedVariables false
set_option linter.unusedSimpArgs false
theorem spec_bal_at (rest : List Int) : ∀ (pre : List Int) (n : Int), (pre ++ rest).length ≤ 4611686018427387904 →
    Ev (fun k => spec_l10Balance.l0 k n (pre ++ rest) ((pre ++ rest).length : Int) (pre.length : Int)) (balGo pre.length rest n) := by
  induction rest with
  | nil =>
    intro pre n hb
    exact Ev.step (f := fun _ => some n) (fun k => by rw [spec_l10Balance.l0, if_neg (mid_nlt _)]) (Ev.now _)
  | cons x rest ih =>
    intro pre n hb
    have hs := mid_succ pre x (by simp at hb; omega)
    unfold balGo
    have h := ih (pre ++ [x]) (if (isUp x == (Int.tmod (pre.length : Int) 2 == 0)) = true then wrap64 (n + 1) else n) (by simpa using hb)
    rw [← mid_cons, show (pre ++ [x]).length = pre.length + 1 by simp] at h
    rw [show (pre ++ [x]).length = pre.length + 1 by simp] at hs
    by_cases c : (isUp x == (Int.tmod (pre.length : Int) 2 == 0)) = true
    · rw [if_pos c] at h ⊢
      exact Ev.step (fun k => by rw [spec_l10Balance.l0, if_pos (mid_lt _ _ _), if_pos (nn _), if_pos (mid_lt _ _ _), mid_rd, spec_IsUp_eq]; simp only [Option.bind_some]; rw [if_pos c, hs]) h
    · rw [if_neg c] at h ⊢
      exact Ev.step (fun k => by rw [spec_l10Balance.l0, if_pos (mid_lt _ _ _), if_pos (nn _), if_pos (mid_lt _ _ _), mid_rd, spec_IsUp_eq]; simp only [Option.bind_some]; rw [if_neg c, hs]) h
theorem spec_bal_ev (l : List Int) (hb : l.length ≤ 4611686018427387904) : Ev (fun k => spec_BalanceOf.f k l) (balanceOf l) := by
  unfold spec_BalanceOf.f balanceOf
  refine Ev.bind (spec_PacketOk_ev l) ?_
  by_cases p : packetB l = true
  · by_cases e : (l.length : Int) % 2 = 0
    · simp only [p, e, if_true, true_and]
      refine Ev.bind (spec_bal_at l [] 0 hb) ?_
      exact Ev.now _
    · simp only [p, e, if_true, if_false, true_and]
      exact Ev.now _
  · simp only [p, if_false, false_and]
    exact Ev.now _
end Go.Proofs.Ytdnedgkanglgjaa.F
end
section
/- When a list is a packet, by its cards. -/
namespace Go.Proofs.Ytdnedgkanglgjaa.F
open Go.RowKit Go.Proofs.YtdnedgkanglgjaaW.PrintWords Go.Proofs.YtdnedgkanglgjaaW.PrintLast Go.Proofs.YtdnedgkanglgjaaW.PrintMore
set_option linter.unusedVariables false
set_option linter.unusedSimpArgs false
theorem packetM_back (xs : List Int) : ∀ met : List Bool, met.length = 12 → (∀ x ∈ xs, 0 ≤ cardOf x ∧ met.getD (cardOf x).toNat false = false) → (xs.map cardOf).Nodup → packetM met xs = true := by
  induction xs with
  | nil => intro met hm h hn; rfl
  | cons x xs ih =>
    intro met hm h hn
    have hx := h x (by simp)
    rw [List.map_cons, List.nodup_cons] at hn
    have hlt := cardOf_lt x
    unfold packetM
    rw [if_neg (by omega), hx.2, if_neg (by simp)]
    refine ih _ (by rw [List.length_set]; exact hm) (fun y hy => ?_) hn.2
    have hyy := h y (by simp [hy])
    refine ⟨hyy.1, ?_⟩
    rw [set_getD met _ _ (by omega), hyy.2, Bool.or_false]
    refine decide_eq_false (fun e => hn.1 ?_)
    have : cardOf y = cardOf x := by omega
    rw [← this]
    exact List.mem_map.mpr ⟨y, hy, rfl⟩
theorem packetM_nd (xs : List Int) : ∀ met : List Bool, met.length = 12 → packetM met xs = true → (∀ x ∈ xs, 0 ≤ cardOf x ∧ met.getD (cardOf x).toNat false = false) ∧ (xs.map cardOf).Nodup := by
  induction xs with
  | nil => intro met hm h; exact ⟨by simp, by simp⟩
  | cons x xs ih =>
    intro met hm h
    have hlt := cardOf_lt x
    unfold packetM at h
    by_cases c : cardOf x < 0
    · rw [if_pos c] at h; exact absurd h (by simp)
    · rw [if_neg c] at h
      by_cases d : met.getD (cardOf x).toNat false = true
      · rw [if_pos d] at h; exact absurd h (by simp)
      · rw [if_neg d] at h
        obtain ⟨h1, h2⟩ := ih _ (by rw [List.length_set]; exact hm) h
        have d' : met.getD (cardOf x).toNat false = false := by simpa using d
        refine ⟨fun y hy => ?_, ?_⟩
        · rcases List.mem_cons.mp hy with rfl | hy
          · exact ⟨by omega, d'⟩
          · have := h1 y hy
            rw [set_getD met _ _ (by omega), Bool.or_eq_false_iff] at this
            exact ⟨this.1, this.2.2⟩
        · rw [List.map_cons, List.nodup_cons]
          refine ⟨fun hm2 => ?_, h2⟩
          obtain ⟨y, hy, e⟩ := List.mem_map.mp hm2
          have := h1 y hy
          rw [set_getD met _ _ (by omega), Bool.or_eq_false_iff] at this
          have h3 := of_decide_eq_false this.2.1
          exact h3 (by rw [e])
theorem packetB_iff (l : List Int) : packetB l = true ↔ (∀ x ∈ l, 0 ≤ cardOf x) ∧ (l.map cardOf).Nodup := by
  constructor
  · intro h
    obtain ⟨h1, h2⟩ := packetM_nd l _ (by simp) h
    exact ⟨fun x hx => (h1 x hx).1, h2⟩
  · rintro ⟨h1, h2⟩
    refine packetM_back l _ (by simp) (fun x hx => ⟨h1 x hx, ?_⟩) h2
    generalize (cardOf x).toNat = i
    rw [List.getD_eq_getElem?_getD, List.getElem?_replicate]
    split <;> rfl
theorem packetB_perm {p q : List Int} (h : (q.map cardOf).Perm (p.map cardOf)) (hp : packetB p = true) : packetB q = true := by
  obtain ⟨h1, h2⟩ := (packetB_iff p).mp hp
  refine (packetB_iff q).mpr ⟨fun x hx => ?_, h.nodup_iff.mpr h2⟩
  have : cardOf x ∈ p.map cardOf := h.mem_iff.mp (List.mem_map.mpr ⟨x, hx, rfl⟩)
  obtain ⟨y, hy, e⟩ := List.mem_map.mp this
  rw [← e]
  exact h1 y hy
end Go.Proofs.Ytdnedgkanglgjaa.F
end
section
/- When a move is right: the program's check. -/
namespace Go.Proofs.Ytdnedgkanglgjaa.F
open Go.RowKit Go.Proofs.YtdnedgkanglgjaaW.PrintWords Go.Proofs.YtdnedgkanglgjaaW.PrintLast Go.Proofs.YtdnedgkanglgjaaW.PrintMore
set_option linter.unusedVariables false
set_option linter.unusedSimpArgs false
def moveB (n c a : Int) : Bool := decide (1 ≤ n ∧ n ≤ 12) && (if c = 1 ∨ c = 2 ∨ c = 3 then decide (0 ≤ a ∧ a ≤ n) else if c = 4 ∨ c = 5 ∨ c = 7 then decide (0 ≤ a ∧ a ≤ 1) else if c = 6 then decide (a = 0) else if c = 8 ∨ c = 9 then decide (0 ≤ a ∧ a < n) else false)
theorem impl_MoveOk_eq (k : Nat) (n c a : Int) : impl_MoveOk.f (k + 5) n c a = some (moveB n c a) := by
  unfold impl_MoveOk.f moveB
  by_cases h1 : n < 1
  · rw [if_pos h1, decide_eq_false (by omega), Bool.false_and]; rfl
  · rw [if_neg h1]
    by_cases h2 : n > 12
    · rw [if_pos h2, decide_eq_false (by omega), Bool.false_and]; rfl
    · rw [if_neg h2, decide_eq_true (show 1 ≤ n ∧ n ≤ 12 by omega), Bool.true_and]
      by_cases h3 : a < 0
      · rw [decide_eq_true h3]
        have e1 : decide (0 ≤ a ∧ a ≤ n) = false := decide_eq_false (by omega)
        have e2 : decide (0 ≤ a ∧ a ≤ 1) = false := decide_eq_false (by omega)
        have e3 : decide (0 ≤ a ∧ a < n) = false := decide_eq_false (by omega)
        have e4 : decide (a = 0) = false := decide_eq_false (by omega)
        rw [e1, e2, e3, e4]
        simp [impl_MoveOk.j0]
      · rw [decide_eq_false h3]
        have e0 : 0 ≤ a := by omega
        by_cases c1 : c = 1
        · subst c1; simp [impl_MoveOk.j0, impl_MoveOk.j1, e0]
        by_cases c2 : c = 2
        · subst c2; simp [impl_MoveOk.j0, impl_MoveOk.j1, e0]
        by_cases c3 : c = 3
        · subst c3; simp [impl_MoveOk.j0, impl_MoveOk.j1, e0]
        by_cases c4 : c = 4
        · subst c4; simp [impl_MoveOk.j0, impl_MoveOk.j1, impl_MoveOk.j2, e0]
        by_cases c5 : c = 5
        · subst c5; simp [impl_MoveOk.j0, impl_MoveOk.j1, impl_MoveOk.j2, e0]
        by_cases c7 : c = 7
        · subst c7; simp [impl_MoveOk.j0, impl_MoveOk.j1, impl_MoveOk.j2, e0]
        by_cases c6 : c = 6
        · subst c6; simp [impl_MoveOk.j0, impl_MoveOk.j1, impl_MoveOk.j2]; rfl
        by_cases c8 : c = 8
        · subst c8; simp [impl_MoveOk.j0, impl_MoveOk.j1, impl_MoveOk.j2, e0]
        by_cases c9 : c = 9
        · subst c9; simp [impl_MoveOk.j0, impl_MoveOk.j1, impl_MoveOk.j2, e0]
        simp [impl_MoveOk.j0, impl_MoveOk.j1, impl_MoveOk.j2, c1, c2, c3, c4, c5, c6, c7, c8, c9]
theorem impl_MoveOk_ev (n c a : Int) : Ev (fun k => impl_MoveOk.f k n c a) (moveB n c a) := Ev.at_ 5 (fun k hk => by obtain ⟨m, rfl⟩ := Nat.exists_eq_add_of_le' hk; exact impl_MoveOk_eq m n c a)
end Go.Proofs.Ytdnedgkanglgjaa.F
end
section
/- When a move is right: the reference's check. -/
namespace Go.Proofs.Ytdnedgkanglgjaa.F
open Go.RowKit Go.Proofs.YtdnedgkanglgjaaW.PrintWords Go.Proofs.YtdnedgkanglgjaaW.PrintLast Go.Proofs.YtdnedgkanglgjaaW.PrintMore
set_option linter.unusedVariables false
set_option linter.unusedSimpArgs false
theorem spec_MoveOk_eq (k : Nat) (n c a : Int) : spec_MoveOk.f (k + 5) n c a = some (moveB n c a) := by
  unfold spec_MoveOk.f moveB
  rw [l01In_eq]
  by_cases h1 : 1 ≤ n ∧ n ≤ 12
  · have hw : wrap64 (n - 1) = n - 1 := w64_id (by omega) (by omega)
    have e5 : (a ≤ n - 1) = (a < n) := by rw [eq_iff_iff]; omega
    rw [decide_eq_true h1, Option.bind_some, if_pos rfl, Bool.true_and]
    by_cases c1 : c = 1
    · subst c1; simp [spec_MoveOk.j0, spec_MoveOk.j1, l01In_eq]
    by_cases c2 : c = 2
    · subst c2; simp [spec_MoveOk.j0, spec_MoveOk.j1, l01In_eq]
    by_cases c3 : c = 3
    · subst c3; simp [spec_MoveOk.j0, spec_MoveOk.j1, l01In_eq]
    by_cases c4 : c = 4
    · subst c4; simp [spec_MoveOk.j0, spec_MoveOk.j1, l01In_eq]
    by_cases c5 : c = 5
    · subst c5; simp [spec_MoveOk.j0, spec_MoveOk.j1, l01In_eq]
    by_cases c7 : c = 7
    · subst c7; simp [spec_MoveOk.j0, spec_MoveOk.j1, l01In_eq]
    by_cases c6 : c = 6
    · subst c6; simp [spec_MoveOk.j0, spec_MoveOk.j1, l01In_eq]; rfl
    by_cases c8 : c = 8
    · subst c8; simp [spec_MoveOk.j0, spec_MoveOk.j1, l01In_eq, hw, e5]
    by_cases c9 : c = 9
    · subst c9; simp [spec_MoveOk.j0, spec_MoveOk.j1, l01In_eq, hw, e5]
    simp [spec_MoveOk.j0, spec_MoveOk.j1, l01In_eq, c1, c2, c3, c4, c5, c6, c7, c8, c9]
  · rw [decide_eq_false h1, Option.bind_some, if_neg (by simp), Bool.false_and]
theorem spec_MoveOk_ev (n c a : Int) : Ev (fun k => spec_MoveOk.f k n c a) (moveB n c a) := Ev.at_ 5 (fun k hk => by obtain ⟨m, rfl⟩ := Nat.exists_eq_add_of_le' hk; exact spec_MoveOk_eq m n c a)
end Go.Proofs.Ytdnedgkanglgjaa.F
end
section
/- Cards turned over: the program's function. -/
namespace Go.Proofs.Ytdnedgkanglgjaa.F
open Go.RowKit Go.Proofs.YtdnedgkanglgjaaW.PrintWords Go.Proofs.YtdnedgkanglgjaaW.PrintLast Go.Proofs.YtdnedgkanglgjaaW.PrintMore
set_option linter.unusedVariables false
set_option linter.unusedSimpArgs false
def turnC (x : Int) : Int := if cardOf x < 0 then x else -1 - x
theorem card_small {x : Int} (h : 0 ≤ cardOf x) : -12 ≤ x ∧ x ≤ 11 := by
  unfold cardOf at h
  by_cases c : 0 ≤ x ∧ x ≤ 11
  · omega
  · rw [if_neg c] at h
    by_cases d : -12 ≤ x ∧ x ≤ -1
    · omega
    · rw [if_neg d] at h; omega
theorem impl_turn (x : Int) (h : -9223372036854775808 ≤ x) : impl_TurnCard.f x = some (turnC x) := by
  unfold impl_TurnCard.f turnC
  rw [impl_CardOf_eq x h]
  simp only [Option.bind_some]
  by_cases c : cardOf x < 0
  · rw [if_pos c, if_pos c]
  · have := card_small (x := x) (by omega)
    rw [if_neg c, if_neg c, w64_id (by omega) (by omega)]
end Go.Proofs.Ytdnedgkanglgjaa.F
end
section
/- Cards turned over: the reference's function. -/
namespace Go.Proofs.Ytdnedgkanglgjaa.F
open Go.RowKit Go.Proofs.YtdnedgkanglgjaaW.PrintWords Go.Proofs.YtdnedgkanglgjaaW.PrintLast Go.Proofs.YtdnedgkanglgjaaW.PrintMore
set_option linter.unusedVariables false
set_option linter.unusedSimpArgs false
theorem spec_turn (x : Int) : spec_TurnCard.f x = some (turnC x) := by
  unfold spec_TurnCard.f turnC
  rw [spec_CardOf_eq]
  simp only [Option.bind_some]
  by_cases c : cardOf x < 0
  · rw [if_pos c, if_pos c]
  · have := card_small (x := x) (by omega)
    rw [if_neg c, if_neg c, w64_id (by omega) (by omega)]
end Go.Proofs.Ytdnedgkanglgjaa.F
end
section
/- Lists put together, and lists in reverse order. -/
namespace Go.Proofs.Ytdnedgkanglgjaa.F
open Go.RowKit Go.Proofs.YtdnedgkanglgjaaW.PrintWords Go.Proofs.YtdnedgkanglgjaaW.PrintLast Go.Proofs.YtdnedgkanglgjaaW.PrintMore
set_option linter.unusedVariables false
set_option linter.unusedSimpArgs false
def lens (l : List (List Int)) : Nat := (l.map List.length).sum
theorem lens_cons (x : List Int) (l : List (List Int)) : lens (x :: l) = x.length + lens l := by simp [lens]
theorem mid_rdLL (pre : List (List Int)) (x : List Int) (rest : List (List Int)) : rd_L2 (pre ++ x :: rest) (pre.length : Int) = x := by
  unfold rd_L2
  simp
theorem concat_l1 (rest : List (List Int)) : ∀ (pre : List (List Int)) (acc : List Int), (pre ++ rest).length ≤ 4611686018427387904 → acc.length + lens rest < 17592186044416 →
    Ev (fun k => slices_Concat_Lint_int.l1 k acc (pre ++ rest) ((pre ++ rest).length : Int) (pre.length : Int)) (acc ++ rest.flatten) := by
  induction rest with
  | nil =>
    intro pre acc hb hl
    rw [show acc ++ ([] : List (List Int)).flatten = acc by simp]
    refine Ev.step (f := fun _ => some acc) (fun k => ?_) (Ev.now _)
    show slices_Concat_Lint_int.l1 (k + 1) _ _ _ _ = _
    rw [slices_Concat_Lint_int.l1, if_neg (mid_nlt _)]
  | cons x rest ih =>
    intro pre acc hb hl
    rw [lens_cons] at hl
    have h := ih (pre ++ [x]) (acc ++ x) (by simpa using hb) (by rw [List.length_append]; omega)
    rw [← mid_cons, ← mid_succ pre x (by simp at hb; omega)] at h
    rw [show acc ++ (x :: rest).flatten = acc ++ x ++ rest.flatten by simp]
    refine Ev.step (fun k => ?_) h
    show slices_Concat_Lint_int.l1 (k + 1) _ _ _ _ = _
    rw [slices_Concat_Lint_int.l1, if_pos (mid_lt _ _ _), if_pos (nn _), if_pos (mid_lt _ _ _), mid_rdLL, if_pos (by omega)]
theorem concat_l0 (X : List (List Int)) (hX : X.length ≤ 4611686018427387904) (hl : lens X < 17592186044416) (rest : List (List Int)) : ∀ (pre : List (List Int)) (s : Nat), (pre ++ rest).length ≤ 4611686018427387904 → s + lens rest < 17592186044416 →
    Ev (fun k => slices_Concat_Lint_int.l0 k X (s : Int) (pre ++ rest) ((pre ++ rest).length : Int) (pre.length : Int)) X.flatten := by
  induction rest with
  | nil =>
    intro pre s hb hs
    have h := concat_l1 X [] [] hX (by simpa using hl)
    have hg : slices_Grow_Lint_int__nil.f (s : Int) = some [] := by
      unfold slices_Grow_Lint_int__nil.f
      rw [if_pos (nn _), if_pos (by omega)]
    refine Ev.step (fun k => ?_) h
    show slices_Concat_Lint_int.l0 (k + 1) _ _ _ _ _ = _
    rw [slices_Concat_Lint_int.l0, if_neg (mid_nlt _), hg]
    rfl
  | cons x rest ih =>
    intro pre s hb hs
    rw [lens_cons] at hs
    have h := ih (pre ++ [x]) (s + x.length) (by simpa using hb) (by omega)
    rw [← mid_cons, ← mid_succ pre x (by simp at hb; omega)] at h
    have hw : wrap64 ((s : Int) + (x.length : Int)) = ((s + x.length : Nat) : Int) := by rw [w64_id (by omega) (by omega)]; omega
    refine Ev.step (fun k => ?_) h
    show slices_Concat_Lint_int.l0 (k + 1) _ _ _ _ _ = _
    rw [slices_Concat_Lint_int.l0, if_pos (mid_lt _ _ _), if_pos (nn _), if_pos (mid_lt _ _ _), mid_rdLL, hw, if_neg (by omega)]
theorem concat_ev (X : List (List Int)) (hX : X.length ≤ 4611686018427387904) (hl : lens X < 17592186044416) : Ev (fun k => slices_Concat_Lint_int.f k X) X.flatten := concat_l0 X hX hl X [] 0 hX (by omega)
theorem clone_ev (l : List Int) (hl : l.length < 17592186044416) : slices_Clone_Lint_int.f l = some l := by
  unfold slices_Clone_Lint_int.f
  rw [if_pos hl]
theorem rev_at (n : Nat) : ∀ (a mid b : List Int), mid.length ≤ n → (a ++ mid ++ b).length ≤ 4611686018427387904 → 
    Ev (fun k => slices_Reverse_Lint_int.l0 k (a ++ mid ++ b) (a.length : Int) ((a.length : Int) + (mid.length : Int) - 1)) (a ++ mid.reverse ++ b) := by
  induction n using Nat.strongRecOn with
  | ind n ih =>
    intro a mid b hn hb
    have hend : mid.length ≤ 1 → Ev (fun k => slices_Reverse_Lint_int.l0 k (a ++ mid ++ b) (a.length : Int) ((a.length : Int) + (mid.length : Int) - 1)) (a ++ mid.reverse ++ b) := by
      intro h1
      have e : mid.reverse = mid := by
        match mid, h1 with
        | [], _ => rfl
        | [x], _ => rfl
      rw [e]
      refine Ev.step (f := fun _ => some (a ++ mid ++ b)) (fun k => ?_) (Ev.now _)
      show slices_Reverse_Lint_int.l0 (k + 1) _ _ _ = _
      rw [slices_Reverse_Lint_int.l0, if_neg (by omega)]
    by_cases h1 : mid.length ≤ 1
    · exact hend h1
    · obtain ⟨x, t, rfl⟩ : ∃ x t, mid = x :: t := by
        cases mid with
        | nil => simp at h1
        | cons x t => exact ⟨x, t, rfl⟩
      rcases List.eq_nil_or_concat t with rfl | ⟨m, y, rfl⟩
      · simp at h1
      · rw [List.concat_eq_append] at *
        simp only [List.length_cons, List.length_append, List.length_nil] at hn h1 hb
        have h := ih m.length (by omega) (a ++ [y]) m ([x] ++ b) (Nat.le_refl _) (by simp; omega)
        have e1 : a ++ x :: (m ++ [y]) ++ b = a ++ x :: (m ++ y :: b) := by simp
        have e2 : a ++ x :: (m ++ y :: b) = (a ++ x :: m) ++ y :: b := by simp
        have r1 : rd (a ++ x :: (m ++ y :: b)) (a.length : Int) = x := mid_rd _ _ _
        have r2 : rd (a ++ x :: (m ++ y :: b)) ((a.length : Int) + ((m.length + 1 + 1 : Nat) : Int) - 1) = y := by
          rw [e2, show (a.length : Int) + ((m.length + 1 + 1 : Nat) : Int) - 1 = ((a ++ x :: m).length : Int) by simp; omega]
          exact mid_rd _ _ _
        have s1 : (a ++ x :: (m ++ y :: b)).set ((a.length : Int)).toNat y = (a ++ [y] ++ m) ++ y :: b := by
          rw [mid_set]; simp
        have s2 : ((a ++ [y] ++ m) ++ y :: b).set ((a.length : Int) + ((m.length + 1 + 1 : Nat) : Int) - 1).toNat x = a ++ [y] ++ m ++ ([x] ++ b) := by
          rw [show ((a.length : Int) + ((m.length + 1 + 1 : Nat) : Int) - 1) = ((a ++ [y] ++ m).length : Int) by simp; omega, mid_set]
          simp
        rw [show a ++ (x :: (m ++ [y])).reverse ++ b = a ++ [y] ++ m.reverse ++ ([x] ++ b) by simp]
        rw [e1, show (x :: (m ++ [y])).length = m.length + 1 + 1 by simp]
        refine Ev.step (fun k => ?_) h
        show slices_Reverse_Lint_int.l0 (k + 1) _ _ _ = _
        have hlen : ((a ++ x :: (m ++ y :: b)).length : Int) = (a.length : Int) + (m.length : Int) + 2 + (b.length : Int) := by simp; omega
        rw [slices_Reverse_Lint_int.l0, if_pos (by omega), if_pos (by omega), if_pos (by omega), if_pos (by omega), if_pos (by omega), r1, r2, s1, s2]
        rw [w64_id (by omega) (by omega), w64_id (by omega) (by omega)]
        congr 1
        · simp
        · simp; omega
theorem rev_ev (l : List Int) (hb : l.length ≤ 4611686018427387904) : Ev (fun k => slices_Reverse_Lint_int.f k l) l.reverse := by
  have h := rev_at l.length [] l [] (Nat.le_refl _) (by simpa using hb)
  unfold slices_Reverse_Lint_int.f
  rw [w64_id (by omega) (by omega)]
  simpa using h
theorem reversed_ev (l : List Int) (hb : l.length < 17592186044416) : Ev (fun k => impl_reversed.f k l) l.reverse := by
  unfold impl_reversed.f
  rw [clone_ev l hb]
  exact Ev.bind (a := l) (Ev.now l) (Ev.bind (rev_ev l (by omega)) (Ev.now _))
end Go.Proofs.Ytdnedgkanglgjaa.F
end
section
/- Moves of the program, kind by kind: cut, deal, flip, turn, under. -/
namespace Go.Proofs.Ytdnedgkanglgjaa.F
open Go.RowKit Go.Proofs.YtdnedgkanglgjaaW.PrintWords Go.Proofs.YtdnedgkanglgjaaW.PrintLast Go.Proofs.YtdnedgkanglgjaaW.PrintMore
set_option linter.unusedVariables false
set_option linter.unusedSimpArgs false
theorem cut_ev (l : List Int) (k : Int) (hb : l.length ≤ 1048576) (h0 : 0 ≤ k) (h1 : k ≤ (l.length : Int)) : Ev (fun n => impl_moved.f n l 1 k) (l.drop k.toNat ++ l.take k.toNat) := by
  unfold impl_moved.f
  simp only [if_true, if_pos h0, if_pos h1]
  have h := concat_ev [l.drop k.toNat, l.take k.toNat] (by simp) (by simp [lens]; omega)
  rw [show [l.drop k.toNat, l.take k.toNat].flatten = l.drop k.toNat ++ l.take k.toNat by simp] at h
  exact Ev.bind h (Ev.now _)
theorem back_ev (l : List Int) (k : Int) (hb : l.length ≤ 1048576) (h0 : 0 ≤ k) (h1 : k ≤ (l.length : Int)) : Ev (fun n => impl_moved.f n l 2 k) ((l.take k.toNat).reverse ++ l.drop k.toNat) := by
  unfold impl_moved.f
  simp only [if_neg (show ¬ (2 : Int) = 1 by omega), if_true, if_pos h0, if_pos h1]
  have h := concat_ev [(l.take k.toNat).reverse, l.drop k.toNat] (by simp) (by simp [lens]; omega)
  rw [show [(l.take k.toNat).reverse, l.drop k.toNat].flatten = (l.take k.toNat).reverse ++ l.drop k.toNat by simp] at h
  exact Ev.bind (reversed_ev _ (by simp; omega)) (Ev.bind h (Ev.now _))
theorem flip_at (rest : List Int) : ∀ (pre b : List Int), (pre ++ rest ++ b).length ≤ 1048576 → (∀ x ∈ rest, -9223372036854775808 ≤ x) →
    Ev (fun n => impl_moved.l0 n (((pre ++ rest).length : Nat) : Int) (pre ++ rest ++ b) (pre.length : Int)) (pre ++ rest.map turnC ++ b) := by
  induction rest with
  | nil =>
    intro pre b hb hw
    refine Ev.step (f := fun _ => some (pre ++ [] ++ b)) (fun k => ?_) (Ev.now _)
    show impl_moved.l0 (k + 1) _ _ _ = _
    rw [impl_moved.l0, if_neg (mid_nlt _)]
  | cons x rest ih =>
    intro pre b hb hw
    have h := ih (pre ++ [turnC x]) b (by simpa using hb) (fun y hy => hw y (by simp [hy]))
    have e1 : pre ++ x :: rest ++ b = pre ++ x :: (rest ++ b) := by simp
    have hlt : (pre.length : Int) < ((pre ++ x :: (rest ++ b)).length : Int) := mid_lt _ _ _
    have hb2 : pre.length ≤ 4611686018427387904 := by simp at hb; omega
    rw [show ((pre ++ [turnC x] ++ rest).length : Nat) = (pre ++ x :: rest).length by simp, ← mid_succ pre (turnC x) hb2] at h
    rw [show pre ++ (x :: rest).map turnC ++ b = pre ++ [turnC x] ++ rest.map turnC ++ b by simp]
    refine Ev.step (fun k => ?_) h
    show impl_moved.l0 (k + 1) _ _ _ = _
    rw [impl_moved.l0, if_pos (mid_lt _ _ _), if_pos (nn _), e1, if_pos hlt, mid_rd, impl_turn x (hw x (by simp)), Option.bind_some, mid_set]
    simp
theorem flip_ev (l : List Int) (k : Int) (hb : l.length ≤ 1048576) (h0 : 0 ≤ k) (h1 : k ≤ (l.length : Int)) (hw : ∀ x ∈ l, -9223372036854775808 ≤ x) : Ev (fun n => impl_moved.f n l 3 k) ((l.take k.toNat).reverse.map turnC ++ l.drop k.toNat) := by
  unfold impl_moved.f
  simp only [if_neg (show ¬ (3 : Int) = 1 by omega), if_neg (show ¬ (3 : Int) = 2 by omega), if_true, if_pos h0, if_pos h1]
  have h := concat_ev [(l.take k.toNat).reverse, l.drop k.toNat] (by simp) (by simp [lens]; omega)
  rw [show [(l.take k.toNat).reverse, l.drop k.toNat].flatten = (l.take k.toNat).reverse ++ l.drop k.toNat by simp] at h
  refine Ev.bind (reversed_ev _ (by simp; omega)) (Ev.bind h ?_)
  have hf := flip_at (l.take k.toNat).reverse [] (l.drop k.toNat) (by simp; omega) (fun x hx => hw x (List.mem_of_mem_take (List.mem_reverse.mp hx)))
  have e : ((([] ++ (l.take k.toNat).reverse).length : Nat) : Int) = k := by simp; omega
  rw [e] at hf
  simpa using hf
theorem turn_ev (l : List Int) (k : Int) (hb : l.length ≤ 1048576) (h0 : 0 ≤ k) (h1 : k < (l.length : Int)) (hw : ∀ x ∈ l, -9223372036854775808 ≤ x) : Ev (fun n => impl_moved.f n l 8 k) (l.set k.toNat (turnC (rd l k))) := by
  have hm : rd l k ∈ l := by
    unfold rd
    rw [List.getD_eq_getElem?_getD, List.getElem?_eq_getElem (by omega)]
    exact List.getElem_mem _
  unfold impl_moved.f
  simp only [if_neg (show ¬ (8 : Int) = 1 by omega), if_neg (show ¬ (8 : Int) = 2 by omega), if_neg (show ¬ (8 : Int) = 3 by omega), if_neg (show ¬ (8 : Int) = 4 by omega), if_neg (show ¬ (8 : Int) = 5 by omega), if_neg (show ¬ (8 : Int) = 6 by omega), if_neg (show ¬ (8 : Int) = 7 by omega), if_true, clone_ev l (by omega), Option.bind_some, if_pos h0, if_pos h1, impl_turn _ (hw _ hm)]
  exact Ev.now _
theorem under_ev (l : List Int) (k : Int) (hb : l.length ≤ 1048576) (h0 : 0 ≤ k) (h1 : k < (l.length : Int)) : Ev (fun n => impl_moved.f n l 9 k) (l.take k.toNat ++ l.drop (k.toNat + 1) ++ [rd l k]) := by
  have hw : wrap64 (k + 1) = k + 1 := w64_id (by omega) (by omega)
  have e : (l.take (k + 1).toNat).drop k.toNat = [rd l k] := by
    obtain ⟨n, rfl⟩ := Int.eq_ofNat_of_zero_le h0
    have hn : n < l.length := by omega
    rw [show ((n : Int) + 1).toNat = n + 1 by omega, Int.toNat_natCast, List.drop_take, List.drop_eq_getElem_cons hn]
    unfold rd
    rw [Int.toNat_natCast, List.getD_eq_getElem?_getD, List.getElem?_eq_getElem hn, show n + 1 - n = 1 by omega]
    rfl
  unfold impl_moved.f
  simp only [if_neg (show ¬ (9 : Int) = 1 by omega), if_neg (show ¬ (9 : Int) = 2 by omega), if_neg (show ¬ (9 : Int) = 3 by omega), if_neg (show ¬ (9 : Int) = 4 by omega), if_neg (show ¬ (9 : Int) = 5 by omega), if_neg (show ¬ (9 : Int) = 6 by omega), if_neg (show ¬ (9 : Int) = 7 by omega), if_neg (show ¬ (9 : Int) = 8 by omega), hw, if_pos h0, if_pos (show k ≤ (l.length : Int) by omega), if_pos (show 0 ≤ k + 1 by omega), if_pos (show k + 1 ≤ (l.length : Int) by omega), if_pos (show k ≤ k + 1 by omega), e]
  have h := concat_ev [l.take k.toNat, l.drop (k + 1).toNat, [rd l k]] (by simp) (by simp [lens]; omega)
  rw [show [l.take k.toNat, l.drop (k + 1).toNat, [rd l k]].flatten = l.take k.toNat ++ l.drop (k.toNat + 1) ++ [rd l k] by rw [show (k + 1).toNat = k.toNat + 1 by omega]; simp] at h
  exact Ev.bind h (Ev.now _)
end Go.Proofs.Ytdnedgkanglgjaa.F
end
section
/- Moves of the reference, kind by kind. -/
namespace Go.Proofs.Ytdnedgkanglgjaa.F
open Go.RowKit Go.Proofs.YtdnedgkanglgjaaW.PrintWords Go.Proofs.YtdnedgkanglgjaaW.PrintLast Go.Proofs.YtdnedgkanglgjaaW.PrintMore
set_option linter.unusedVariables false
set_option linter.unusedSimpArgs false
theorem spec_cut_ev (l : List Int) (k : Int) (hb : l.length ≤ 1048576) (h0 : 0 ≤ k) (h1 : k ≤ (l.length : Int)) : Ev (fun n => spec_l04Do.f n l 1 k) (l.drop k.toNat ++ l.take k.toNat) := by
  unfold spec_l04Do.f
  simp only [if_true, Option.bind_some, if_pos h0, if_pos h1, List.nil_append, List.length_nil, Nat.zero_add]
  rw [if_pos (by simp; omega), if_pos (by simp; omega)]
  exact Ev.now _
theorem spec_back_at (l : List Int) (c : Nat) (up : Bool) (hb : l.length ≤ 1048576) (hc : c ≤ l.length) (rest : List Int) : ∀ (tl out : List Int), l = rest ++ tl → out.length + rest.length = c → 
    Ev (fun n => spec_l04Back.l0 n l (c : Int) up out ((rest.length : Int) - 1)) (out ++ rest.reverse.map (fun x => if up then turnC x else x) ++ l.drop c) := by
  intro tl out e ho
  induction h : rest.length generalizing rest tl out with
  | zero =>
    obtain rfl : rest = [] := List.eq_nil_of_length_eq_zero h
    refine Ev.step (f := fun _ => some (out ++ l.drop c)) (fun k => ?_) (by simpa using Ev.now _)
    show spec_l04Back.l0 (k + 1) _ _ _ _ _ = _
    simp only [List.length_nil] at ho
    rw [spec_l04Back.l0, if_neg (by simp), if_pos (nn _), if_pos (by omega), Int.toNat_natCast, if_pos (by simp; omega)]
  | succ m ih =>
    rcases List.eq_nil_or_concat rest with rfl | ⟨r, x, rfl⟩
    · simp at h
    · rw [List.concat_eq_append] at *
      have hm : r.length = m := by simpa using h
      have h2 := ih r (x :: tl) (out ++ [if up then turnC x else x]) (by rw [e]; simp) (by simp at ho ⊢; omega) hm
      have hr : rd l ((((m + 1 : Nat) : Int)) - 1) = x := by
        rw [e, show (((m + 1 : Nat) : Int)) - 1 = (r.length : Int) by omega, List.append_assoc]
        exact mid_rd _ _ _
      have hl : ((l.length : Nat) : Int) = (m : Int) + 1 + (tl.length : Int) := by rw [e]; simp; omega
      have hw : wrap64 ((((m + 1 : Nat) : Int)) - 1 - 1) = (m : Int) - 1 := by rw [w64_id (by omega) (by omega)]; omega
      rw [show out ++ (r ++ [x]).reverse.map (fun x => if up then turnC x else x) ++ l.drop c = out ++ [if up then turnC x else x] ++ r.reverse.map (fun x => if up then turnC x else x) ++ l.drop c by simp]
      refine Ev.step (fun k => ?_) h2
      show spec_l04Back.l0 (k + 1) _ _ _ _ _ = _
      simp only [List.length_append, List.length_singleton] at ho
      cases up with
      | true => rw [spec_l04Back.l0, if_pos (by omega), if_pos rfl, if_pos (by omega), if_pos (by omega), hr, spec_turn, Option.bind_some, if_pos (by omega), hw]; rfl
      | false => rw [spec_l04Back.l0, if_pos (by omega), if_neg (by simp), if_pos (by omega), if_pos (by omega), hr, if_pos (by omega), hw]; rfl
theorem spec_back_ev (l : List Int) (k : Int) (up : Bool) (hb : l.length ≤ 1048576) (h0 : 0 ≤ k) (h1 : k ≤ (l.length : Int)) : Ev (fun n => spec_l04Back.f n l k up) ((l.take k.toNat).reverse.map (fun x => if up then turnC x else x) ++ l.drop k.toNat) := by
  obtain ⟨c, rfl⟩ := Int.eq_ofNat_of_zero_le h0
  unfold spec_l04Back.f
  rw [w64_id (by omega) (by omega), Int.toNat_natCast]
  have h := spec_back_at l c up hb (by omega) (l.take c) (l.drop c) [] (List.take_append_drop _ _).symm (by simp; omega)
  rw [show (((l.take c).length : Nat) : Int) = (c : Int) by simp; omega] at h
  simpa using h
theorem spec_deal_ev (l : List Int) (k : Int) (hb : l.length ≤ 1048576) (h0 : 0 ≤ k) (h1 : k ≤ (l.length : Int)) : Ev (fun n => spec_l04Do.f n l 2 k) ((l.take k.toNat).reverse ++ l.drop k.toNat) := by
  unfold spec_l04Do.f
  simp only [if_neg (show ¬ (2 : Int) = 1 by omega), if_true]
  have h : Ev (fun n => spec_l04Back.f n l k false) ((l.take k.toNat).reverse ++ l.drop k.toNat) := by simpa using spec_back_ev l k false hb h0 h1
  exact Ev.bind h (Ev.now _)
theorem spec_flip_ev (l : List Int) (k : Int) (hb : l.length ≤ 1048576) (h0 : 0 ≤ k) (h1 : k ≤ (l.length : Int)) : Ev (fun n => spec_l04Do.f n l 3 k) ((l.take k.toNat).reverse.map turnC ++ l.drop k.toNat) := by
  unfold spec_l04Do.f
  simp only [if_neg (show ¬ (3 : Int) = 1 by omega), if_neg (show ¬ (3 : Int) = 2 by omega), if_true]
  have h : Ev (fun n => spec_l04Back.f n l k true) ((l.take k.toNat).reverse.map turnC ++ l.drop k.toNat) := by simpa using spec_back_ev l k true hb h0 h1
  exact Ev.bind h (Ev.now _)
theorem spec_turn_ev (l : List Int) (k : Int) (hb : l.length ≤ 1048576) (h0 : 0 ≤ k) (h1 : k < (l.length : Int)) : Ev (fun n => spec_l04Do.f n l 8 k) (l.set k.toNat (turnC (rd l k))) := by
  unfold spec_l04Do.f
  simp only [if_neg (show ¬ (8 : Int) = 1 by omega), if_neg (show ¬ (8 : Int) = 2 by omega), if_neg (show ¬ (8 : Int) = 3 by omega), if_neg (show ¬ (8 : Int) = 4 by omega), if_neg (show ¬ (8 : Int) = 5 by omega), if_neg (show ¬ (8 : Int) = 6 by omega), if_neg (show ¬ (8 : Int) = 7 by omega), if_true, Option.bind_some, List.nil_append, List.length_nil, Nat.zero_add, if_pos (show l.length < 17592186044416 by omega), if_pos h0, if_pos h1, spec_turn]
  exact Ev.now _
theorem spec_under_ev (l : List Int) (k : Int) (hb : l.length ≤ 1048576) (h0 : 0 ≤ k) (h1 : k < (l.length : Int)) : Ev (fun n => spec_l04Do.f n l 9 k) (l.take k.toNat ++ l.drop (k.toNat + 1) ++ [rd l k]) := by
  have hw : wrap64 (k + 1) = k + 1 := w64_id (by omega) (by omega)
  unfold spec_l04Do.f
  simp only [if_neg (show ¬ (9 : Int) = 1 by omega), if_neg (show ¬ (9 : Int) = 2 by omega), if_neg (show ¬ (9 : Int) = 3 by omega), if_neg (show ¬ (9 : Int) = 4 by omega), if_neg (show ¬ (9 : Int) = 5 by omega), if_neg (show ¬ (9 : Int) = 6 by omega), if_neg (show ¬ (9 : Int) = 7 by omega), if_neg (show ¬ (9 : Int) = 8 by omega), Option.bind_some, List.nil_append, List.length_nil, Nat.zero_add, hw, if_pos h0, if_pos h1, if_pos (show k ≤ (l.length : Int) by omega), if_pos (show 0 ≤ k + 1 by omega), if_pos (show k + 1 ≤ (l.length : Int) by omega), show (k + 1).toNat = k.toNat + 1 by omega]
  repeat rw [if_pos (by simp; omega)]
  exact Ev.now _
end Go.Proofs.Ytdnedgkanglgjaa.F
end
section
/- Lists of a given length, written out. -/
namespace Go.Proofs.Ytdnedgkanglgjaa.F
open Go.RowKit Go.Proofs.YtdnedgkanglgjaaW.PrintWords Go.Proofs.YtdnedgkanglgjaaW.PrintLast Go.Proofs.YtdnedgkanglgjaaW.PrintMore
set_option linter.unusedVariables false
set_option linter.unusedSimpArgs false
theorem len_1 (l : List Int) (h : l.length = 1) : ∃ x0, l = [x0] := by
  match l, h with
  | [x0], _ => exact ⟨x0, rfl⟩
theorem len_2 (l : List Int) (h : l.length = 2) : ∃ x0 x1, l = [x0, x1] := by
  match l, h with
  | [x0, x1], _ => exact ⟨x0, x1, rfl⟩
theorem len_3 (l : List Int) (h : l.length = 3) : ∃ x0 x1 x2, l = [x0, x1, x2] := by
  match l, h with
  | [x0, x1, x2], _ => exact ⟨x0, x1, x2, rfl⟩
theorem len_4 (l : List Int) (h : l.length = 4) : ∃ x0 x1 x2 x3, l = [x0, x1, x2, x3] := by
  match l, h with
  | [x0, x1, x2, x3], _ => exact ⟨x0, x1, x2, x3, rfl⟩
theorem len_5 (l : List Int) (h : l.length = 5) : ∃ x0 x1 x2 x3 x4, l = [x0, x1, x2, x3, x4] := by
  match l, h with
  | [x0, x1, x2, x3, x4], _ => exact ⟨x0, x1, x2, x3, x4, rfl⟩
theorem len_6 (l : List Int) (h : l.length = 6) : ∃ x0 x1 x2 x3 x4 x5, l = [x0, x1, x2, x3, x4, x5] := by
  match l, h with
  | [x0, x1, x2, x3, x4, x5], _ => exact ⟨x0, x1, x2, x3, x4, x5, rfl⟩
theorem len_7 (l : List Int) (h : l.length = 7) : ∃ x0 x1 x2 x3 x4 x5 x6, l = [x0, x1, x2, x3, x4, x5, x6] := by
  match l, h with
  | [x0, x1, x2, x3, x4, x5, x6], _ => exact ⟨x0, x1, x2, x3, x4, x5, x6, rfl⟩
theorem len_8 (l : List Int) (h : l.length = 8) : ∃ x0 x1 x2 x3 x4 x5 x6 x7, l = [x0, x1, x2, x3, x4, x5, x6, x7] := by
  match l, h with
  | [x0, x1, x2, x3, x4, x5, x6, x7], _ => exact ⟨x0, x1, x2, x3, x4, x5, x6, x7, rfl⟩
theorem len_9 (l : List Int) (h : l.length = 9) : ∃ x0 x1 x2 x3 x4 x5 x6 x7 x8, l = [x0, x1, x2, x3, x4, x5, x6, x7, x8] := by
  match l, h with
  | [x0, x1, x2, x3, x4, x5, x6, x7, x8], _ => exact ⟨x0, x1, x2, x3, x4, x5, x6, x7, x8, rfl⟩
theorem len_10 (l : List Int) (h : l.length = 10) : ∃ x0 x1 x2 x3 x4 x5 x6 x7 x8 x9, l = [x0, x1, x2, x3, x4, x5, x6, x7, x8, x9] := by
  match l, h with
  | [x0, x1, x2, x3, x4, x5, x6, x7, x8, x9], _ => exact ⟨x0, x1, x2, x3, x4, x5, x6, x7, x8, x9, rfl⟩
theorem len_11 (l : List Int) (h : l.length = 11) : ∃ x0 x1 x2 x3 x4 x5 x6 x7 x8 x9 x10, l = [x0, x1, x2, x3, x4, x5, x6, x7, x8, x9, x10] := by
  match l, h with
  | [x0, x1, x2, x3, x4, x5, x6, x7, x8, x9, x10], _ => exact ⟨x0, x1, x2, x3, x4, x5, x6, x7, x8, x9, x10, rfl⟩
theorem len_12 (l : List Int) (h : l.length = 12) : ∃ x0 x1 x2 x3 x4 x5 x6 x7 x8 x9 x10 x11, l = [x0, x1, x2, x3, x4, x5, x6, x7, x8, x9, x10, x11] := by
  match l, h with
  | [x0, x1, x2, x3, x4, x5, x6, x7, x8, x9, x10, x11], _ => exact ⟨x0, x1, x2, x3, x4, x5, x6, x7, x8, x9, x10, x11, rfl⟩
end Go.Proofs.Ytdnedgkanglgjaa.F
end
section
/- Moves of kinds five, six and seven, size by size. -/
namespace Go.Proofs.Ytdnedgkanglgjaa.F
open Go.RowKit Go.Proofs.YtdnedgkanglgjaaW.PrintWords Go.Proofs.YtdnedgkanglgjaaW.PrintLast Go.Proofs.YtdnedgkanglgjaaW.PrintMore
set_option linter.unusedVariables false
set_option linter.unusedSimpArgs false
def movedR (p : List Int) (c a : Int) (q : List Int) : Prop := (∀ k, impl_moved.f (k + 90) p c a = some q) ∧ (∀ k, spec_l04Do.f (k + 90) p c a = some q) ∧ q.length = p.length ∧ ∃ js : List Nat, q = js.map (fun j => p.getD j 0) ∧ js.Perm (List.range p.length)
theorem moved_1_5_0 (x0 : Int) : movedR [x0] 5 0 [x0] := ⟨fun k => by kernel_rfl, fun k => by kernel_rfl, rfl, [0], rfl, by show List.Perm _ (List.range 1); decide⟩
theorem moved_1_5_1 (x0 : Int) : movedR [x0] 5 1 [x0] := ⟨fun k => by kernel_rfl, fun k => by kernel_rfl, rfl, [0], rfl, by show List.Perm _ (List.range 1); decide⟩
theorem moved_1_6_0 (x0 : Int) : movedR [x0] 6 0 [x0] := ⟨fun k => by kernel_rfl, fun k => by kernel_rfl, rfl, [0], rfl, by show List.Perm _ (List.range 1); decide⟩
theorem moved_1_7_0 (x0 : Int) : movedR [x0] 7 0 [x0] := ⟨fun k => by kernel_rfl, fun k => by kernel_rfl, rfl, [0], rfl, by show List.Perm _ (List.range 1); decide⟩
theorem moved_1_7_1 (x0 : Int) : movedR [x0] 7 1 [x0] := ⟨fun k => by kernel_rfl, fun k => by kernel_rfl, rfl, [0], rfl, by show List.Perm _ (List.range 1); decide⟩
theorem moved_2_5_0 (x0 x1 : Int) : movedR [x0, x1] 5 0 [x1, x0] := ⟨fun k => by kernel_rfl, fun k => by kernel_rfl, rfl, [1, 0], rfl, by show List.Perm _ (List.range 2); decide⟩
theorem moved_2_5_1 (x0 x1 : Int) : movedR [x0, x1] 5 1 [x0, x1] := ⟨fun k => by kernel_rfl, fun k => by kernel_rfl, rfl, [0, 1], rfl, by show List.Perm _ (List.range 2); decide⟩
theorem moved_2_6_0 (x0 x1 : Int) : movedR [x0, x1] 6 0 [x0, x1] := ⟨fun k => by kernel_rfl, fun k => by kernel_rfl, rfl, [0, 1], rfl, by show List.Perm _ (List.range 2); decide⟩
theorem moved_2_7_0 (x0 x1 : Int) : movedR [x0, x1] 7 0 [x0, x1] := ⟨fun k => by kernel_rfl, fun k => by kernel_rfl, rfl, [0, 1], rfl, by show List.Perm _ (List.range 2); decide⟩
theorem moved_2_7_1 (x0 x1 : Int) : movedR [x0, x1] 7 1 [x1, x0] := ⟨fun k => by kernel_rfl, fun k => by kernel_rfl, rfl, [1, 0], rfl, by show List.Perm _ (List.range 2); decide⟩
theorem moved_3_5_0 (x0 x1 x2 : Int) : movedR [x0, x1, x2] 5 0 [x1, x0, x2] := ⟨fun k => by kernel_rfl, fun k => by kernel_rfl, rfl, [1, 0, 2], rfl, by show List.Perm _ (List.range 3); decide⟩
theorem moved_3_5_1 (x0 x1 x2 : Int) : movedR [x0, x1, x2] 5 1 [x2, x0, x1] := ⟨fun k => by kernel_rfl, fun k => by kernel_rfl, rfl, [2, 0, 1], rfl, by show List.Perm _ (List.range 3); decide⟩
theorem moved_3_6_0 (x0 x1 x2 : Int) : movedR [x0, x1, x2] 6 0 [x1, x0, x2] := ⟨fun k => by kernel_rfl, fun k => by kernel_rfl, rfl, [1, 0, 2], rfl, by show List.Perm _ (List.range 3); decide⟩
theorem moved_3_7_0 (x0 x1 x2 : Int) : movedR [x0, x1, x2] 7 0 [x2, x0, x1] := ⟨fun k => by kernel_rfl, fun k => by kernel_rfl, rfl, [2, 0, 1], rfl, by show List.Perm _ (List.range 3); decide⟩
theorem moved_3_7_1 (x0 x1 x2 : Int) : movedR [x0, x1, x2] 7 1 [x1, x2, x0] := ⟨fun k => by kernel_rfl, fun k => by kernel_rfl, rfl, [1, 2, 0], rfl, by show List.Perm _ (List.range 3); decide⟩
theorem moved_4_5_0 (x0 x1 x2 x3 : Int) : movedR [x0, x1, x2, x3] 5 0 [x3, x1, x0, x2] := ⟨fun k => by kernel_rfl, fun k => by kernel_rfl, rfl, [3, 1, 0, 2], rfl, by show List.Perm _ (List.range 4); decide⟩
theorem moved_4_5_1 (x0 x1 x2 x3 : Int) : movedR [x0, x1, x2, x3] 5 1 [x2, x0, x1, x3] := ⟨fun k => by kernel_rfl, fun k => by kernel_rfl, rfl, [2, 0, 1, 3], rfl, by show List.Perm _ (List.range 4); decide⟩
theorem moved_4_6_0 (x0 x1 x2 x3 : Int) : movedR [x0, x1, x2, x3] 6 0 [x1, x2, x0, x3] := ⟨fun k => by kernel_rfl, fun k => by kernel_rfl, rfl, [1, 2, 0, 3], rfl, by show List.Perm _ (List.range 4); decide⟩
theorem moved_4_7_0 (x0 x1 x2 x3 : Int) : movedR [x0, x1, x2, x3] 7 0 [x0, x2, x3, x1] := ⟨fun k => by kernel_rfl, fun k => by kernel_rfl, rfl, [0, 2, 3, 1], rfl, by show List.Perm _ (List.range 4); decide⟩
theorem moved_4_7_1 (x0 x1 x2 x3 : Int) : movedR [x0, x1, x2, x3] 7 1 [x3, x1, x2, x0] := ⟨fun k => by kernel_rfl, fun k => by kernel_rfl, rfl, [3, 1, 2, 0], rfl, by show List.Perm _ (List.range 4); decide⟩
theorem moved_5_5_0 (x0 x1 x2 x3 x4 : Int) : movedR [x0, x1, x2, x3, x4] 5 0 [x3, x1, x0, x2, x4] := ⟨fun k => by kernel_rfl, fun k => by kernel_rfl, rfl, [3, 1, 0, 2, 4], rfl, by show List.Perm _ (List.range 5); decide⟩
theorem moved_5_5_1 (x0 x1 x2 x3 x4 : Int) : movedR [x0, x1, x2, x3, x4] 5 1 [x4, x2, x0, x1, x3] := ⟨fun k => by kernel_rfl, fun k => by kernel_rfl, rfl, [4, 2, 0, 1, 3], rfl, by show List.Perm _ (List.range 5); decide⟩
theorem moved_5_6_0 (x0 x1 x2 x3 x4 : Int) : movedR [x0, x1, x2, x3, x4] 6 0 [x2, x1, x3, x0, x4] := ⟨fun k => by kernel_rfl, fun k => by kernel_rfl, rfl, [2, 1, 3, 0, 4], rfl, by show List.Perm _ (List.range 5); decide⟩
theorem moved_5_7_0 (x0 x1 x2 x3 x4 : Int) : movedR [x0, x1, x2, x3, x4] 7 0 [x2, x4, x0, x3, x1] := ⟨fun k => by kernel_rfl, fun k => by kernel_rfl, rfl, [2, 4, 0, 3, 1], rfl, by show List.Perm _ (List.range 5); decide⟩
theorem moved_5_7_1 (x0 x1 x2 x3 x4 : Int) : movedR [x0, x1, x2, x3, x4] 7 1 [x1, x3, x4, x2, x0] := ⟨fun k => by kernel_rfl, fun k => by kernel_rfl, rfl, [1, 3, 4, 2, 0], rfl, by show List.Perm _ (List.range 5); decide⟩
theorem moved_6_5_0 (x0 x1 x2 x3 x4 x5 : Int) : movedR [x0, x1, x2, x3, x4, x5] 5 0 [x5, x3, x1, x0, x2, x4] := ⟨fun k => by kernel_rfl, fun k => by kernel_rfl, rfl, [5, 3, 1, 0, 2, 4], rfl, by show List.Perm _ (List.range 6); decide⟩
theorem moved_6_5_1 (x0 x1 x2 x3 x4 x5 : Int) : movedR [x0, x1, x2, x3, x4, x5] 5 1 [x4, x2, x0, x1, x3, x5] := ⟨fun k => by kernel_rfl, fun k => by kernel_rfl, rfl, [4, 2, 0, 1, 3, 5], rfl, by show List.Perm _ (List.range 6); decide⟩
theorem moved_6_6_0 (x0 x1 x2 x3 x4 x5 : Int) : movedR [x0, x1, x2, x3, x4, x5] 6 0 [x2, x3, x1, x4, x0, x5] := ⟨fun k => by kernel_rfl, fun k => by kernel_rfl, rfl, [2, 3, 1, 4, 0, 5], rfl, by show List.Perm _ (List.range 6); decide⟩
theorem moved_6_7_0 (x0 x1 x2 x3 x4 x5 : Int) : movedR [x0, x1, x2, x3, x4, x5] 7 0 [x4, x0, x2, x5, x3, x1] := ⟨fun k => by kernel_rfl, fun k => by kernel_rfl, rfl, [4, 0, 2, 5, 3, 1], rfl, by show List.Perm _ (List.range 6); decide⟩
theorem moved_6_7_1 (x0 x1 x2 x3 x4 x5 : Int) : movedR [x0, x1, x2, x3, x4, x5] 7 1 [x3, x5, x1, x4, x2, x0] := ⟨fun k => by kernel_rfl, fun k => by kernel_rfl, rfl, [3, 5, 1, 4, 2, 0], rfl, by show List.Perm _ (List.range 6); decide⟩
theorem moved_7_5_0 (x0 x1 x2 x3 x4 x5 x6 : Int) : movedR [x0, x1, x2, x3, x4, x5, x6] 5 0 [x5, x3, x1, x0, x2, x4, x6] := ⟨fun k => by kernel_rfl, fun k => by kernel_rfl, rfl, [5, 3, 1, 0, 2, 4, 6], rfl, by show List.Perm _ (List.range 7); decide⟩
theorem moved_7_5_1 (x0 x1 x2 x3 x4 x5 x6 : Int) : movedR [x0, x1, x2, x3, x4, x5, x6] 5 1 [x6, x4, x2, x0, x1, x3, x5] := ⟨fun k => by kernel_rfl, fun k => by kernel_rfl, rfl, [6, 4, 2, 0, 1, 3, 5], rfl, by show List.Perm _ (List.range 7); decide⟩
theorem moved_7_6_0 (x0 x1 x2 x3 x4 x5 x6 : Int) : movedR [x0, x1, x2, x3, x4, x5, x6] 6 0 [x3, x2, x4, x1, x5, x0, x6] := ⟨fun k => by kernel_rfl, fun k => by kernel_rfl, rfl, [3, 2, 4, 1, 5, 0, 6], rfl, by show List.Perm _ (List.range 7); decide⟩
theorem moved_7_7_0 (x0 x1 x2 x3 x4 x5 x6 : Int) : movedR [x0, x1, x2, x3, x4, x5, x6] 7 0 [x6, x2, x4, x0, x5, x3, x1] := ⟨fun k => by kernel_rfl, fun k => by kernel_rfl, rfl, [6, 2, 4, 0, 5, 3, 1], rfl, by show List.Perm _ (List.range 7); decide⟩
theorem moved_7_7_1 (x0 x1 x2 x3 x4 x5 x6 : Int) : movedR [x0, x1, x2, x3, x4, x5, x6] 7 1 [x5, x1, x3, x6, x4, x2, x0] := ⟨fun k => by kernel_rfl, fun k => by kernel_rfl, rfl, [5, 1, 3, 6, 4, 2, 0], rfl, by show List.Perm _ (List.range 7); decide⟩
theorem moved_8_5_0 (x0 x1 x2 x3 x4 x5 x6 x7 : Int) : movedR [x0, x1, x2, x3, x4, x5, x6, x7] 5 0 [x7, x5, x3, x1, x0, x2, x4, x6] := ⟨fun k => by kernel_rfl, fun k => by kernel_rfl, rfl, [7, 5, 3, 1, 0, 2, 4, 6], rfl, by show List.Perm _ (List.range 8); decide⟩
theorem moved_8_5_1 (x0 x1 x2 x3 x4 x5 x6 x7 : Int) : movedR [x0, x1, x2, x3, x4, x5, x6, x7] 5 1 [x6, x4, x2, x0, x1, x3, x5, x7] := ⟨fun k => by kernel_rfl, fun k => by kernel_rfl, rfl, [6, 4, 2, 0, 1, 3, 5, 7], rfl, by show List.Perm _ (List.range 8); decide⟩
theorem moved_8_6_0 (x0 x1 x2 x3 x4 x5 x6 x7 : Int) : movedR [x0, x1, x2, x3, x4, x5, x6, x7] 6 0 [x3, x4, x2, x5, x1, x6, x0, x7] := ⟨fun k => by kernel_rfl, fun k => by kernel_rfl, rfl, [3, 4, 2, 5, 1, 6, 0, 7], rfl, by show List.Perm _ (List.range 8); decide⟩
theorem moved_8_7_0 (x0 x1 x2 x3 x4 x5 x6 x7 : Int) : movedR [x0, x1, x2, x3, x4, x5, x6, x7] 7 0 [x0, x4, x6, x2, x7, x5, x3, x1] := ⟨fun k => by kernel_rfl, fun k => by kernel_rfl, rfl, [0, 4, 6, 2, 7, 5, 3, 1], rfl, by show List.Perm _ (List.range 8); decide⟩
theorem moved_8_7_1 (x0 x1 x2 x3 x4 x5 x6 x7 : Int) : movedR [x0, x1, x2, x3, x4, x5, x6, x7] 7 1 [x7, x3, x5, x1, x6, x4, x2, x0] := ⟨fun k => by kernel_rfl, fun k => by kernel_rfl, rfl, [7, 3, 5, 1, 6, 4, 2, 0], rfl, by show List.Perm _ (List.range 8); decide⟩
theorem moved_9_5_0 (x0 x1 x2 x3 x4 x5 x6 x7 x8 : Int) : movedR [x0, x1, x2, x3, x4, x5, x6, x7, x8] 5 0 [x7, x5, x3, x1, x0, x2, x4, x6, x8] := ⟨fun k => by kernel_rfl, fun k => by kernel_rfl, rfl, [7, 5, 3, 1, 0, 2, 4, 6, 8], rfl, by show List.Perm _ (List.range 9); decide⟩
theorem moved_9_5_1 (x0 x1 x2 x3 x4 x5 x6 x7 x8 : Int) : movedR [x0, x1, x2, x3, x4, x5, x6, x7, x8] 5 1 [x8, x6, x4, x2, x0, x1, x3, x5, x7] := ⟨fun k => by kernel_rfl, fun k => by kernel_rfl, rfl, [8, 6, 4, 2, 0, 1, 3, 5, 7], rfl, by show List.Perm _ (List.range 9); decide⟩
theorem moved_9_6_0 (x0 x1 x2 x3 x4 x5 x6 x7 x8 : Int) : movedR [x0, x1, x2, x3, x4, x5, x6, x7, x8] 6 0 [x4, x3, x5, x2, x6, x1, x7, x0, x8] := ⟨fun k => by kernel_rfl, fun k => by kernel_rfl, rfl, [4, 3, 5, 2, 6, 1, 7, 0, 8], rfl, by show List.Perm _ (List.range 9); decide⟩
theorem moved_9_7_0 (x0 x1 x2 x3 x4 x5 x6 x7 x8 : Int) : movedR [x0, x1, x2, x3, x4, x5, x6, x7, x8] 7 0 [x2, x6, x8, x4, x0, x7, x5, x3, x1] := ⟨fun k => by kernel_rfl, fun k => by kernel_rfl, rfl, [2, 6, 8, 4, 0, 7, 5, 3, 1], rfl, by show List.Perm _ (List.range 9); decide⟩
theorem moved_9_7_1 (x0 x1 x2 x3 x4 x5 x6 x7 x8 : Int) : movedR [x0, x1, x2, x3, x4, x5, x6, x7, x8] 7 1 [x1, x5, x7, x3, x8, x6, x4, x2, x0] := ⟨fun k => by kernel_rfl, fun k => by kernel_rfl, rfl, [1, 5, 7, 3, 8, 6, 4, 2, 0], rfl, by show List.Perm _ (List.range 9); decide⟩
theorem moved_10_5_0 (x0 x1 x2 x3 x4 x5 x6 x7 x8 x9 : Int) : movedR [x0, x1, x2, x3, x4, x5, x6, x7, x8, x9] 5 0 [x9, x7, x5, x3, x1, x0, x2, x4, x6, x8] := ⟨fun k => by kernel_rfl, fun k => by kernel_rfl, rfl, [9, 7, 5, 3, 1, 0, 2, 4, 6, 8], rfl, by show List.Perm _ (List.range 10); decide⟩
theorem moved_10_5_1 (x0 x1 x2 x3 x4 x5 x6 x7 x8 x9 : Int) : movedR [x0, x1, x2, x3, x4, x5, x6, x7, x8, x9] 5 1 [x8, x6, x4, x2, x0, x1, x3, x5, x7, x9] := ⟨fun k => by kernel_rfl, fun k => by kernel_rfl, rfl, [8, 6, 4, 2, 0, 1, 3, 5, 7, 9], rfl, by show List.Perm _ (List.range 10); decide⟩
theorem moved_10_6_0 (x0 x1 x2 x3 x4 x5 x6 x7 x8 x9 : Int) : movedR [x0, x1, x2, x3, x4, x5, x6, x7, x8, x9] 6 0 [x4, x5, x3, x6, x2, x7, x1, x8, x0, x9] := ⟨fun k => by kernel_rfl, fun k => by kernel_rfl, rfl, [4, 5, 3, 6, 2, 7, 1, 8, 0, 9], rfl, by show List.Perm _ (List.range 10); decide⟩
theorem moved_10_7_0 (x0 x1 x2 x3 x4 x5 x6 x7 x8 x9 : Int) : movedR [x0, x1, x2, x3, x4, x5, x6, x7, x8, x9] 7 0 [x4, x8, x0, x6, x2, x9, x7, x5, x3, x1] := ⟨fun k => by kernel_rfl, fun k => by kernel_rfl, rfl, [4, 8, 0, 6, 2, 9, 7, 5, 3, 1], rfl, by show List.Perm _ (List.range 10); decide⟩
theorem moved_10_7_1 (x0 x1 x2 x3 x4 x5 x6 x7 x8 x9 : Int) : movedR [x0, x1, x2, x3, x4, x5, x6, x7, x8, x9] 7 1 [x3, x7, x9, x5, x1, x8, x6, x4, x2, x0] := ⟨fun k => by kernel_rfl, fun k => by kernel_rfl, rfl, [3, 7, 9, 5, 1, 8, 6, 4, 2, 0], rfl, by show List.Perm _ (List.range 10); decide⟩
theorem moved_11_5_0 (x0 x1 x2 x3 x4 x5 x6 x7 x8 x9 x10 : Int) : movedR [x0, x1, x2, x3, x4, x5, x6, x7, x8, x9, x10] 5 0 [x9, x7, x5, x3, x1, x0, x2, x4, x6, x8, x10] := ⟨fun k => by kernel_rfl, fun k => by kernel_rfl, rfl, [9, 7, 5, 3, 1, 0, 2, 4, 6, 8, 10], rfl, by show List.Perm _ (List.range 11); decide⟩
theorem moved_11_5_1 (x0 x1 x2 x3 x4 x5 x6 x7 x8 x9 x10 : Int) : movedR [x0, x1, x2, x3, x4, x5, x6, x7, x8, x9, x10] 5 1 [x10, x8, x6, x4, x2, x0, x1, x3, x5, x7, x9] := ⟨fun k => by kernel_rfl, fun k => by kernel_rfl, rfl, [10, 8, 6, 4, 2, 0, 1, 3, 5, 7, 9], rfl, by show List.Perm _ (List.range 11); decide⟩
theorem moved_11_6_0 (x0 x1 x2 x3 x4 x5 x6 x7 x8 x9 x10 : Int) : movedR [x0, x1, x2, x3, x4, x5, x6, x7, x8, x9, x10] 6 0 [x5, x4, x6, x3, x7, x2, x8, x1, x9, x0, x10] := ⟨fun k => by kernel_rfl, fun k => by kernel_rfl, rfl, [5, 4, 6, 3, 7, 2, 8, 1, 9, 0, 10], rfl, by show List.Perm _ (List.range 11); decide⟩
theorem moved_11_7_0 (x0 x1 x2 x3 x4 x5 x6 x7 x8 x9 x10 : Int) : movedR [x0, x1, x2, x3, x4, x5, x6, x7, x8, x9, x10] 7 0 [x6, x10, x2, x8, x4, x0, x9, x7, x5, x3, x1] := ⟨fun k => by kernel_rfl, fun k => by kernel_rfl, rfl, [6, 10, 2, 8, 4, 0, 9, 7, 5, 3, 1], rfl, by show List.Perm _ (List.range 11); decide⟩
theorem moved_11_7_1 (x0 x1 x2 x3 x4 x5 x6 x7 x8 x9 x10 : Int) : movedR [x0, x1, x2, x3, x4, x5, x6, x7, x8, x9, x10] 7 1 [x5, x9, x1, x7, x3, x10, x8, x6, x4, x2, x0] := ⟨fun k => by kernel_rfl, fun k => by kernel_rfl, rfl, [5, 9, 1, 7, 3, 10, 8, 6, 4, 2, 0], rfl, by show List.Perm _ (List.range 11); decide⟩
theorem moved_12_5_0 (x0 x1 x2 x3 x4 x5 x6 x7 x8 x9 x10 x11 : Int) : movedR [x0, x1, x2, x3, x4, x5, x6, x7, x8, x9, x10, x11] 5 0 [x11, x9, x7, x5, x3, x1, x0, x2, x4, x6, x8, x10] := ⟨fun k => by kernel_rfl, fun k => by kernel_rfl, rfl, [11, 9, 7, 5, 3, 1, 0, 2, 4, 6, 8, 10], rfl, by show List.Perm _ (List.range 12); decide⟩
theorem moved_12_5_1 (x0 x1 x2 x3 x4 x5 x6 x7 x8 x9 x10 x11 : Int) : movedR [x0, x1, x2, x3, x4, x5, x6, x7, x8, x9, x10, x11] 5 1 [x10, x8, x6, x4, x2, x0, x1, x3, x5, x7, x9, x11] := ⟨fun k => by kernel_rfl, fun k => by kernel_rfl, rfl, [10, 8, 6, 4, 2, 0, 1, 3, 5, 7, 9, 11], rfl, by show List.Perm _ (List.range 12); decide⟩
theorem moved_12_6_0 (x0 x1 x2 x3 x4 x5 x6 x7 x8 x9 x10 x11 : Int) : movedR [x0, x1, x2, x3, x4, x5, x6, x7, x8, x9, x10, x11] 6 0 [x5, x6, x4, x7, x3, x8, x2, x9, x1, x10, x0, x11] := ⟨fun k => by kernel_rfl, fun k => by kernel_rfl, rfl, [5, 6, 4, 7, 3, 8, 2, 9, 1, 10, 0, 11], rfl, by show List.Perm _ (List.range 12); decide⟩
theorem moved_12_7_0 (x0 x1 x2 x3 x4 x5 x6 x7 x8 x9 x10 x11 : Int) : movedR [x0, x1, x2, x3, x4, x5, x6, x7, x8, x9, x10, x11] 7 0 [x8, x0, x4, x10, x6, x2, x11, x9, x7, x5, x3, x1] := ⟨fun k => by kernel_rfl, fun k => by kernel_rfl, rfl, [8, 0, 4, 10, 6, 2, 11, 9, 7, 5, 3, 1], rfl, by show List.Perm _ (List.range 12); decide⟩
theorem moved_12_7_1 (x0 x1 x2 x3 x4 x5 x6 x7 x8 x9 x10 x11 : Int) : movedR [x0, x1, x2, x3, x4, x5, x6, x7, x8, x9, x10, x11] 7 1 [x7, x11, x3, x9, x5, x1, x10, x8, x6, x4, x2, x0] := ⟨fun k => by kernel_rfl, fun k => by kernel_rfl, rfl, [7, 11, 3, 9, 5, 1, 10, 8, 6, 4, 2, 0], rfl, by show List.Perm _ (List.range 12); decide⟩
theorem moved_ex (p : List Int) (c a : Int) (h1 : 1 ≤ p.length) (h2 : p.length ≤ 12) (h : (c = 5 ∧ (a = 0 ∨ a = 1)) ∨ (c = 6 ∧ a = 0) ∨ (c = 7 ∧ (a = 0 ∨ a = 1))) : ∃ q, movedR p c a q := by
  have hn : p.length = 1 ∨ p.length = 2 ∨ p.length = 3 ∨ p.length = 4 ∨ p.length = 5 ∨ p.length = 6 ∨ p.length = 7 ∨ p.length = 8 ∨ p.length = 9 ∨ p.length = 10 ∨ p.length = 11 ∨ p.length = 12 := by omega
  rcases hn with hn | hn | hn | hn | hn | hn | hn | hn | hn | hn | hn | hn
  · obtain ⟨x0, rfl⟩ := len_1 p hn
    rcases h with ⟨rfl, rfl | rfl⟩ | ⟨rfl, rfl⟩ | ⟨rfl, rfl | rfl⟩
    · exact ⟨_, moved_1_5_0 x0⟩
    · exact ⟨_, moved_1_5_1 x0⟩
    · exact ⟨_, moved_1_6_0 x0⟩
    · exact ⟨_, moved_1_7_0 x0⟩
    · exact ⟨_, moved_1_7_1 x0⟩
  · obtain ⟨x0, x1, rfl⟩ := len_2 p hn
    rcases h with ⟨rfl, rfl | rfl⟩ | ⟨rfl, rfl⟩ | ⟨rfl, rfl | rfl⟩
    · exact ⟨_, moved_2_5_0 x0 x1⟩
    · exact ⟨_, moved_2_5_1 x0 x1⟩
    · exact ⟨_, moved_2_6_0 x0 x1⟩
    · exact ⟨_, moved_2_7_0 x0 x1⟩
    · exact ⟨_, moved_2_7_1 x0 x1⟩
  · obtain ⟨x0, x1, x2, rfl⟩ := len_3 p hn
    rcases h with ⟨rfl, rfl | rfl⟩ | ⟨rfl, rfl⟩ | ⟨rfl, rfl | rfl⟩
    · exact ⟨_, moved_3_5_0 x0 x1 x2⟩
    · exact ⟨_, moved_3_5_1 x0 x1 x2⟩
    · exact ⟨_, moved_3_6_0 x0 x1 x2⟩
    · exact ⟨_, moved_3_7_0 x0 x1 x2⟩
    · exact ⟨_, moved_3_7_1 x0 x1 x2⟩
  · obtain ⟨x0, x1, x2, x3, rfl⟩ := len_4 p hn
    rcases h with ⟨rfl, rfl | rfl⟩ | ⟨rfl, rfl⟩ | ⟨rfl, rfl | rfl⟩
    · exact ⟨_, moved_4_5_0 x0 x1 x2 x3⟩
    · exact ⟨_, moved_4_5_1 x0 x1 x2 x3⟩
    · exact ⟨_, moved_4_6_0 x0 x1 x2 x3⟩
    · exact ⟨_, moved_4_7_0 x0 x1 x2 x3⟩
    · exact ⟨_, moved_4_7_1 x0 x1 x2 x3⟩
  · obtain ⟨x0, x1, x2, x3, x4, rfl⟩ := len_5 p hn
    rcases h with ⟨rfl, rfl | rfl⟩ | ⟨rfl, rfl⟩ | ⟨rfl, rfl | rfl⟩
    · exact ⟨_, moved_5_5_0 x0 x1 x2 x3 x4⟩
    · exact ⟨_, moved_5_5_1 x0 x1 x2 x3 x4⟩
    · exact ⟨_, moved_5_6_0 x0 x1 x2 x3 x4⟩
    · exact ⟨_, moved_5_7_0 x0 x1 x2 x3 x4⟩
    · exact ⟨_, moved_5_7_1 x0 x1 x2 x3 x4⟩
  · obtain ⟨x0, x1, x2, x3, x4, x5, rfl⟩ := len_6 p hn
    rcases h with ⟨rfl, rfl | rfl⟩ | ⟨rfl, rfl⟩ | ⟨rfl, rfl | rfl⟩
    · exact ⟨_, moved_6_5_0 x0 x1 x2 x3 x4 x5⟩
    · exact ⟨_, moved_6_5_1 x0 x1 x2 x3 x4 x5⟩
    · exact ⟨_, moved_6_6_0 x0 x1 x2 x3 x4 x5⟩
    · exact ⟨_, moved_6_7_0 x0 x1 x2 x3 x4 x5⟩
    · exact ⟨_, moved_6_7_1 x0 x1 x2 x3 x4 x5⟩
  · obtain ⟨x0, x1, x2, x3, x4, x5, x6, rfl⟩ := len_7 p hn
    rcases h with ⟨rfl, rfl | rfl⟩ | ⟨rfl, rfl⟩ | ⟨rfl, rfl | rfl⟩
    · exact ⟨_, moved_7_5_0 x0 x1 x2 x3 x4 x5 x6⟩
    · exact ⟨_, moved_7_5_1 x0 x1 x2 x3 x4 x5 x6⟩
    · exact ⟨_, moved_7_6_0 x0 x1 x2 x3 x4 x5 x6⟩
    · exact ⟨_, moved_7_7_0 x0 x1 x2 x3 x4 x5 x6⟩
    · exact ⟨_, moved_7_7_1 x0 x1 x2 x3 x4 x5 x6⟩
  · obtain ⟨x0, x1, x2, x3, x4, x5, x6, x7, rfl⟩ := len_8 p hn
    rcases h with ⟨rfl, rfl | rfl⟩ | ⟨rfl, rfl⟩ | ⟨rfl, rfl | rfl⟩
    · exact ⟨_, moved_8_5_0 x0 x1 x2 x3 x4 x5 x6 x7⟩
    · exact ⟨_, moved_8_5_1 x0 x1 x2 x3 x4 x5 x6 x7⟩
    · exact ⟨_, moved_8_6_0 x0 x1 x2 x3 x4 x5 x6 x7⟩
    · exact ⟨_, moved_8_7_0 x0 x1 x2 x3 x4 x5 x6 x7⟩
    · exact ⟨_, moved_8_7_1 x0 x1 x2 x3 x4 x5 x6 x7⟩
  · obtain ⟨x0, x1, x2, x3, x4, x5, x6, x7, x8, rfl⟩ := len_9 p hn
    rcases h with ⟨rfl, rfl | rfl⟩ | ⟨rfl, rfl⟩ | ⟨rfl, rfl | rfl⟩
    · exact ⟨_, moved_9_5_0 x0 x1 x2 x3 x4 x5 x6 x7 x8⟩
    · exact ⟨_, moved_9_5_1 x0 x1 x2 x3 x4 x5 x6 x7 x8⟩
    · exact ⟨_, moved_9_6_0 x0 x1 x2 x3 x4 x5 x6 x7 x8⟩
    · exact ⟨_, moved_9_7_0 x0 x1 x2 x3 x4 x5 x6 x7 x8⟩
    · exact ⟨_, moved_9_7_1 x0 x1 x2 x3 x4 x5 x6 x7 x8⟩
  · obtain ⟨x0, x1, x2, x3, x4, x5, x6, x7, x8, x9, rfl⟩ := len_10 p hn
    rcases h with ⟨rfl, rfl | rfl⟩ | ⟨rfl, rfl⟩ | ⟨rfl, rfl | rfl⟩
    · exact ⟨_, moved_10_5_0 x0 x1 x2 x3 x4 x5 x6 x7 x8 x9⟩
    · exact ⟨_, moved_10_5_1 x0 x1 x2 x3 x4 x5 x6 x7 x8 x9⟩
    · exact ⟨_, moved_10_6_0 x0 x1 x2 x3 x4 x5 x6 x7 x8 x9⟩
    · exact ⟨_, moved_10_7_0 x0 x1 x2 x3 x4 x5 x6 x7 x8 x9⟩
    · exact ⟨_, moved_10_7_1 x0 x1 x2 x3 x4 x5 x6 x7 x8 x9⟩
  · obtain ⟨x0, x1, x2, x3, x4, x5, x6, x7, x8, x9, x10, rfl⟩ := len_11 p hn
    rcases h with ⟨rfl, rfl | rfl⟩ | ⟨rfl, rfl⟩ | ⟨rfl, rfl | rfl⟩
    · exact ⟨_, moved_11_5_0 x0 x1 x2 x3 x4 x5 x6 x7 x8 x9 x10⟩
    · exact ⟨_, moved_11_5_1 x0 x1 x2 x3 x4 x5 x6 x7 x8 x9 x10⟩
    · exact ⟨_, moved_11_6_0 x0 x1 x2 x3 x4 x5 x6 x7 x8 x9 x10⟩
    · exact ⟨_, moved_11_7_0 x0 x1 x2 x3 x4 x5 x6 x7 x8 x9 x10⟩
    · exact ⟨_, moved_11_7_1 x0 x1 x2 x3 x4 x5 x6 x7 x8 x9 x10⟩
  · obtain ⟨x0, x1, x2, x3, x4, x5, x6, x7, x8, x9, x10, x11, rfl⟩ := len_12 p hn
    rcases h with ⟨rfl, rfl | rfl⟩ | ⟨rfl, rfl⟩ | ⟨rfl, rfl | rfl⟩
    · exact ⟨_, moved_12_5_0 x0 x1 x2 x3 x4 x5 x6 x7 x8 x9 x10 x11⟩
    · exact ⟨_, moved_12_5_1 x0 x1 x2 x3 x4 x5 x6 x7 x8 x9 x10 x11⟩
    · exact ⟨_, moved_12_6_0 x0 x1 x2 x3 x4 x5 x6 x7 x8 x9 x10 x11⟩
    · exact ⟨_, moved_12_7_0 x0 x1 x2 x3 x4 x5 x6 x7 x8 x9 x10 x11⟩
    · exact ⟨_, moved_12_7_1 x0 x1 x2 x3 x4 x5 x6 x7 x8 x9 x10 x11⟩
end Go.Proofs.Ytdnedgkanglgjaa.F
end
section
/- The perfect shuffle: the program's and the reference's functions make one list. -/
namespace Go.Proofs.Ytdnedgkanglgjaa.F
open Go.RowKit Go.Proofs.YtdnedgkanglgjaaW.PrintWords Go.Proofs.YtdnedgkanglgjaaW.PrintLast Go.Proofs.YtdnedgkanglgjaaW.PrintMore
set_option linter.unusedVariables false
set_option linter.unusedSimpArgs false
def weaveN : Nat → Bool → List Int → List Int → List Int
  | 0, _, _, _ => []
  | n + 1, true, x :: a, b => x :: weaveN n false a b
  | n + 1, true, [], y :: b => y :: weaveN n false [] b
  | n + 1, false, a, y :: b => y :: weaveN n true a b
  | n + 1, false, x :: a, [] => x :: weaveN n true a []
  | _ + 1, _, [], [] => []
def faroL (l : List Int) (k : Int) : List Int := weaveN l.length (k == 0) (l.take (l.length / 2)) (l.drop (l.length / 2))
theorem rd_zero (x : Int) (a : List Int) : rd (x :: a) 0 = x := by simp [rd]
theorem len_pos (x : Int) (a : List Int) : ((x :: a).length : Int) > 0 := by rw [List.length_cons]; omega
theorem len_pos' (x : Int) (a : List Int) : 0 < ((x :: a).length : Int) := by rw [List.length_cons]; omega
theorem len_one (x : Int) (a : List Int) : 1 ≤ ((x :: a).length : Int) := by rw [List.length_cons]; omega
theorem len_nz (x : Int) (a : List Int) : ¬ ((x :: a).length : Int) = 0 := by rw [List.length_cons]; omega
theorem nil_npos : ¬ (([] : List Int).length : Int) > 0 := by simp
theorem nil_z : (([] : List Int).length : Int) = 0 := rfl
theorem impl_faro_at (n : Nat) : ∀ (f : Bool) (a b out : List Int), a.length + b.length = n → out.length + n ≤ 1048576 →
    Ev (fun k => impl_faro.l0 k a b out f) (out ++ weaveN n f a b) := by
  induction n with
  | zero =>
    intro f a b out h hb
    obtain rfl : a = [] := List.eq_nil_of_length_eq_zero (by omega)
    obtain rfl : b = [] := List.eq_nil_of_length_eq_zero (by omega)
    refine Ev.succ (Ev.succ ?_)
    refine Ev.congr (f := fun _ => some out) (fun k => ?_) (by simpa [weaveN] using Ev.now out)
    rw [impl_faro.l0, if_neg nil_npos, show decide ((([] : List Int).length : Int) > 0) = false from rfl, impl_faro.j1, if_neg (by decide)]
  | succ n ih =>
    intro f a b out h hb
    have ho : out.length < 17592186044416 := by omega
    have ha : ∀ x a', a = x :: a' → (f = true ∨ b = []) → Ev (fun k => impl_faro.l0 k a b out f) (out ++ x :: weaveN n (!f) a' b) := by
      intro x a' e c
      subst e
      have hi := ih (!f) a' b (out ++ [x]) (by simp at h; omega) (by simp; omega)
      rw [List.append_assoc] at hi
      refine Ev.succ (Ev.step (fun k => ?_) hi)
      rw [impl_faro.l0, if_pos (len_pos _ _), impl_faro.j1, if_pos rfl]
      cases f with
      | true => rw [if_pos rfl, if_pos (len_pos _ _), if_pos (len_pos' _ _), if_pos ho, if_pos (len_one _ _), rd_zero]; rfl
      | false =>
        rcases c with c | c
        · cases c
        · subst c
          rw [if_neg (by decide), if_pos nil_z, if_pos (len_pos' _ _), if_pos ho, if_pos (len_one _ _), rd_zero]; rfl
    have hbb : ∀ y b', b = y :: b' → (f = false ∨ a = []) → Ev (fun k => impl_faro.l0 k a b out f) (out ++ y :: weaveN n (!f) a b') := by
      intro y b' e c
      subst e
      have hi := ih (!f) a b' (out ++ [y]) (by simp at h; omega) (by simp; omega)
      rw [List.append_assoc] at hi
      refine Ev.succ (Ev.step (fun k => ?_) hi)
      have hj : impl_faro.l0 (k + 1 + 1) a (y :: b') out f = impl_faro.j1 (k + 1) a (y :: b') out f true := by
        rw [impl_faro.l0]
        by_cases c0 : (a.length : Int) > 0
        · rw [if_pos c0]
        · rw [if_neg c0, decide_eq_true (len_pos y b')]
      rw [hj, impl_faro.j1, if_pos rfl]
      cases f with
      | false => rw [if_neg (by decide), if_neg (len_nz _ _), if_pos (len_pos' _ _), if_pos ho, if_pos (len_one _ _), rd_zero]; rfl
      | true =>
        rcases c with c | c
        · cases c
        · subst c
          rw [if_pos rfl, if_neg nil_npos, if_neg (len_nz _ _), if_pos (len_pos' _ _), if_pos ho, if_pos (len_one _ _), rd_zero]; rfl
    cases f with
    | true =>
      cases a with
      | cons x a => simpa [weaveN] using ha x a rfl (.inl rfl)
      | nil =>
        cases b with
        | cons y b => simpa [weaveN] using hbb y b rfl (.inr rfl)
        | nil => simp at h
    | false =>
      cases b with
      | cons y b => simpa [weaveN] using hbb y b rfl (.inl rfl)
      | nil =>
        cases a with
        | cons x a => simpa [weaveN] using ha x a rfl (.inr rfl)
        | nil => simp at h
theorem half_id (l : List Int) (hb : l.length ≤ 1048576) : wrap64 ((l.length : Int) / 2) = ((l.length / 2 : Nat) : Int) := by
  rw [w64_id (by omega) (by omega)]
  omega
theorem impl_faro_ev (l : List Int) (k : Int) (hb : l.length ≤ 1048576) : Ev (fun n => impl_faro.f n l k) (faroL l k) := by
  unfold impl_faro.f
  have h1 : (0 : Int) ≤ ((l.length / 2 : Nat) : Int) := nn _
  have h2 : ((l.length / 2 : Nat) : Int) ≤ (l.length : Int) := by omega
  simp only [half_id l hb, if_pos h1, if_pos h2, Int.toNat_natCast]
  have h := impl_faro_at l.length (k == 0) (l.take (l.length / 2)) (l.drop (l.length / 2)) [] (by rw [List.length_take, List.length_drop]; omega) (by simpa using hb)
  simpa [faroL] using h
theorem spec_faro_at (k : Int) (hk : k = 0 ∨ k = 1) (n : Nat) : ∀ (f : Bool) (a b out : List Int), a.length + b.length = n → out.length + n ≤ 1048576 → f = decide ((out.length : Int) % 2 = k) →
    Ev (fun m => spec_l04Faro.l0 m k a b out) (out ++ weaveN n f a b) := by
  induction n with
  | zero =>
    intro f a b out h hb hf
    obtain rfl : a = [] := List.eq_nil_of_length_eq_zero (by omega)
    obtain rfl : b = [] := List.eq_nil_of_length_eq_zero (by omega)
    refine Ev.succ (Ev.succ ?_)
    refine Ev.congr (f := fun _ => some out) (fun m => ?_) (by simpa [weaveN] using Ev.now out)
    rw [spec_l04Faro.l0, if_neg nil_npos, show decide ((([] : List Int).length : Int) > 0) = false from rfl, spec_l04Faro.j1, if_neg (by decide)]
  | succ n ih =>
    intro f a b out h hb hf
    have ho : out.length < 17592186044416 := by omega
    have hnext : ∀ z : Int, (!f) = decide (((out ++ [z]).length : Int) % 2 = k) := by
      intro z
      rw [hf]
      rw [Bool.eq_iff_iff]
      simp
      omega
    have ha : ∀ x a', a = x :: a' → (f = true ∨ b = []) → Ev (fun m => spec_l04Faro.l0 m k a b out) (out ++ x :: weaveN n (!f) a' b) := by
      intro x a' e c
      subst e
      have hi := ih (!f) a' b (out ++ [x]) (by simp at h; omega) (by simp; omega) (hnext x)
      rw [List.append_assoc] at hi
      refine Ev.succ (Ev.step (fun m => ?_) hi)
      rw [spec_l04Faro.l0, if_pos (len_pos _ _), spec_l04Faro.j1, if_pos rfl]
      cases b with
      | nil => rw [if_pos nil_z, if_pos (len_pos' _ _), if_pos ho, if_pos (len_one _ _), rd_zero]; rfl
      | cons y b =>
        rcases c with c | c
        · have h2 : (out.length : Int) % 2 = k := of_decide_eq_true (hf.symm.trans c)
          rw [if_neg (len_nz _ _), if_pos (len_pos _ _), if_pos h2, if_pos (len_pos' _ _), if_pos ho, if_pos (len_one _ _), rd_zero]; rfl
        · cases c
    have hbb : ∀ y b', b = y :: b' → (f = false ∨ a = []) → Ev (fun m => spec_l04Faro.l0 m k a b out) (out ++ y :: weaveN n (!f) a b') := by
      intro y b' e c
      subst e
      have hi := ih (!f) a b' (out ++ [y]) (by simp at h; omega) (by simp; omega) (hnext y)
      rw [List.append_assoc] at hi
      refine Ev.succ (Ev.step (fun m => ?_) hi)
      have hj : spec_l04Faro.l0 (m + 1 + 1) k a (y :: b') out = spec_l04Faro.j1 (m + 1) k a (y :: b') out true := by
        rw [spec_l04Faro.l0]
        by_cases c0 : (a.length : Int) > 0
        · rw [if_pos c0]
        · rw [if_neg c0, decide_eq_true (len_pos y b')]
      rw [hj, spec_l04Faro.j1, if_pos rfl, if_neg (len_nz _ _)]
      cases a with
      | nil => rw [if_neg nil_npos, if_pos (len_pos' _ _), if_pos ho, if_pos (len_one _ _), rd_zero]; rfl
      | cons x a =>
        rcases c with c | c
        · have h2 : ¬ (out.length : Int) % 2 = k := of_decide_eq_false (hf.symm.trans c)
          rw [if_pos (len_pos _ _), if_neg h2, if_pos (len_pos' _ _), if_pos ho, if_pos (len_one _ _), rd_zero]; rfl
        · cases c
    cases f with
    | true =>
      cases a with
      | cons x a => simpa [weaveN] using ha x a rfl (.inl rfl)
      | nil =>
        cases b with
        | cons y b => simpa [weaveN] using hbb y b rfl (.inr rfl)
        | nil => simp at h
    | false =>
      cases b with
      | cons y b => simpa [weaveN] using hbb y b rfl (.inl rfl)
      | nil =>
        cases a with
        | cons x a => simpa [weaveN] using ha x a rfl (.inr rfl)
        | nil => simp at h
theorem spec_faro_ev (l : List Int) (k : Int) (hk : k = 0 ∨ k = 1) (hb : l.length ≤ 1048576) : Ev (fun n => spec_l04Faro.f n l k) (faroL l k) := by
  unfold spec_l04Faro.f
  have h1 : (0 : Int) ≤ ((l.length / 2 : Nat) : Int) := nn _
  have h2 : ((l.length / 2 : Nat) : Int) ≤ (l.length : Int) := by omega
  simp only [half_id l hb, if_pos h1, if_pos h2, Int.toNat_natCast]
  have h := spec_faro_at k hk l.length (k == 0) (l.take (l.length / 2)) (l.drop (l.length / 2)) [] (by rw [List.length_take, List.length_drop]; omega) (by simpa using hb) (by
    rcases hk with rfl | rfl <;> rfl)
  simpa [faroL] using h
end Go.Proofs.Ytdnedgkanglgjaa.F
end
section
/- A move performed: both functions make one packet of the same cards. -/
namespace Go.Proofs.Ytdnedgkanglgjaa.F
open Go.RowKit Go.Proofs.YtdnedgkanglgjaaW.PrintWords Go.Proofs.YtdnedgkanglgjaaW.PrintLast Go.Proofs.YtdnedgkanglgjaaW.PrintMore
set_option linter.unusedVariables false
set_option linter.unusedSimpArgs false
theorem weave_perm (n : Nat) : ∀ (f : Bool) (a b : List Int), a.length + b.length = n → (weaveN n f a b).Perm (a ++ b) := by
  induction n with
  | zero =>
    intro f a b h
    obtain rfl : a = [] := List.eq_nil_of_length_eq_zero (by omega)
    obtain rfl : b = [] := List.eq_nil_of_length_eq_zero (by rw [List.length_nil] at h; omega)
    cases f <;> exact List.Perm.refl _
  | succ n ih =>
    intro f a b h
    cases f with
    | true =>
      cases a with
      | cons x a => simpa [weaveN] using ih false a b (by simp at h; omega)
      | nil =>
        cases b with
        | cons y b => simpa [weaveN] using ih false [] b (by simp only [List.length_nil, List.length_cons] at h ⊢; omega)
        | nil => simp at h
    | false =>
      cases b with
      | cons y b =>
        have := ih true a b (by simp at h; omega)
        simp only [weaveN]
        exact (this.cons y).trans List.perm_middle.symm
      | nil =>
        cases a with
        | cons x a => simpa [weaveN] using ih true a [] (by simp only [List.length_nil, List.length_cons] at h ⊢; omega)
        | nil => simp at h
theorem faro_perm (l : List Int) (k : Int) : (faroL l k).Perm l := by
  unfold faroL
  have h := weave_perm l.length (k == 0) (l.take (l.length / 2)) (l.drop (l.length / 2)) (by rw [List.length_take, List.length_drop]; omega)
  rwa [List.take_append_drop] at h
theorem card_turnC (x : Int) (h : 0 ≤ cardOf x) : cardOf (turnC x) = cardOf x := by
  have hs := card_small h
  unfold turnC
  rw [if_neg (by omega)]
  unfold cardOf
  repeat' split
  all_goals omega
/-- Some list that a move makes: both functions make it, of the same cards. -/
def madeR (p : List Int) (c a : Int) (q : List Int) : Prop := Ev (fun k => impl_moved.f k p c a) q ∧ Ev (fun k => spec_l04Do.f k p c a) q ∧ q.length = p.length ∧ (q.map cardOf).Perm (p.map cardOf) ∧ ∀ x ∈ q, -12 ≤ x ∧ x ≤ 11
theorem small_of {p q : List Int} (hp : packetB p = true) (h : (q.map cardOf).Perm (p.map cardOf)) : ∀ x ∈ q, -12 ≤ x ∧ x ≤ 11 := fun x hx => card_small (((packetB_iff q).mp (packetB_perm h hp)).1 x hx)
theorem made_ex (p : List Int) (c a : Int) (hp : packetB p = true) (hm : moveB (p.length : Int) c a = true) : ∃ q, madeR p c a q := by
  have hlen := packetB_len hp
  have hcards := ((packetB_iff p).mp hp).1
  have hw : ∀ x ∈ p, -9223372036854775808 ≤ x := fun x hx => by have := card_small (hcards x hx); omega
  unfold moveB at hm
  rw [Bool.and_eq_true, decide_eq_true_eq] at hm
  obtain ⟨h1, hm⟩ := hm
  have mk : ∀ q, Ev (fun k => impl_moved.f k p c a) q → Ev (fun k => spec_l04Do.f k p c a) q → (q.map cardOf).Perm (p.map cardOf) → madeR p c a q :=
    fun q e1 e2 hq => ⟨e1, e2, by have := hq.length_eq; simpa using this, hq, small_of hp hq⟩
  by_cases c123 : c = 1 ∨ c = 2 ∨ c = 3
  · rw [if_pos c123, decide_eq_true_eq] at hm
    rcases c123 with rfl | rfl | rfl
    · refine ⟨_, mk _ (cut_ev p a (by omega) hm.1 hm.2) (spec_cut_ev p a (by omega) hm.1 hm.2) (List.Perm.map _ ?_)⟩
      have := List.perm_append_comm (l₁ := p.drop a.toNat) (l₂ := p.take a.toNat)
      rwa [List.take_append_drop] at this
    · refine ⟨_, mk _ (back_ev p a (by omega) hm.1 hm.2) (spec_deal_ev p a (by omega) hm.1 hm.2) (List.Perm.map _ ?_)⟩
      have := (List.reverse_perm (p.take a.toNat)).append_right (p.drop a.toNat)
      rwa [List.take_append_drop] at this
    · refine ⟨_, mk _ (flip_ev p a (by omega) hm.1 hm.2 hw) (spec_flip_ev p a (by omega) hm.1 hm.2) ?_⟩
      rw [List.map_append, List.map_map]
      have e : (p.take a.toNat).reverse.map (cardOf ∘ turnC) = (p.take a.toNat).reverse.map cardOf := List.map_congr_left (fun x hx => card_turnC x (hcards x (List.mem_of_mem_take (List.mem_reverse.mp hx))))
      rw [e, ← List.map_append]
      have := (List.reverse_perm (p.take a.toNat)).append_right (p.drop a.toNat)
      rw [List.take_append_drop] at this
      exact this.map _
  · rw [if_neg c123] at hm
    by_cases c457 : c = 4 ∨ c = 5 ∨ c = 7
    · rw [if_pos c457, decide_eq_true_eq] at hm
      have ha : a = 0 ∨ a = 1 := by omega
      have data : (c = 5 ∨ c = 7) → ∃ q, madeR p c a q := by
        intro hc
        obtain ⟨q, d1, d2, d3, js, d4, d5⟩ := moved_ex p c a (by omega) hlen (by rcases hc with rfl | rfl; exact .inl ⟨rfl, ha⟩; exact .inr (.inr ⟨rfl, ha⟩))
        refine ⟨q, mk q (Ev.at_ 90 (fun k hk => by obtain ⟨m, rfl⟩ := Nat.exists_eq_add_of_le' hk; exact d1 m)) (Ev.at_ 90 (fun k hk => by obtain ⟨m, rfl⟩ := Nat.exists_eq_add_of_le' hk; exact d2 m)) (List.Perm.map _ ?_)⟩
        have e : (List.range p.length).map (fun j => p.getD j 0) = p := by
          apply List.ext_getElem
          · simp
          · intro i g1 g2
            simp [List.getD_eq_getElem?_getD, List.getElem?_eq_getElem g2]
        rw [d4]
        exact (d5.map _).trans (by rw [e])
      rcases c457 with rfl | h5
      · refine ⟨faroL p a, mk _ ?_ ?_ ((faro_perm p a).map _)⟩
        · unfold impl_moved.f
          simp only [if_neg (show ¬ (4 : Int) = 1 by omega), if_neg (show ¬ (4 : Int) = 2 by omega), if_neg (show ¬ (4 : Int) = 3 by omega), if_true]
          exact Ev.bind (impl_faro_ev p a (by omega)) (Ev.now _)
        · unfold spec_l04Do.f
          simp only [if_neg (show ¬ (4 : Int) = 1 by omega), if_neg (show ¬ (4 : Int) = 2 by omega), if_neg (show ¬ (4 : Int) = 3 by omega), if_true]
          exact Ev.bind (spec_faro_ev p a ha (by omega)) (Ev.now _)
      · exact data h5
    · rw [if_neg c457] at hm
      by_cases c6 : c = 6
      · rw [if_pos c6, decide_eq_true_eq] at hm
        obtain ⟨q, d1, d2, d3, js, d4, d5⟩ := moved_ex p c a (by omega) hlen (.inr (.inl ⟨c6, hm⟩))
        refine ⟨q, mk q (Ev.at_ 90 (fun k hk => by obtain ⟨m, rfl⟩ := Nat.exists_eq_add_of_le' hk; exact d1 m)) (Ev.at_ 90 (fun k hk => by obtain ⟨m, rfl⟩ := Nat.exists_eq_add_of_le' hk; exact d2 m)) (List.Perm.map _ ?_)⟩
        have e : (List.range p.length).map (fun j => p.getD j 0) = p := by
          apply List.ext_getElem
          · simp
          · intro i g1 g2
            simp [List.getD_eq_getElem?_getD, List.getElem?_eq_getElem g2]
        rw [d4]
        exact (d5.map _).trans (by rw [e])
      · rw [if_neg c6] at hm
        by_cases c89 : c = 8 ∨ c = 9
        · rw [if_pos c89, decide_eq_true_eq] at hm
          obtain ⟨n, rfl⟩ := Int.eq_ofNat_of_zero_le hm.1
          have hn : n < p.length := by omega
          have hrd : rd p (n : Int) = p[n] := by
            unfold rd
            rw [Int.toNat_natCast, List.getD_eq_getElem?_getD, List.getElem?_eq_getElem hn]
            rfl
          rcases c89 with rfl | rfl
          · refine ⟨_, mk _ (turn_ev p n (by omega) hm.1 hm.2 hw) (spec_turn_ev p n (by omega) hm.1 hm.2) ?_⟩
            rw [Int.toNat_natCast, List.map_set, hrd, card_turnC _ (hcards _ (List.getElem_mem hn))]
            have : (p.map cardOf).set n (cardOf p[n]) = p.map cardOf := by
              have e : cardOf p[n] = (p.map cardOf)[n]'(by simpa using hn) := by simp
              rw [e, List.set_getElem_self]
            rw [this]
          · refine ⟨_, mk _ (under_ev p n (by omega) hm.1 hm.2) (spec_under_ev p n (by omega) hm.1 hm.2) (List.Perm.map _ ?_)⟩
            rw [Int.toNat_natCast, hrd]
            have h3 : (p.take n ++ (p.drop (n + 1) ++ [p[n]])).Perm (p.take n ++ (p[n] :: p.drop (n + 1))) := List.Perm.append_left _ (List.perm_append_singleton _ _)
            rw [List.append_assoc]
            rw [← List.drop_eq_getElem_cons hn, List.take_append_drop] at h3
            exact h3
        · rw [if_neg c89] at hm
          exact absurd hm (by simp)
theorem perform_ex (p : List Int) (c a : Int) (hb : p.length ≤ 1048576) (hw : ∀ x ∈ p, -9223372036854775808 ≤ x) : ∃ (q : List Int) (b : Bool), Ev (fun k => impl_Perform.f k p c a) (q, b) ∧ Ev (fun k => spec_Perform.f k p c a) (q, b) ∧
    (if packetB p = true ∧ moveB (p.length : Int) c a = true then b = true ∧ madeR p c a q else b = false ∧ q = []) := by
  have E1 := impl_PacketOk_ev p (by omega) hw
  have E2 := spec_PacketOk_ev p
  have E3 := impl_MoveOk_ev (p.length : Int) c a
  have E4 := spec_MoveOk_ev (p.length : Int) c a
  by_cases hp : packetB p = true
  · by_cases hm : moveB (p.length : Int) c a = true
    · obtain ⟨q, hq⟩ := made_ex p c a hp hm
      refine ⟨q, true, ?_, ?_, ?_⟩
      · unfold impl_Perform.f
        refine Ev.bind E1 ?_
        simp only [hp, if_true]
        refine Ev.bind E3 ?_
        simp only [hm, if_true]
        exact Ev.bind hq.1 (Ev.now _)
      · unfold spec_Perform.f
        refine Ev.bind E2 ?_
        simp only [hp, if_true]
        refine Ev.bind E4 ?_
        simp only [hm, if_true]
        exact Ev.bind hq.2.1 (Ev.now _)
      · rw [if_pos ⟨hp, hm⟩]; exact ⟨rfl, hq⟩
    · refine ⟨[], false, ?_, ?_, ?_⟩
      · unfold impl_Perform.f
        refine Ev.bind E1 ?_
        simp only [hp, if_true]
        refine Ev.bind E3 ?_
        simp only [hm, if_false]
        exact Ev.now _
      · unfold spec_Perform.f
        refine Ev.bind E2 ?_
        simp only [hp, if_true]
        refine Ev.bind E4 ?_
        simp only [hm, if_false]
        exact Ev.now _
      · rw [if_neg (fun h => hm h.2)]; exact ⟨rfl, rfl⟩
  · refine ⟨[], false, ?_, ?_, ?_⟩
    · unfold impl_Perform.f
      refine Ev.bind E1 ?_
      simp only [hp, if_false]
      exact Ev.now _
    · unfold spec_Perform.f
      refine Ev.bind E2 ?_
      simp only [hp, if_false]
      exact Ev.now _
    · rw [if_neg (fun h => hp h.1)]; exact ⟨rfl, rfl⟩
end Go.Proofs.Ytdnedgkanglgjaa.F
end
section
/- KeepsBalance: both functions answer the same. -/
namespace Go.Proofs.Ytdnedgkanglgjaa.Pure
open Go.RowKit Go.Proofs.Ytdnedgkanglgjaa.F Go.Proofs.YtdnedgkanglgjaaW.PrintWords Go.Proofs.YtdnedgkanglgjaaW.PrintLast Go.Proofs.YtdnedgkanglgjaaW.PrintMore
set_option linter.unusedVariables false
set_option linter.unusedSimpArgs false
theorem keeps_both (p : List Int) (c a : Int) (hb : p.length ≤ 1048576) (hw : ∀ x ∈ p, -9223372036854775808 ≤ x) : ∃ r : Bool, Ev (fun k => spec_KeepsBalance.f k p c a) r ∧ Ev (fun k => impl_KeepsBalance.f k p c a) r := by
  obtain ⟨q, b, h1, h2, h3⟩ := perform_ex p c a hb hw
  have E1 := spec_bal_ev p (by omega)
  have E2 := impl_bal_ev p (by omega) hw
  by_cases hpm : packetB p = true ∧ moveB (p.length : Int) c a = true
  · rw [if_pos hpm] at h3
    obtain ⟨rfl, m1, m2, m3, m4, m5⟩ := h3
    have hlen := packetB_len hpm.1
    have hqp := packetB_perm m4 hpm.1
    have E3 := impl_bal_ev q (by omega) (fun x hx => by have := m5 x hx; omega)
    by_cases he : (p.length : Int) % 2 = 0
    · have b1 : balanceOf p = (balGo 0 p 0, true) := by unfold balanceOf; rw [if_pos ⟨hpm.1, he⟩]
      have b2 : balanceOf q = (balGo 0 q 0, true) := by unfold balanceOf; rw [if_pos ⟨hqp, by rw [m3]; exact he⟩]
      rw [b1] at E1 E2
      rw [b2] at E3
      have E4 := spec_bal_at q [] 0 (by rw [List.nil_append]; omega)
      have hg : ∀ (l : List Int) (i : Nat) (n : Int), 0 ≤ n → n + l.length ≤ 1048576 → n ≤ balGo i l n ∧ balGo i l n ≤ n + l.length := by
        intro l
        induction l with
        | nil => intro i n g1 g2; simp [balGo]
        | cons x l ih =>
          intro i n g1 g2
          simp only [List.length_cons] at g2 ⊢
          unfold balGo
          split
          · have hw1 : wrap64 (n + 1) = n + 1 := w64_id (by omega) (by omega)
            rw [hw1]
            have := ih (i + 1) (n + 1) (by omega) (by omega)
            omega
          · have := ih (i + 1) n g1 (by omega)
            omega
      have g1 := hg p 0 0 (by omega) (by omega)
      have g2 := hg q 0 0 (by omega) (by omega)
      have w1 : wrap64 ((p.length : Int) - balGo 0 q 0) = (p.length : Int) - balGo 0 q 0 := w64_id (by omega) (by omega)
      have w2 : wrap64 ((p.length : Int) - balGo 0 p 0) = (p.length : Int) - balGo 0 p 0 := w64_id (by omega) (by omega)
      refine ⟨decide (balGo 0 p 0 = balGo 0 q 0) || decide (balGo 0 p 0 = (p.length : Int) - balGo 0 q 0), ?_, ?_⟩
      · unfold spec_KeepsBalance.f
        refine Ev.bind E1 (Ev.bind h2 ?_)
        simp only [if_true]
        refine Ev.bind (a := balGo 0 q 0) (by unfold spec_l10Balance.f; exact E4) ?_
        simp only [w1]
        by_cases c1 : balGo 0 p 0 = balGo 0 q 0
        · simp only [if_pos c1, decide_eq_true c1, Bool.true_or]
          exact Ev.now _
        · simp only [if_neg c1, decide_eq_false c1, Bool.false_or]
          exact Ev.now _
      · unfold impl_KeepsBalance.f
        refine Ev.bind E2 (Ev.bind h1 (Ev.bind E3 ?_))
        simp only [if_true, w2]
        by_cases c1 : balGo 0 p 0 = balGo 0 q 0
        · simp only [if_pos c1.symm, decide_eq_true c1, Bool.true_or]
          exact Ev.now _
        · simp only [if_neg (fun h => c1 (Eq.symm h)), decide_eq_false c1, Bool.false_or]
          have e : (balGo 0 q 0 == (p.length : Int) - balGo 0 p 0) = decide (balGo 0 p 0 = (p.length : Int) - balGo 0 q 0) := by
            rw [Bool.eq_iff_iff, beq_iff_eq, decide_eq_true_eq]
            omega
          rw [e]
          exact Ev.now _
    · have b1 : balanceOf p = (0, false) := by unfold balanceOf; rw [if_neg (fun h => he h.2)]
      rw [b1] at E1 E2
      refine ⟨false, ?_, ?_⟩
      · unfold spec_KeepsBalance.f
        refine Ev.bind E1 (Ev.bind h2 ?_)
        simp only [Bool.false_eq_true, if_false]
        exact Ev.now _
      · unfold impl_KeepsBalance.f
        refine Ev.bind E2 (Ev.bind h1 (Ev.bind E3 ?_))
        simp only [Bool.false_eq_true, if_false]
        exact Ev.now _
  · rw [if_neg hpm] at h3
    obtain ⟨rfl, rfl⟩ := h3
    have E3 := impl_bal_ev [] (by simp) (by simp)
    refine ⟨false, ?_, ?_⟩
    · unfold spec_KeepsBalance.f
      refine Ev.bind E1 (Ev.bind h2 ?_)
      cases (balanceOf p).2 <;> simp only [if_true, Bool.false_eq_true, if_false] <;> exact Ev.now _
    · unfold impl_KeepsBalance.f
      refine Ev.bind E2 (Ev.bind h1 (Ev.bind E3 ?_))
      cases (balanceOf p).2 <;> simp only [if_true, Bool.false_eq_true, if_false] <;> exact Ev.now _
theorem FnExactKeepsBalance : laws_FnExactKeepsBalance.Pure := by
  intro l c a hq ha
  obtain ⟨h1, h2, h3⟩ := hq
  have main2 : Ev (fun k => laws_FnExactKeepsBalance.f k l c a) true := by
    unfold laws_FnExactKeepsBalance.f
    by_cases hbig : (l.length : Int) > 1048576
    · simp only [if_pos hbig]
      exact Ev.now _
    simp only [if_neg hbig]
    obtain ⟨r, hs, hi⟩ := keeps_both l c a (by omega) (fun x hx => (wf64 (h3 x hx)).1)
    have ht := toIntS_ev l (by omega)
    have he := eqIntS_same l (by omega)
    have hm : laws_toMove.f c a = some (c, a) := rfl
    simp only [hm]
    refine Ev.bind ht (Ev.bind (Ev.now (c, a)) (Ev.bind hs (Ev.bind ht (Ev.bind (Ev.now (c, a)) (Ev.bind hi ?_)))))
    simp only [bne_self_eq_false, Bool.false_eq_true, if_false]
    refine Ev.bind ht (Ev.bind he ?_)
    simp only [if_true]
    exact Ev.now _
  exact main2.imp fun K hK => hK K (Nat.le_refl _)
end Go.Proofs.Ytdnedgkanglgjaa.Pure
end
