import Derived.Test.YtdnedgkanglgjaaZFnExactGatherPiles7
import Derived.Test.YtdnedgkanglgjaaZFnExactGatherPiles8
import Derived.Test.YtdnedgkanglgjaaZFnExactGatherPiles5
import Derived.Test.YtdnedgkanglgjaaZFnExactGatherPiles9
import Derived.Test.YtdnedgkanglgjaaZFnExactGatherPiles10
section
/- Cards, and when a list is a packet: the program's and the reference's functions tell one thing. -/
namespace Go.Proofs.Ytdnedgkanglgjaa.F
open Go.RowKit Go.Proofs.YtdnedgkanglgjaaW.PrintWords Go.Proofs.YtdnedgkanglgjaaW.PrintLast Go.Proofs.YtdnedgkanglgjaaW.PrintMore
set_option linter.unusedVariables false
set_option linter.unusedSimpArgs false
theorem wf64 {x : Int} (h : (Lit.int .i64 x).wf = true) : -9223372036854775808 ≤ x ∧ x ≤ 9223372036854775807 := by
  have := h
  simp only [Lit.wf, Bool.and_eq_true, decide_eq_true_eq] at this
  have a : IntKind.i64.min = -9223372036854775808 := by kernel_rfl
  have b : IntKind.i64.max = 9223372036854775807 := by kernel_rfl
  omega
theorem l01In_eq (a b c : Int) : spec_l01In.f a b c = some (decide (b ≤ a ∧ a ≤ c)) := by
  unfold spec_l01In.f
  by_cases h : b ≤ a
  · simp [h]
  · simp [h]
def cardOf (x : Int) : Int := if 0 ≤ x ∧ x ≤ 11 then x else if -12 ≤ x ∧ x ≤ -1 then -1 - x else -1
theorem cardOf_lt (x : Int) : cardOf x < 12 := by
  unfold cardOf
  repeat' split
  all_goals omega
theorem spec_CardOf_eq (x : Int) : spec_CardOf.f x = some (cardOf x) := by
  unfold spec_CardOf.f cardOf
  rw [l01In_eq, l01In_eq]
  by_cases h : 0 ≤ x ∧ x ≤ 11
  · simp [h]
  · by_cases k : -12 ≤ x ∧ x ≤ -1
    · have e : wrap64 (-1 - x) = -1 - x := w64_id (by omega) (by omega)
      simp [h, k, e]
    · simp [h, k]
theorem impl_CardOf_eq (x : Int) (h0 : -9223372036854775808 ≤ x) : impl_CardOf.f x = some (cardOf x) := by
  unfold impl_CardOf.f cardOf
  by_cases h : x < 0
  · have e : wrap64 (-1 - x) = -1 - x := w64_id (by omega) (by omega)
    simp only [if_pos h, e]
    by_cases k : -1 - x ≥ 12
    · rw [if_pos k, if_neg (by omega), if_neg (by omega)]
    · rw [if_neg k, if_neg (by omega), if_pos (by omega)]
  · simp only [if_neg h]
    by_cases k : x ≥ 12
    · rw [if_pos k, if_neg (by omega), if_neg (by omega)]
    · rw [if_neg k, if_pos (by omega)]
theorem l02Has_at (x : Int) (rest : List Int) : ∀ (pre : List Int), (pre ++ rest).length ≤ 4611686018427387904 →
    Ev (fun k => spec_l02Has.l0 k x (pre ++ rest) ((pre ++ rest).length : Int) (pre.length : Int)) (rest.contains x) := by
  induction rest with
  | nil =>
    intro pre hb
    exact Ev.step (f := fun _ => some false) (fun k => by rw [spec_l02Has.l0, if_neg (mid_nlt _)]) (Ev.now _)
  | cons y rest ih =>
    intro pre hb
    by_cases e : y = x
    · subst e
      simp only [List.contains_cons, beq_self_eq_true, Bool.true_or]
      exact Ev.step (f := fun _ => some true) (fun k => by rw [spec_l02Has.l0, if_pos (mid_lt _ _ _), if_pos (nn _), if_pos (mid_lt _ _ _), mid_rd, if_pos rfl]) (Ev.now _)
    · have h := ih (pre ++ [y]) (by simpa using hb)
      rw [← mid_cons] at h
      rw [show (y :: rest).contains x = rest.contains x by simp only [List.contains_cons]; rw [show (x == y) = false by simpa using fun h => e h.symm]; rfl]
      exact Ev.step (fun k => by rw [spec_l02Has.l0, if_pos (mid_lt _ _ _), if_pos (nn _), if_pos (mid_lt _ _ _), mid_rd, if_neg e, mid_succ pre y (by simp at hb; omega)]) h
theorem l02Has_ev (l : List Int) (x : Int) (hb : l.length ≤ 4611686018427387904) : Ev (fun k => spec_l02Has.f k l x) (l.contains x) := l02Has_at x l [] hb
/-- Is a list a packet: the cards met so far are told by twelve bools. -/
def packetM : List Bool → List Int → Bool
  | _, [] => true
  | met, x :: xs => if cardOf x < 0 then false else if met.getD (cardOf x).toNat false = true then false else packetM (met.set (cardOf x).toNat true) xs
def packetB (l : List Int) : Bool := packetM (List.replicate 12 false) l
theorem impl_PacketOk_at (rest : List Int) : ∀ (pre : List Int) (met : List Bool), (pre ++ rest).length ≤ 4611686018427387904 → (∀ x ∈ rest, -9223372036854775808 ≤ x) →
    Ev (fun k => impl_PacketOk.l0 k (pre ++ rest) met (pre.length : Int)) (packetM met rest) := by
  induction rest with
  | nil =>
    intro pre met hb hw
    exact Ev.step (f := fun _ => some true) (fun k => by rw [impl_PacketOk.l0, if_neg (mid_nlt _)]) (Ev.now _)
  | cons x rest ih =>
    intro pre met hb hw
    have hx := hw x (by simp)
    unfold packetM
    by_cases c : cardOf x < 0
    · rw [if_pos c]
      exact Ev.step (f := fun _ => some false) (fun k => by rw [impl_PacketOk.l0, if_pos (mid_lt _ _ _), if_pos (nn _), mid_rd, impl_CardOf_eq x hx]; simp only [Option.bind_some]; rw [if_pos c]) (Ev.now _)
    · rw [if_neg c]
      by_cases m : met.getD (cardOf x).toNat false = true
      · rw [if_pos m]
        exact Ev.step (f := fun _ => some false) (fun k => by rw [impl_PacketOk.l0, if_pos (mid_lt _ _ _), if_pos (nn _), mid_rd, impl_CardOf_eq x hx]; simp only [Option.bind_some]; rw [if_neg c, if_pos (cardOf_lt x), if_pos m]) (Ev.now _)
      · rw [if_neg m]
        have h := ih (pre ++ [x]) (met.set (cardOf x).toNat true) (by simpa using hb) (fun y hy => hw y (by simp [hy]))
        rw [← mid_cons] at h
        exact Ev.step (fun k => by rw [impl_PacketOk.l0, if_pos (mid_lt _ _ _), if_pos (nn _), mid_rd, impl_CardOf_eq x hx]; simp only [Option.bind_some]; rw [if_neg c, if_pos (cardOf_lt x), if_neg m, mid_succ pre x (by simp at hb; omega)]) h
theorem impl_PacketOk_ev (l : List Int) (hb : l.length ≤ 4611686018427387904) (hw : ∀ x ∈ l, -9223372036854775808 ≤ x) : Ev (fun k => impl_PacketOk.f k l) (packetB l) := impl_PacketOk_at l [] _ hb hw
theorem count_set (l : List Bool) : ∀ i, i < l.length → l.getD i false ≠ true → (l.set i true).count true = l.count true + 1 := by
  induction l with
  | nil => intro i h; simp at h
  | cons b l ih =>
    intro i h hb
    cases i with
    | zero =>
      cases b with
      | true => simp at hb
      | false => simp
    | succ i =>
      have := ih i (by simpa using h) (by simpa using hb)
      simp only [List.set_cons_succ, List.count_cons]
      omega
theorem packetM_len (xs : List Int) : ∀ met : List Bool, met.length = 12 → packetM met xs = true → met.count true + xs.length ≤ 12 := by
  induction xs with
  | nil =>
    intro met hl _
    have := List.count_le_length (a := true) (l := met)
    simp; omega
  | cons x xs ih =>
    intro met hl h
    unfold packetM at h
    by_cases c : cardOf x < 0
    · rw [if_pos c] at h; cases h
    · rw [if_neg c] at h
      by_cases m : met.getD (cardOf x).toNat false = true
      · rw [if_pos m] at h; cases h
      · rw [if_neg m] at h
        have h1 := ih _ (by simpa using hl) h
        have := cardOf_lt x
        rw [count_set met _ (by omega) m] at h1
        simp; omega
theorem packetB_len {l : List Int} (h : packetB l = true) : l.length ≤ 12 := by
  have := packetM_len l _ (by simp) h
  simp at this
  omega
theorem set_getD (met : List Bool) (i j : Nat) (hi : i < met.length) : (met.set i true).getD j false = (decide (j = i) || met.getD j false) := by
  by_cases e : j = i
  · subst e
    simp [List.getD_eq_getElem?_getD, hi]
  · have e' : ¬ i = j := fun h => e h.symm
    simp [List.getD_eq_getElem?_getD, List.getElem?_set, e, e']
theorem spec_PacketOk_at (rest : List Int) : ∀ (pre seen : List Int) (met : List Bool), (pre ++ rest).length ≤ 12 → seen.length = pre.length → met.length = 12 → (∀ c : Int, 0 ≤ c → c < 12 → seen.contains c = met.getD c.toNat false) →
    Ev (fun k => spec_PacketOk.l0 k seen (pre ++ rest) ((pre ++ rest).length : Int) (pre.length : Int)) (packetM met rest) := by
  induction rest with
  | nil =>
    intro pre seen met hb hs hm hr
    exact Ev.step (f := fun _ => some true) (fun k => by rw [spec_PacketOk.l0, if_neg (mid_nlt _)]) (Ev.now _)
  | cons x rest ih =>
    intro pre seen met hb hs hm hr
    have hlt := cardOf_lt x
    unfold packetM
    by_cases c : cardOf x < 0
    · rw [if_pos c]
      exact Ev.step (f := fun _ => some false) (fun k => by rw [spec_PacketOk.l0, if_pos (mid_lt _ _ _), if_pos (nn _), if_pos (mid_lt _ _ _), mid_rd, spec_CardOf_eq x]; simp only [Option.bind_some]; rw [if_pos c]) (Ev.now _)
    · rw [if_neg c]
      have hh := l02Has_ev seen (cardOf x) (by simp at hb; omega)
      rw [hr _ (by omega) hlt] at hh
      by_cases m : met.getD (cardOf x).toNat false = true
      · rw [if_pos m]
        rw [m] at hh
        refine Ev.stepb hh (fun k => by rw [spec_PacketOk.l0, if_pos (mid_lt _ _ _), if_pos (nn _), if_pos (mid_lt _ _ _), mid_rd, spec_CardOf_eq x]; simp only [Option.bind_some]; rw [if_neg c]) ?_
        simp only [if_true]
        exact Ev.now _
      · rw [if_neg m]
        have m' : met.getD (cardOf x).toNat false = false := by simpa using m
        rw [m'] at hh
        have h := ih (pre ++ [x]) (seen ++ [cardOf x]) (met.set (cardOf x).toNat true) (by simpa using hb) (by simp [hs]) (by simpa using hm) (by
          intro d d0 d1
          rw [set_getD met _ _ (by omega), ← hr d d0 d1]
          rw [Bool.eq_iff_iff]
          simp only [List.contains_iff_mem, List.mem_append, List.mem_singleton, Bool.or_eq_true, decide_eq_true_eq]
          constructor
          · rintro (h | h)
            · exact .inr h
            · exact .inl (by omega)
          · rintro (h | h)
            · exact .inr (by omega)
            · exact .inl h)
        rw [← mid_cons] at h
        refine Ev.stepb hh (fun k => by rw [spec_PacketOk.l0, if_pos (mid_lt _ _ _), if_pos (nn _), if_pos (mid_lt _ _ _), mid_rd, spec_CardOf_eq x]; simp only [Option.bind_some]; rw [if_neg c]) ?_
        have hl : seen.length < 17592186044416 := by simp at hb; omega
        have hs2 := mid_succ pre x (by simp at hb; omega)
        simpa [hl, hs2] using h
theorem spec_PacketOk_ev (l : List Int) : Ev (fun k => spec_PacketOk.f k l) (packetB l) := by
  unfold spec_PacketOk.f
  by_cases h : (l.length : Int) > 12
  · have : packetB l = false := by
      cases e : packetB l with
      | false => rfl
      | true => have := packetB_len e; omega
    rw [this]
    simp only [if_pos h]
    exact Ev.now _
  · simp only [if_neg h]
    exact spec_PacketOk_at l [] [] _ (by simp; omega) rfl (by simp) (by
      intro c h0 h1
      have : c.toNat < 12 := by omega
      rw [List.getD_eq_getElem?_getD, List.getElem?_replicate, if_pos this]
      rfl)
end Go.Proofs.Ytdnedgkanglgjaa.F
end
section
/- Lists put together, and lists in reverse order. -/
namespace Go.Proofs.Ytdnedgkanglgjaa.F
open Go.RowKit Go.Proofs.YtdnedgkanglgjaaW.PrintWords Go.Proofs.YtdnedgkanglgjaaW.PrintLast Go.Proofs.YtdnedgkanglgjaaW.PrintMore
set_option linter.unusedVariables false
set_option linter.unusedSimpArgs false
def lens (l : List (List Int)) : Nat := (l.map List.length).sum
theorem lens_cons (x : List Int) (l : List (List Int)) : lens (x :: l) = x.length + lens l := by simp [lens]
theorem mid_rdLL (pre : List (List Int)) (x : List Int) (rest : List (List Int)) : rd_L2 (pre ++ x :: rest) (pre.length : Int) = x := by
  unfold rd_L2
  simp
theorem concat_l1 (rest : List (List Int)) : ∀ (pre : List (List Int)) (acc : List Int), (pre ++ rest).length ≤ 4611686018427387904 → acc.length + lens rest < 17592186044416 →
    Ev (fun k => slices_Concat_Lint_int.l1 k acc (pre ++ rest) ((pre ++ rest).length : Int) (pre.length : Int)) (acc ++ rest.flatten) := by
  induction rest with
  | nil =>
    intro pre acc hb hl
    rw [show acc ++ ([] : List (List Int)).flatten = acc by simp]
    refine Ev.step (f := fun _ => some acc) (fun k => ?_) (Ev.now _)
    show slices_Concat_Lint_int.l1 (k + 1) _ _ _ _ = _
    rw [slices_Concat_Lint_int.l1, if_neg (mid_nlt _)]
  | cons x rest ih =>
    intro pre acc hb hl
    rw [lens_cons] at hl
    have h := ih (pre ++ [x]) (acc ++ x) (by simpa using hb) (by rw [List.length_append]; omega)
    rw [← mid_cons, ← mid_succ pre x (by simp at hb; omega)] at h
    rw [show acc ++ (x :: rest).flatten = acc ++ x ++ rest.flatten by simp]
    refine Ev.step (fun k => ?_) h
    show slices_Concat_Lint_int.l1 (k + 1) _ _ _ _ = _
    rw [slices_Concat_Lint_int.l1, if_pos (mid_lt _ _ _), if_pos (nn _), if_pos (mid_lt _ _ _), mid_rdLL, if_pos (by omega)]
theorem concat_l0 (X : List (List Int)) (hX : X.length ≤ 4611686018427387904) (hl : lens X < 17592186044416) (rest : List (List Int)) : ∀ (pre : List (List Int)) (s : Nat), (pre ++ rest).length ≤ 4611686018427387904 → s + lens rest < 17592186044416 →
    Ev (fun k => slices_Concat_Lint_int.l0 k X (s : Int) (pre ++ rest) ((pre ++ rest).length : Int) (pre.length : Int)) X.flatten := by
  induction rest with
  | nil =>
    intro pre s hb hs
    have h := concat_l1 X [] [] hX (by simpa using hl)
    have hg : slices_Grow_Lint_int__nil.f (s : Int) = some [] := by
      unfold slices_Grow_Lint_int__nil.f
      rw [if_pos (nn _), if_pos (by omega)]
    refine Ev.step (fun k => ?_) h
    show slices_Concat_Lint_int.l0 (k + 1) _ _ _ _ _ = _
    rw [slices_Concat_Lint_int.l0, if_neg (mid_nlt _), hg]
    rfl
  | cons x rest ih =>
    intro pre s hb hs
    rw [lens_cons] at hs
    have h := ih (pre ++ [x]) (s + x.length) (by simpa using hb) (by omega)
    rw [← mid_cons, ← mid_succ pre x (by simp at hb; omega)] at h
    have hw : wrap64 ((s : Int) + (x.length : Int)) = ((s + x.length : Nat) : Int) := by rw [w64_id (by omega) (by omega)]; omega
    refine Ev.step (fun k => ?_) h
    show slices_Concat_Lint_int.l0 (k + 1) _ _ _ _ _ = _
    rw [slices_Concat_Lint_int.l0, if_pos (mid_lt _ _ _), if_pos (nn _), if_pos (mid_lt _ _ _), mid_rdLL, hw, if_neg (by omega)]
theorem concat_ev (X : List (List Int)) (hX : X.length ≤ 4611686018427387904) (hl : lens X < 17592186044416) : Ev (fun k => slices_Concat_Lint_int.f k X) X.flatten := concat_l0 X hX hl X [] 0 hX (by omega)
end Go.Proofs.Ytdnedgkanglgjaa.F
end
section
/- Putting piles together: both functions make the same order. -/
namespace Go.Proofs.Ytdnedgkanglgjaa.F
open Go.RowKit Go.Proofs.YtdnedgkanglgjaaW.PrintWords Go.Proofs.YtdnedgkanglgjaaW.PrintLast Go.Proofs.YtdnedgkanglgjaaW.PrintMore
set_option linter.unusedVariables false
set_option linter.unusedSimpArgs false
theorem del_getD (l : List (List Int)) (c m : Nat) (hc : c < l.length) : (l.take c ++ l.drop (c + 1)).getD m [] = l.getD (if m < c then m else m + 1) [] := by
  rw [List.getD_eq_getElem?_getD, List.getD_eq_getElem?_getD, List.getElem?_append]
  simp only [List.length_take, Nat.min_eq_left (Nat.le_of_lt hc)]
  by_cases h : m < c
  · rw [if_pos h, if_pos h, List.getElem?_take, if_pos h]
  · rw [if_neg h, if_neg h, List.getElem?_drop, show c + 1 + (m - c) = m + 1 by omega]
theorem getD_len {l : List (List Int)} (hb : ∀ x ∈ l, x.length ≤ 1048576) (i : Nat) : (l.getD i []).length ≤ 1048576 := by
  rw [List.getD_eq_getElem?_getD]
  cases h : l[i]? with
  | none => simp
  | some x => exact hb x (List.mem_of_getElem? h)
/-- Where the next pile is read. -/
def atP (c m : Nat) : Nat := if m ≤ c then m else m + 1
theorem gather_step (l : List (List Int)) (c p m pos : Nat) (out : List Int) (hc : c < l.length) (hn : l.length ≤ 4) (hm : m + 1 < l.length) (hpos : pos < l.length) (hne : pos ≠ p) (hb : ∀ x ∈ l, x.length ≤ 1048576) (ho : out.length ≤ 4194304) (k : Nat) :
    spec_l14Gather.l0 (k + 1) l c p out (atP c m) pos = spec_l14Gather.l0 k l c p (out ++ (l.take c ++ l.drop (c + 1)).getD m []) (atP c (m + 1)) ((pos + 1 : Nat) : Int) := by
  rw [del_getD l c m hc]
  have w1 : ∀ q : Nat, q ≤ 8 → wrap64 ((q : Int) + 1) = ((q + 1 : Nat) : Int) := fun q hq => by rw [w64_id (by omega) (by omega)]; rfl
  have hl := getD_len hb
  have aL : ∀ q, q ≤ c → atP c q = q := fun q h => if_pos h
  have aG : ∀ q, ¬ q ≤ c → atP c q = q + 1 := fun q h => if_neg h
  by_cases e : m = c
  · subst e
    rw [aL m (Nat.le_refl _), aG (m + 1) (by omega), if_neg (Nat.lt_irrefl _)]
    conv => lhs; rw [spec_l14Gather.l0]
    rw [if_pos (by omega), if_neg (by omega), if_pos rfl, w1 m (by omega), if_pos (by omega), if_pos (by omega)]
    have e1 : rd_L2 l ((m + 1 : Nat) : Int) = l.getD (m + 1) [] := rfl
    rw [e1, if_pos (by have := hl (m + 1); omega), w1 (m + 1) (by omega), w1 pos (by omega)]
  · by_cases h : m < c
    · rw [aL m (by omega), aL (m + 1) (by omega), if_pos h]
      conv => lhs; rw [spec_l14Gather.l0]
      rw [if_pos (by omega), if_neg (by omega), if_neg (by omega), if_pos (by omega), if_pos (by omega)]
      have e1 : rd_L2 l (m : Int) = l.getD m [] := rfl
      rw [e1, if_pos (by have := hl m; omega), w1 m (by omega), w1 pos (by omega)]
    · rw [aG m (by omega), aG (m + 1) (by omega), if_neg h]
      conv => lhs; rw [spec_l14Gather.l0]
      rw [if_pos (by omega), if_neg (by omega), if_neg (by omega), if_pos (by omega), if_pos (by omega)]
      have e1 : rd_L2 l ((m + 1 : Nat) : Int) = l.getD (m + 1) [] := rfl
      rw [e1, if_pos (by have := hl (m + 1); omega), w1 (m + 1) (by omega), w1 pos (by omega)]
theorem drop_getD (D : List (List Int)) (m : Nat) (h : m < D.length) : D.drop m = D.getD m [] :: D.drop (m + 1) := by
  rw [List.drop_eq_getElem_cons h, List.getD_eq_getElem?_getD, List.getElem?_eq_getElem h]; rfl
theorem gather_after (l : List (List Int)) (c p : Nat) (hc : c < l.length) (hn : l.length ≤ 4) (hb : ∀ x ∈ l, x.length ≤ 1048576) (q : Nat) : ∀ (m : Nat) (out : List Int), m + 1 + q = l.length → p < m + 1 → out.length ≤ (m + 1) * 1048576 →
    Ev (fun k => spec_l14Gather.l0 k l c p out (atP c m) ((m + 1 : Nat) : Int)) (out ++ ((l.take c ++ l.drop (c + 1)).drop m).flatten) := by
  have hD : (l.take c ++ l.drop (c + 1)).length = l.length - 1 := by simp; omega
  induction q with
  | zero =>
    intro m out hm hp ho
    rw [List.drop_of_length_le (by omega), List.flatten_nil, List.append_nil]
    refine Ev.step (f := fun _ => some out) (fun k => ?_) (Ev.now _)
    show spec_l14Gather.l0 (k + 1) _ _ _ _ _ _ = _
    rw [spec_l14Gather.l0, if_neg (by omega)]
  | succ q ih =>
    intro m out hm hp ho
    rw [drop_getD _ m (by omega), List.flatten_cons, ← List.append_assoc]
    have hl : ((l.take c ++ l.drop (c + 1)).getD m []).length ≤ 1048576 := by rw [del_getD l c m hc]; exact getD_len hb _
    refine Ev.step (fun k => ?_) (ih (m + 1) _ (by omega) (by omega) (by rw [List.length_append]; omega))
    exact gather_step l c p m (m + 1) out hc hn (by omega) (by omega) (by omega) hb (by omega) k
theorem gather_before (l : List (List Int)) (c p : Nat) (hc : c < l.length) (hp : p < l.length) (hn : l.length ≤ 4) (hb : ∀ x ∈ l, x.length ≤ 1048576) (q : Nat) : ∀ (m : Nat) (out : List Int), m + q = p → out.length ≤ m * 1048576 →
    Ev (fun k => spec_l14Gather.l0 k l c p out (atP c m) (m : Int)) (out ++ (((l.take c ++ l.drop (c + 1)).take p).drop m).flatten ++ l.getD c [] ++ ((l.take c ++ l.drop (c + 1)).drop p).flatten) := by
  have hD : (l.take c ++ l.drop (c + 1)).length = l.length - 1 := by simp; omega
  have w1 : ∀ q : Nat, q ≤ 8 → wrap64 ((q : Int) + 1) = ((q + 1 : Nat) : Int) := fun q hq => by rw [w64_id (by omega) (by omega)]; rfl
  induction q with
  | zero =>
    intro m out hm ho
    obtain rfl : m = p := by omega
    rw [List.drop_of_length_le (by simp; omega), List.flatten_nil, List.append_nil]
    have hl : (l.getD c []).length ≤ 1048576 := getD_len hb _
    refine Ev.step (fun k => ?_) (gather_after l c m hc hn hb (l.length - m - 1) m (out ++ l.getD c []) (by omega) (by omega) (by rw [List.length_append]; omega))
    show spec_l14Gather.l0 (k + 1) _ _ _ _ _ _ = _
    conv => lhs; rw [spec_l14Gather.l0]
    have e1 : rd_L2 l (c : Int) = l.getD c [] := rfl
    rw [if_pos (by omega), if_pos rfl, if_pos (by omega), if_pos (by omega), e1, if_pos (by omega), w1 m (by omega)]
  | succ q ih =>
    intro m out hm ho
    have hl : ((l.take c ++ l.drop (c + 1)).getD m []).length ≤ 1048576 := by rw [del_getD l c m hc]; exact getD_len hb _
    have e2 : ((l.take c ++ l.drop (c + 1)).take p).drop m = (l.take c ++ l.drop (c + 1)).getD m [] :: ((l.take c ++ l.drop (c + 1)).take p).drop (m + 1) := by
      rw [drop_getD _ m (by simp; omega)]
      congr 1
      rw [List.getD_eq_getElem?_getD, List.getD_eq_getElem?_getD, List.getElem?_take, if_pos (by omega)]
    rw [e2, List.flatten_cons, ← List.append_assoc out]
    refine Ev.step (fun k => ?_) (ih (m + 1) _ (by omega) (by rw [List.length_append]; omega))
    exact gather_step l c p m m out hc hn (by omega) (by omega) (by omega) hb (by omega) k
theorem ordAt_flat (l : List (List Int)) (c p : Nat) (hc : c < l.length) : (ordAt l c p).flatten = ((l.take c ++ l.drop (c + 1)).take p).flatten ++ l.getD c [] ++ ((l.take c ++ l.drop (c + 1)).drop p).flatten := by
  unfold ordAt
  rw [List.flatten_append, List.flatten_append, List.getD_eq_getElem?_getD, List.getElem?_eq_getElem hc]
  simp
theorem l14Gather_ev (l : List (List Int)) (c p : Nat) (hc : c < l.length) (hp : p < l.length) (hn : l.length ≤ 4) (hb : ∀ x ∈ l, x.length ≤ 1048576) : Ev (fun k => spec_l14Gather.f k l c p) (ordAt l c p).flatten := by
  have h := gather_before l c p hc hp hn hb p 0 [] (by omega) (by simp)
  rw [ordAt_flat l c p hc]
  have e : atP c 0 = 0 := by unfold atP; simp
  rw [e, List.nil_append, List.drop_zero] at h
  exact h
/-- What both functions make. -/
def gatherB (l : List (List Int)) (a b : Int) : List Int × Bool :=
  if 2 ≤ l.length ∧ l.length ≤ 4 ∧ 0 ≤ a ∧ a < (l.length : Int) ∧ 0 ≤ b ∧ b < (l.length : Int) then (if packetB (ordAt l a.toNat b.toNat).flatten then ((ordAt l a.toNat b.toNat).flatten, true) else ([], false)) else ([], false)
theorem ordAt_lens {l : List (List Int)} (c p : Nat) (hn : l.length ≤ 4) (hc : c < l.length) (hb : ∀ x ∈ l, x.length ≤ 1048576) : lens (ordAt l c p) ≤ 4194304 := by
  have key : ∀ m : List (List Int), (∀ x ∈ m, x.length ≤ 1048576) → lens m ≤ m.length * 1048576 := by
    intro m
    induction m with
    | nil => intro _; simp [lens]
    | cons x m ih =>
      intro h
      rw [lens_cons, List.length_cons]
      have h1 := h x List.mem_cons_self
      have h2 := ih (fun y hy => h y (List.mem_cons_of_mem _ hy))
      omega
  have h := key (ordAt l c p) (fun x hx => hb x (ordAt_mem hx))
  rw [ordAt_length l c p hc] at h
  omega
theorem impl_gather_ev (l : List (List Int)) (a b : Int) (hb : ∀ x ∈ l, x.length ≤ 1048576) (hw : ∀ x ∈ l, ∀ y ∈ x, -9223372036854775808 ≤ y) : Ev (fun k => impl_GatherPiles.f k l a b) (gatherB l a b) := by
  unfold impl_GatherPiles.f gatherB
  by_cases h : 2 ≤ l.length ∧ l.length ≤ 4 ∧ 0 ≤ a ∧ a < (l.length : Int) ∧ 0 ≤ b ∧ b < (l.length : Int)
  · simp only [if_pos h]
    have hlen := ordAt_lens (l := l) a.toNat b.toNat h.2.1 (by omega) hb
    have hfl : (ordAt l a.toNat b.toNat).flatten.length = lens (ordAt l a.toNat b.toNat) := by simp [lens, List.length_flatten]
    refine Ev.bind (concat_ev (ordAt l a.toNat b.toNat) (by rw [ordAt_length _ _ _ (by omega)]; omega) (by omega)) ?_
    refine Ev.bind (impl_PacketOk_ev _ (by omega) (fun x hx => by
      obtain ⟨y, hy, hxy⟩ := List.mem_flatten.1 hx
      exact hw y (ordAt_mem hy) x hxy)) ?_
    exact Ev.now _
  · simp only [if_neg h]
    exact Ev.now _
theorem spec_gather_ev (l : List (List Int)) (a b : Int) (hb : ∀ x ∈ l, x.length ≤ 1048576) (hl : l.length ≤ 4611686018427387904) : Ev (fun k => spec_GatherPiles.f k l a b) (gatherB l a b) := by
  have hj : ∀ x : Bool, x = true → Ev (fun k => spec_GatherPiles.j0 k l a b x) ([], false) := fun x hx => by
    subst hx
    exact Ev.step (f := fun _ => some ([], false)) (fun k => by rw [spec_GatherPiles.j0, if_pos rfl]) (Ev.now _)
  have w1 : wrap64 ((l.length : Int) - 1) = (l.length : Int) - 1 := w64_id (by omega) (by omega)
  unfold spec_GatherPiles.f gatherB
  simp only [l01In_eq, Option.bind_some, w1]
  by_cases h1 : 2 ≤ (l.length : Int) ∧ (l.length : Int) ≤ 4
  · simp only [decide_eq_true h1, if_true]
    by_cases h2 : 0 ≤ a ∧ a ≤ (l.length : Int) - 1
    · simp only [decide_eq_true h2, if_true]
      by_cases h3 : 0 ≤ b ∧ b ≤ (l.length : Int) - 1
      · rw [if_pos (by omega)]
        simp only [decide_eq_true h3, Bool.not_true]
        obtain ⟨c, rfl⟩ := Int.eq_ofNat_of_zero_le h2.1
        obtain ⟨p, rfl⟩ := Int.eq_ofNat_of_zero_le h3.1
        have E := l14Gather_ev l c p (by omega) (by omega) (by omega) hb
        refine Ev.step (fun k => by rw [spec_GatherPiles.j0, if_neg (by decide)]) ?_
        refine Ev.bind E (Ev.bind (spec_PacketOk_ev _) ?_)
        by_cases hp : packetB (ordAt l c p).flatten = true
        · simp only [hp, if_true, Int.toNat_natCast]
          exact Ev.now _
        · simp only [Int.toNat_natCast, if_neg hp]
          exact Ev.now _
      · rw [if_neg (by omega)]
        exact hj _ (by simp only [decide_eq_false h3, Bool.not_false])
    · rw [if_neg (by omega)]
      simp only [decide_eq_false h2, Bool.false_eq_true, if_false]
      exact hj _ rfl
  · rw [if_neg (by omega)]
    simp only [decide_eq_false h1, Bool.false_eq_true, if_false]
    exact hj _ rfl
end Go.Proofs.Ytdnedgkanglgjaa.F
end
section
/- GatherPiles: both functions make the same. -/
namespace Go.Proofs.Ytdnedgkanglgjaa.Pure
open Go.RowKit Go.Proofs.Ytdnedgkanglgjaa.F Go.Proofs.YtdnedgkanglgjaaW.PrintWords Go.Proofs.YtdnedgkanglgjaaW.PrintLast Go.Proofs.YtdnedgkanglgjaaW.PrintMore
set_option linter.unusedVariables false
set_option linter.unusedSimpArgs false
theorem FnExactGatherPiles : laws_FnExactGatherPiles.Pure := by
  intro l a b hq _ _
  obtain ⟨h1, h2, h3⟩ := hq
  obtain ⟨s, hsz, hr⟩ := szIntSS_ev l 1048576 (by omega) (by omega) (by omega) (fun x hx => by have := h3 x hx; omega)
  by_cases c : s < 0
  · obtain ⟨k, hk⟩ := hsz
    have e1 : laws_szIntSS.f k l 1048576 = some s := hk k (Nat.le_refl _)
    exact ⟨k, by unfold laws_FnExactGatherPiles.f; rw [e1, Option.bind_some, if_pos c]⟩
  · have hb := hr.resolve_left c
    have hx : ∀ x ∈ l, x.length ≤ 1048576 := fun x hx => by have := total_mem l x hx; omega
    have hw : ∀ x ∈ l, ∀ y ∈ x, -9223372036854775808 ≤ y := fun x hx' y hy => (wf64 ((h3 x hx').2.2 y hy)).1
    have hl : (gatherB l a b).1.length ≤ 12 := by
      unfold gatherB
      split
      · split
        · exact packetB_len (by assumption)
        · simp
      · simp
    obtain ⟨k1, H1⟩ := hsz
    obtain ⟨k2, H2⟩ := spec_gather_ev l a b hx (by omega)
    obtain ⟨k3, H3⟩ := impl_gather_ev l a b hx hw
    generalize gatherB l a b = R at H2 H3 hl
    obtain ⟨k4, H4⟩ := markIntSS_ev l 1 (by omega) (by omega) (by omega)
    obtain ⟨k5, H5⟩ := markIntS_ev R.1 1 (by omega) (by omega) (by omega)
    obtain ⟨k6, H6⟩ := toIntSS_ev l (by omega) (fun x hx' => by have := hx x hx'; omega)
    obtain ⟨k7, H7⟩ := eqIntS_same R.1 (by omega)
    obtain ⟨k8, H8⟩ := eqIntSS_same l (by omega) (fun x hx' => by have := hx x hx'; omega)
    obtain ⟨k9, H9⟩ := heldIntS_ev R.1.length 1 (by omega) (by omega) (by omega)
    obtain ⟨K, hK⟩ : ∃ K, K = k1 + k2 + k3 + k4 + k5 + k6 + k7 + k8 + k9 := ⟨_, rfl⟩
    have e1 : laws_szIntSS.f K l 1048576 = some s := H1 K (by omega)
    have e2 : spec_GatherPiles.f K l a b = some R := H2 K (by omega)
    have e4 : laws_markIntSS.f K l 1 = some ((1 : Int) + (total l : Int), markSS 1 l) := H4 K (by omega)
    have e5 : laws_markIntS.f K R.1 1 = some ((1 : Int) + (R.1.length : Int), seqFrom 1 R.1.length) := H5 K (by omega)
    refine ⟨K, ?_⟩
    unfold laws_FnExactGatherPiles.f
    rw [e1, Option.bind_some, if_neg c, e2, Option.bind_some, e4, Option.bind_some, e5, Option.bind_some]
    rw [if_pos]
    exact ⟨H6 K (by omega), H3 K (by omega), H7 K (by omega), H8 K (by omega), by simp only; omega, by simp only; omega, H9 K (by omega)⟩
end Go.Proofs.Ytdnedgkanglgjaa.Pure
end
