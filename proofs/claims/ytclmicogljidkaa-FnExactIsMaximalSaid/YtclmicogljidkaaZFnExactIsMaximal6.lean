import Derived.Test.YtclmicogljidkaaZFnExactIsMaximal1
import Derived.Test.YtclmicogljidkaaZFnExactIsMaximal5
import Derived.Test.YtclmicogljidkaaM
import Derived.Test.YtclmicogljidkaaZFnExactIsMaximal3
import Derived.Test.YtclmicogljidkaaZFnExactIsMaximal2
import Derived.Test.YtclmicogljidkaaZFnExactIsMaximal4
/- Cards, and when a list is a packet: the program's and the reference's functions tell one thing. -/
namespace Go.Proofs.Ytclmicogljidkaa.F
open Go.RowKit Go.Proofs.YtclmicogljidkaaW.PrintWords Go.Proofs.YtclmicogljidkaaW.PrintLast Go.Proofs.YtclmicogljidkaaW.PrintMore
set_option linter.unusedVariables false
set_option linter.unusedSimpArgs false
theorem wf64 {x : Int} (h : (Lit.int .i64 x).wf = true) : -9223372036854775808 ≤ x ∧ x ≤ 9223372036854775807 := by
  have := h
  simp only [Lit.wf, Bool.and_eq_true, decide_eq_true_eq] at this
  have a : IntKind.i64.min = -9223372036854775808 := by kernel_rfl
  have b : IntKind.i64.max = 9223372036854775807 := by kernel_rfl
  omega
theorem l01In_eq (a b c : Int) : spec_l01In.f a b c = some (decide (b ≤ a ∧ a ≤ c)) := by
  unfold spec_l01In.f
  by_cases h : b ≤ a
  · simp [h]
  · simp [h]
def cardOf (x : Int) : Int := if 0 ≤ x ∧ x ≤ 11 then x else if -12 ≤ x ∧ x ≤ -1 then -1 - x else -1
theorem cardOf_lt (x : Int) : cardOf x < 12 := by
  unfold cardOf
  repeat' split
  all_goals omega
theorem cardOf_ge (x : Int) : -1 ≤ cardOf x := by
  unfold cardOf
  repeat' split
  all_goals omega
theorem spec_CardOf_eq (x : Int) : spec_CardOf.f x = some (cardOf x) := by
  unfold spec_CardOf.f cardOf
  rw [l01In_eq, l01In_eq]
  by_cases h : 0 ≤ x ∧ x ≤ 11
  · simp [h]
  · by_cases k : -12 ≤ x ∧ x ≤ -1
    · have e : wrap64 (-1 - x) = -1 - x := w64_id (by omega) (by omega)
      simp [h, k, e]
    · simp [h, k]
theorem impl_CardOf_eq (x : Int) (h0 : -9223372036854775808 ≤ x) : impl_CardOf.f x = some (cardOf x) := by
  unfold impl_CardOf.f cardOf
  by_cases h : x < 0
  · have e : wrap64 (-1 - x) = -1 - x := w64_id (by omega) (by omega)
    simp only [if_pos h, e]
    by_cases k : -1 - x ≥ 12
    · rw [if_pos k, if_neg (by omega), if_neg (by omega)]
    · rw [if_neg k, if_neg (by omega), if_pos (by omega)]
  · simp only [if_neg h]
    by_cases k : x ≥ 12
    · rw [if_pos k, if_neg (by omega), if_neg (by omega)]
    · rw [if_neg k, if_pos (by omega)]
theorem l02Has_at (x : Int) (rest : List Int) : ∀ (pre : List Int), (pre ++ rest).length ≤ 4611686018427387904 →
    Ev (fun k => spec_l02Has.l0 k x (pre ++ rest) ((pre ++ rest).length : Int) (pre.length : Int)) (rest.contains x) := by
  induction rest with
  | nil =>
    intro pre hb
    exact Ev.step (f := fun _ => some false) (fun k => by rw [spec_l02Has.l0, if_neg (mid_nlt _)]) (Ev.now _)
  | cons y rest ih =>
    intro pre hb
    by_cases e : y = x
    · subst e
      simp only [List.contains_cons, beq_self_eq_true, Bool.true_or]
      exact Ev.step (f := fun _ => some true) (fun k => by rw [spec_l02Has.l0, if_pos (mid_lt _ _ _), if_pos (nn _), if_pos (mid_lt _ _ _), mid_rd, if_pos rfl]) (Ev.now _)
    · have h := ih (pre ++ [y]) (by simpa using hb)
      rw [← mid_cons] at h
      rw [show (y :: rest).contains x = rest.contains x by simp only [List.contains_cons]; rw [show (x == y) = false by simpa using fun h => e h.symm]; rfl]
      exact Ev.step (fun k => by rw [spec_l02Has.l0, if_pos (mid_lt _ _ _), if_pos (nn _), if_pos (mid_lt _ _ _), mid_rd, if_neg e, mid_succ pre y (by simp at hb; omega)]) h
theorem l02Has_ev (l : List Int) (x : Int) (hb : l.length ≤ 4611686018427387904) : Ev (fun k => spec_l02Has.f k l x) (l.contains x) := l02Has_at x l [] hb
/-- Is a list a packet: the cards met so far are told by twelve bools. -/
def packetM : List Bool → List Int → Bool
  | _, [] => true
  | met, x :: xs => if cardOf x < 0 then false else if met.getD (cardOf x).toNat false = true then false else packetM (met.set (cardOf x).toNat true) xs
def packetB (l : List Int) : Bool := packetM (List.replicate 12 false) l
theorem impl_PacketOk_at (rest : List Int) : ∀ (pre : List Int) (met : List Bool), (pre ++ rest).length ≤ 4611686018427387904 → (∀ x ∈ rest, -9223372036854775808 ≤ x) →
    Ev (fun k => impl_PacketOk.l0 k (pre ++ rest) met (pre.length : Int)) (packetM met rest) := by
  induction rest with
  | nil =>
    intro pre met hb hw
    exact Ev.step (f := fun _ => some true) (fun k => by rw [impl_PacketOk.l0, if_neg (mid_nlt _)]) (Ev.now _)
  | cons x rest ih =>
    intro pre met hb hw
    have hx := hw x (by simp)
    unfold packetM
    by_cases c : cardOf x < 0
    · rw [if_pos c]
      exact Ev.step (f := fun _ => some false) (fun k => by rw [impl_PacketOk.l0, if_pos (mid_lt _ _ _), if_pos (nn _), mid_rd, impl_CardOf_eq x hx]; simp only [Option.bind_some]; rw [if_pos c]) (Ev.now _)
    · rw [if_neg c]
      by_cases m : met.getD (cardOf x).toNat false = true
      · rw [if_pos m]
        exact Ev.step (f := fun _ => some false) (fun k => by rw [impl_PacketOk.l0, if_pos (mid_lt _ _ _), if_pos (nn _), mid_rd, impl_CardOf_eq x hx]; simp only [Option.bind_some]; rw [if_neg c, if_pos (cardOf_lt x), if_pos m]) (Ev.now _)
      · rw [if_neg m]
        have h := ih (pre ++ [x]) (met.set (cardOf x).toNat true) (by simpa using hb) (fun y hy => hw y (by simp [hy]))
        rw [← mid_cons] at h
        exact Ev.step (fun k => by rw [impl_PacketOk.l0, if_pos (mid_lt _ _ _), if_pos (nn _), mid_rd, impl_CardOf_eq x hx]; simp only [Option.bind_some]; rw [if_neg c, if_pos (cardOf_lt x), if_neg m, mid_succ pre x (by simp at hb; omega)]) h
theorem impl_PacketOk_ev (l : List Int) (hb : l.length ≤ 4611686018427387904) (hw : ∀ x ∈ l, -9223372036854775808 ≤ x) : Ev (fun k => impl_PacketOk.f k l) (packetB l) := impl_PacketOk_at l [] _ hb hw
theorem count_set (l : List Bool) : ∀ i, i < l.length → l.getD i false ≠ true → (l.set i true).count true = l.count true + 1 := by
  induction l with
  | nil => intro i h; simp at h
  | cons b l ih =>
    intro i h hb
    cases i with
    | zero =>
      cases b with
      | true => simp at hb
      | false => simp
    | succ i =>
      have := ih i (by simpa using h) (by simpa using hb)
      simp only [List.set_cons_succ, List.count_cons]
      omega
theorem packetM_len (xs : List Int) : ∀ met : List Bool, met.length = 12 → packetM met xs = true → met.count true + xs.length ≤ 12 := by
  induction xs with
  | nil =>
    intro met hl _
    have := List.count_le_length (a := true) (l := met)
    simp; omega
  | cons x xs ih =>
    intro met hl h
    unfold packetM at h
    by_cases c : cardOf x < 0
    · rw [if_pos c] at h; cases h
    · rw [if_neg c] at h
      by_cases m : met.getD (cardOf x).toNat false = true
      · rw [if_pos m] at h; cases h
      · rw [if_neg m] at h
        have h1 := ih _ (by simpa using hl) h
        have := cardOf_lt x
        rw [count_set met _ (by omega) m] at h1
        simp; omega
theorem packetB_len {l : List Int} (h : packetB l = true) : l.length ≤ 12 := by
  have := packetM_len l _ (by simp) h
  simp at this
  omega
theorem set_getD (met : List Bool) (i j : Nat) (hi : i < met.length) : (met.set i true).getD j false = (decide (j = i) || met.getD j false) := by
  by_cases e : j = i
  · subst e
    simp [List.getD_eq_getElem?_getD, hi]
  · have e' : ¬ i = j := fun h => e h.symm
    simp [List.getD_eq_getElem?_getD, List.getElem?_set, e, e']
theorem spec_PacketOk_at (rest : List Int) : ∀ (pre seen : List Int) (met : List Bool), (pre ++ rest).length ≤ 12 → seen.length = pre.length → met.length = 12 → (∀ c : Int, 0 ≤ c → c < 12 → seen.contains c = met.getD c.toNat false) →
    Ev (fun k => spec_PacketOk.l0 k seen (pre ++ rest) ((pre ++ rest).length : Int) (pre.length : Int)) (packetM met rest) := by
  induction rest with
  | nil =>
    intro pre seen met hb hs hm hr
    exact Ev.step (f := fun _ => some true) (fun k => by rw [spec_PacketOk.l0, if_neg (mid_nlt _)]) (Ev.now _)
  | cons x rest ih =>
    intro pre seen met hb hs hm hr
    have hlt := cardOf_lt x
    unfold packetM
    by_cases c : cardOf x < 0
    · rw [if_pos c]
      exact Ev.step (f := fun _ => some false) (fun k => by rw [spec_PacketOk.l0, if_pos (mid_lt _ _ _), if_pos (nn _), if_pos (mid_lt _ _ _), mid_rd, spec_CardOf_eq x]; simp only [Option.bind_some]; rw [if_pos c]) (Ev.now _)
    · rw [if_neg c]
      have hh := l02Has_ev seen (cardOf x) (by simp at hb; omega)
      rw [hr _ (by omega) hlt] at hh
      by_cases m : met.getD (cardOf x).toNat false = true
      · rw [if_pos m]
        rw [m] at hh
        refine Ev.stepb hh (fun k => by rw [spec_PacketOk.l0, if_pos (mid_lt _ _ _), if_pos (nn _), if_pos (mid_lt _ _ _), mid_rd, spec_CardOf_eq x]; simp only [Option.bind_some]; rw [if_neg c]) ?_
        simp only [if_true]
        exact Ev.now _
      · rw [if_neg m]
        have m' : met.getD (cardOf x).toNat false = false := by simpa using m
        rw [m'] at hh
        have h := ih (pre ++ [x]) (seen ++ [cardOf x]) (met.set (cardOf x).toNat true) (by simpa using hb) (by simp [hs]) (by simpa using hm) (by
          intro d d0 d1
          rw [set_getD met _ _ (by omega), ← hr d d0 d1]
          rw [Bool.eq_iff_iff]
          simp only [List.contains_iff_mem, List.mem_append, List.mem_singleton, Bool.or_eq_true, decide_eq_true_eq]
          constructor
          · rintro (h | h)
            · exact .inr h
            · exact .inl (by omega)
          · rintro (h | h)
            · exact .inr (by omega)
            · exact .inl h)
        rw [← mid_cons] at h
        refine Ev.stepb hh (fun k => by rw [spec_PacketOk.l0, if_pos (mid_lt _ _ _), if_pos (nn _), if_pos (mid_lt _ _ _), mid_rd, spec_CardOf_eq x]; simp only [Option.bind_some]; rw [if_neg c]) ?_
        have hl : seen.length < 17592186044416 := by simp at hb; omega
        have hs2 := mid_succ pre x (by simp at hb; omega)
        simpa [hl, hs2] using h
theorem spec_PacketOk_ev (l : List Int) : Ev (fun k => spec_PacketOk.f k l) (packetB l) := by
  unfold spec_PacketOk.f
  by_cases h : (l.length : Int) > 12
  · have : packetB l = false := by
      cases e : packetB l with
      | false => rfl
      | true => have := packetB_len e; omega
    rw [this]
    simp only [if_pos h]
    exact Ev.now _
  · simp only [if_neg h]
    exact spec_PacketOk_at l [] [] _ (by simp; omega) rfl (by simp) (by
      intro c h0 h1
      have : c.toNat < 12 := by omega
      rw [List.getD_eq_getElem?_getD, List.getElem?_replicate, if_pos this]
      rfl)
theorem packetM_cards (xs : List Int) : ∀ met : List Bool, packetM met xs = true → ∀ x ∈ xs, 0 ≤ cardOf x := by
  induction xs with
  | nil => intro met _ x hx; cases hx
  | cons y xs ih =>
    intro met h x hx
    unfold packetM at h
    by_cases c : cardOf y < 0
    · rw [if_pos c] at h; cases h
    · rw [if_neg c] at h
      by_cases m : met.getD (cardOf y).toNat false = true
      · rw [if_pos m] at h; cases h
      · rw [if_neg m] at h
        rcases List.mem_cons.1 hx with rfl | hx
        · omega
        · exact ih _ h x hx
theorem packetB_card {l : List Int} (h : packetB l = true) : ∀ x ∈ l, 0 ≤ cardOf x := packetM_cards l _ h
end Go.Proofs.Ytclmicogljidkaa.F
/- Taps: ascending numbers from 1 on, the last of which is the window's length; seeds: bits, not all zero. -/
namespace Go.Proofs.Ytclmicogljidkaa.F
open Go.RowKit Go.Proofs.YtclmicogljidkaaW.PrintWords Go.Proofs.YtclmicogljidkaaW.PrintLast Go.Proofs.YtclmicogljidkaaW.PrintMore
set_option linter.unusedVariables false
set_option linter.unusedSimpArgs false
def ascB : Int → List Int → Bool
  | _, [] => true
  | p, x :: xs => decide (p < x) && ascB x xs
def lastB (l : List Int) (w : Int) : Bool := decide ((l.length : Int) > 0) && (rd l ((l.length : Int) - 1) == w)
def prevOf (l : List Int) : Int := if l = [] then 0 else rd l ((l.length : Int) - 1)
theorem prevOf_snoc (l : List Int) (x : Int) : prevOf (l ++ [x]) = x := by
  unfold prevOf
  rw [if_neg (by simp), show (((l ++ [x]).length : Nat) : Int) - 1 = (l.length : Int) by simp]
  exact mid_rd l x []
theorem prev_rd (pre rest : List Int) (h : pre ≠ []) : rd (pre ++ rest) ((pre.length : Int) - 1) = prevOf pre := by
  obtain ⟨q, x, rfl⟩ : ∃ q x, pre = q ++ [x] := ⟨pre.dropLast, pre.getLast h, (List.dropLast_concat_getLast h).symm⟩
  rw [prevOf_snoc, show (((q ++ [x]).length : Nat) : Int) - 1 = (q.length : Int) by simp, List.append_assoc]
  exact mid_rd q x rest
theorem pre_pos (pre : List Int) (h : pre ≠ []) : 0 < (pre.length : Int) := by
  have := List.length_pos_iff.mpr h
  omega
theorem areTaps_at (w : Int) (rest : List Int) : ∀ (pre : List Int), (pre ++ rest).length ≤ 4611686018427387904 → 0 ≤ prevOf pre →
    Ev (fun k => impl_areTaps.l0 k (pre ++ rest) w (pre ++ rest) ((pre ++ rest).length : Int) (pre.length : Int)) (ascB (prevOf pre) rest && lastB (pre ++ rest) w) := by
  induction rest with
  | nil =>
    intro pre hb hp
    refine Ev.step (f := fun _ => some (ascB (prevOf pre) [] && lastB (pre ++ []) w)) (fun k => ?_) (Ev.now _)
    show impl_areTaps.l0 (k + 1) (pre ++ []) w (pre ++ []) ((pre ++ []).length : Int) (pre.length : Int) = _
    rw [impl_areTaps.l0, if_neg (mid_nlt _)]
    unfold lastB
    by_cases h : ((pre ++ []).length : Int) > 0
    · have h2 : wrap64 (((pre ++ []).length : Int) - 1) = ((pre ++ []).length : Int) - 1 := w64_id (by omega) (by omega)
      rw [if_pos h, h2, if_pos (by omega), if_pos (by omega)]
      rw [decide_eq_true h]
      simp [ascB]
    · rw [if_neg h]
      rw [decide_eq_false h]
      simp [ascB]
  | cons x rest ih =>
    intro pre hb hp
    by_cases hx : prevOf pre < x
    · have h := ih (pre ++ [x]) (by simpa using hb) (by rw [prevOf_snoc]; omega)
      rw [← mid_cons, ← mid_succ pre x (by simp at hb; omega), prevOf_snoc] at h
      rw [show ascB (prevOf pre) (x :: rest) = ascB x rest by simp [ascB, hx]]
      refine Ev.step (fun k => ?_) h
      show impl_areTaps.l0 (k + 1) _ w _ _ _ = _
      rw [impl_areTaps.l0, if_pos (mid_lt _ _ _), if_pos (nn _), if_pos (mid_lt _ _ _), mid_rd, if_neg (by omega)]
      by_cases hn : pre = []
      · subst hn
        rw [if_neg (by simp)]
      · have hq := pre_pos pre hn
        have hw : wrap64 ((pre.length : Int) - 1) = (pre.length : Int) - 1 := w64_id (by omega) (by simp at hb; omega)
        rw [if_pos hq, hw, if_pos (by omega), if_pos (by simp; omega), prev_rd _ _ hn, if_neg (by omega)]
    · rw [show ascB (prevOf pre) (x :: rest) = false by simp [ascB, hx], Bool.false_and]
      refine Ev.step (f := fun _ => some false) (fun k => ?_) (Ev.now _)
      show impl_areTaps.l0 (k + 1) _ w _ _ _ = _
      rw [impl_areTaps.l0, if_pos (mid_lt _ _ _), if_pos (nn _), if_pos (mid_lt _ _ _), mid_rd]
      by_cases h1 : x < 1
      · rw [if_pos h1]
      · have hn : pre ≠ [] := by
          intro hn
          subst hn
          exact hx (by simp [prevOf]; omega)
        have hq := pre_pos pre hn
        have hw : wrap64 ((pre.length : Int) - 1) = (pre.length : Int) - 1 := w64_id (by omega) (by simp at hb; omega)
        rw [if_neg h1, if_pos hq, hw, if_pos (by omega), if_pos (by simp; omega), prev_rd _ _ hn, if_pos (by omega)]
theorem areTaps_ev (l : List Int) (w : Int) (hb : l.length ≤ 4611686018427387904) : Ev (fun k => impl_areTaps.f k l w) (ascB 0 l && lastB l w) := areTaps_at w l [] hb (by simp [prevOf])
def bitB (x : Int) : Bool := decide (x = 0 ∨ x = 1)
def seedB (l : List Int) : Bool := l.all bitB && l.contains 1
theorem l11seed_at (rest : List Int) : ∀ (pre : List Int) (s : Bool), (pre ++ rest).length ≤ 4611686018427387904 →
    Ev (fun k => spec_l11Taps.l1 k s (pre ++ rest) ((pre ++ rest).length : Int) (pre.length : Int)) (rest.all bitB && (s || rest.contains 1)) := by
  induction rest with
  | nil =>
    intro pre s hb
    refine Ev.step (f := fun _ => some s) (fun k => ?_) (by simpa using Ev.now s)
    show spec_l11Taps.l1 (k + 1) s _ _ _ = _
    rw [spec_l11Taps.l1, if_neg (mid_nlt _)]
  | cons x rest ih =>
    intro pre s hb
    have h := fun s => ih (pre ++ [x]) s (by simpa using hb)
    rw [← mid_cons, ← mid_succ pre x (by simp at hb; omega)] at h
    by_cases h0 : x = 0
    · subst h0
      rw [show ((0 : Int) :: rest).all bitB = rest.all bitB by simp [bitB], show ((0 : Int) :: rest).contains 1 = rest.contains 1 by simp]
      refine Ev.step (fun k => ?_) (h s)
      show spec_l11Taps.l1 (k + 1) s _ _ _ = _
      rw [spec_l11Taps.l1, if_pos (mid_lt _ _ _), if_pos (nn _), if_pos (mid_lt _ _ _), mid_rd, if_pos rfl]
      cases s
      · rw [if_neg (by simp)]; rfl
      · rw [if_pos rfl]
    · by_cases h1 : x = 1
      · subst h1
        rw [show ((1 : Int) :: rest).all bitB = rest.all bitB by simp [bitB], show ((1 : Int) :: rest).contains 1 = true by simp]
        have h2 := h true
        simp only [Bool.true_or, Bool.or_true] at h2 ⊢
        refine Ev.step (fun k => ?_) h2
        show spec_l11Taps.l1 (k + 1) s _ _ _ = _
        rw [spec_l11Taps.l1, if_pos (mid_lt _ _ _), if_pos (nn _), if_pos (mid_lt _ _ _), mid_rd, if_neg (by decide), if_pos rfl]
        cases s
        · rw [if_neg (by simp)]; rfl
        · rw [if_pos rfl]
      · rw [show (x :: rest).all bitB = false by simp [bitB, h0, h1], Bool.false_and]
        refine Ev.step (f := fun _ => some false) (fun k => ?_) (Ev.now _)
        show spec_l11Taps.l1 (k + 1) s _ _ _ = _
        rw [spec_l11Taps.l1, if_pos (mid_lt _ _ _), if_pos (nn _), if_pos (mid_lt _ _ _), mid_rd, if_neg h0, if_neg h1]
def ascW (w : Int) : Int → List Int → Bool
  | _, [] => true
  | p, x :: xs => decide (p < x ∧ x ≤ w) && ascW w x xs
theorem l11Taps_at (seed rest : List Int) (hs : seed.length ≤ 4611686018427387904) : ∀ (pre : List Int), (pre ++ rest).length ≤ 4611686018427387904 → 0 ≤ prevOf pre →
    Ev (fun k => spec_l11Taps.l0 k (pre ++ rest) seed (pre ++ rest) ((pre ++ rest).length : Int) (pre.length : Int)) (ascW (seed.length : Int) (prevOf pre) rest && seedB seed) := by
  induction rest with
  | nil =>
    intro pre hb hp
    have h := l11seed_at seed [] false (by simpa using hs)
    refine Ev.step (fun k => ?_) (by simpa [ascW, seedB] using h)
    show spec_l11Taps.l0 (k + 1) _ seed _ _ _ = _
    rw [spec_l11Taps.l0, if_neg (mid_nlt _)]
  | cons x rest ih =>
    intro pre hb hp
    by_cases h1 : 1 ≤ x ∧ x ≤ (seed.length : Int)
    · by_cases hx : prevOf pre < x
      · have h := ih (pre ++ [x]) (by simpa using hb) (by rw [prevOf_snoc]; omega)
        rw [← mid_cons, ← mid_succ pre x (by simp at hb; omega), prevOf_snoc] at h
        rw [show ascW (seed.length : Int) (prevOf pre) (x :: rest) = ascW (seed.length : Int) x rest by simp [ascW, hx, h1.2]]
        refine Ev.step (fun k => ?_) h
        show spec_l11Taps.l0 (k + 1) _ seed _ _ _ = _
        rw [spec_l11Taps.l0, if_pos (mid_lt _ _ _), if_pos (nn _), if_pos (mid_lt _ _ _), mid_rd, l01In_eq, Option.bind_some, decide_eq_true h1, if_pos rfl]
        by_cases hn : pre = []
        · subst hn
          rw [if_neg (by simp)]
        · have hq := pre_pos pre hn
          have hw : wrap64 ((pre.length : Int) - 1) = (pre.length : Int) - 1 := w64_id (by omega) (by simp at hb; omega)
          rw [if_pos hq, hw, if_pos (by omega), if_pos (by simp; omega), prev_rd _ _ hn, if_neg (by omega)]
      · rw [show ascW (seed.length : Int) (prevOf pre) (x :: rest) = false by simp [ascW, hx], Bool.false_and]
        refine Ev.step (f := fun _ => some false) (fun k => ?_) (Ev.now _)
        show spec_l11Taps.l0 (k + 1) _ seed _ _ _ = _
        have hn : pre ≠ [] := by
          intro hn
          subst hn
          exact hx (by simp [prevOf]; omega)
        have hq := pre_pos pre hn
        have hw : wrap64 ((pre.length : Int) - 1) = (pre.length : Int) - 1 := w64_id (by omega) (by simp at hb; omega)
        rw [spec_l11Taps.l0, if_pos (mid_lt _ _ _), if_pos (nn _), if_pos (mid_lt _ _ _), mid_rd, l01In_eq, Option.bind_some, decide_eq_true h1, if_pos rfl, if_pos hq, hw, if_pos (by omega), if_pos (by simp; omega), prev_rd _ _ hn, if_pos (by omega)]
    · rw [show ascW (seed.length : Int) (prevOf pre) (x :: rest) = false by simp [ascW]; intro a b; omega, Bool.false_and]
      refine Ev.step (f := fun _ => some false) (fun k => ?_) (Ev.now _)
      show spec_l11Taps.l0 (k + 1) _ seed _ _ _ = _
      rw [spec_l11Taps.l0, if_pos (mid_lt _ _ _), if_pos (nn _), if_pos (mid_lt _ _ _), mid_rd, l01In_eq, Option.bind_some, decide_eq_false h1, if_neg (by simp)]
theorem ascB_last (xs : List Int) : ∀ (p : Int), ascB p xs = true → p ≤ prevOf (p :: xs) ∧ ∀ y ∈ xs, y ≤ prevOf (p :: xs) := by
  induction xs with
  | nil => intro p h; exact ⟨by simp [prevOf, rd], by simp⟩
  | cons x xs ih =>
    intro p h
    simp only [ascB, Bool.and_eq_true, decide_eq_true_eq] at h
    have e : prevOf (p :: x :: xs) = prevOf (x :: xs) := by
      unfold prevOf
      rw [if_neg (by simp), if_neg (by simp)]
      have e1 : (((p :: x :: xs).length : Nat) : Int) - 1 = (((x :: xs).length : Nat) : Int) := by simp
      rw [e1]
      unfold rd
      rw [show ((((x :: xs).length : Nat) : Int) - 1).toNat = xs.length by simp]
      simp
    rw [e]
    obtain ⟨h1, h2⟩ := ih x h.2
    refine ⟨by omega, ?_⟩
    intro y hy
    rcases List.mem_cons.mp hy with rfl | hy
    · exact h1
    · exact h2 y hy
theorem ascW_eq (w : Int) (xs : List Int) : ∀ p, (∀ y ∈ xs, y ≤ w) → ascW w p xs = ascB p xs := by
  induction xs with
  | nil => intro p h; rfl
  | cons x xs ih =>
    intro p h
    have hx := h x (by simp)
    simp [ascW, ascB, hx, ih x (fun y hy => h y (by simp [hy]))]
theorem ascW_last (l : List Int) (w : Int) (h : lastB l w = true) (hw : 0 ≤ w) : ascW w 0 l = ascB 0 l := by
  unfold lastB at h
  simp only [Bool.and_eq_true, decide_eq_true_eq, beq_iff_eq] at h
  have hn : l ≠ [] := by
    intro hn
    subst hn
    exact absurd h.1 (by simp)
  by_cases ha : ascB 0 l = true
  · refine ascW_eq w l 0 ?_
    intro y hy
    have e : prevOf (0 :: l) = w := by
      unfold prevOf
      rw [if_neg (by simp), ← h.2]
      have e1 : (((0 :: l : List Int).length : Nat) : Int) - 1 = ((l.length : Nat) : Int) := by simp
      rw [e1]
      unfold rd
      obtain ⟨m, hm⟩ : ∃ m, l.length = m + 1 := ⟨l.length - 1, by omega⟩
      rw [hm, show (((m + 1 : Nat) : Int) - 1).toNat = m by omega]
      simp
    rw [← e]
    exact (ascB_last l 0 ha).2 y hy
  · have aux : ∀ (xs : List Int) (p : Int), ascW w p xs = true → ascB p xs = true := by
      intro xs
      induction xs with
      | nil => intro p h; rfl
      | cons x xs ih =>
        intro p h
        simp only [ascW, ascB, Bool.and_eq_true, decide_eq_true_eq] at h ⊢
        exact ⟨h.1.1, ih x h.2⟩
    cases hW : ascW w 0 l
    · simpa using ha
    · exact absurd (aux l 0 hW) ha
/-- Both checks of taps and seed are one. -/
def tapsB (t s : List Int) : Bool := decide (1 ≤ (s.length : Int) ∧ (s.length : Int) ≤ 6) && (lastB t (s.length : Int) && (ascB 0 t && seedB s))
theorem l11Taps_ev (t s : List Int) (ht : t.length ≤ 4611686018427387904) : Ev (fun k => spec_l11Taps.f k t s) (tapsB t s) := by
  unfold spec_l11Taps.f tapsB
  have hj : Ev (fun k => spec_l11Taps.j0 k t s true) false := Ev.at_ 1 (fun k hk => by obtain ⟨m, rfl⟩ := Nat.exists_eq_add_of_le' hk; rfl)
  simp only [l01In_eq, Option.bind_some]
  by_cases h : 1 ≤ (s.length : Int) ∧ (s.length : Int) ≤ 6
  · rw [decide_eq_true h, Bool.true_and]
    simp only [if_true]
    by_cases hz : (t.length : Int) = 0
    · simp only [if_pos hz]
      rw [show lastB t (s.length : Int) = false by unfold lastB; rw [decide_eq_false (by omega)]; rfl, Bool.false_and]
      exact hj
    · have hw : wrap64 ((t.length : Int) - 1) = (t.length : Int) - 1 := w64_id (by omega) (by omega)
      simp only [if_neg hz, hw, if_pos (show 0 ≤ (t.length : Int) - 1 by omega), if_pos (show (t.length : Int) - 1 < (t.length : Int) by omega)]
      by_cases hl : rd t ((t.length : Int) - 1) = (s.length : Int)
      · have hB : lastB t (s.length : Int) = true := by
          unfold lastB
          rw [decide_eq_true (show (t.length : Int) > 0 by omega), hl]
          simp
        rw [hB, Bool.true_and, ← ascW_last t _ hB (by omega)]
        have e : (rd t ((t.length : Int) - 1) != (s.length : Int)) = false := by rw [hl]; simp
        simp only [e]
        refine Ev.step (fun k => ?_) (l11Taps_at s t (by omega) [] ht (by simp [prevOf]))
        show spec_l11Taps.j0 (k + 1) t s false = _
        rw [spec_l11Taps.j0, if_neg (by simp)]
        rfl
      · have e : (rd t ((t.length : Int) - 1) != (s.length : Int)) = true := by simpa using hl
        have hB : lastB t (s.length : Int) = false := by
          unfold lastB
          simp [hl]
        simp only [e, hB, Bool.false_and]
        exact hj
  · rw [decide_eq_false h, Bool.false_and]
    simp only [Bool.false_eq_true, if_false]
    exact hj
/-- All ascending lists of the n numbers from a on. -/
def ascs : Nat → Int → List (List Int)
  | 0, _ => [[]]
  | n + 1, a => ascs n (a + 1) ++ (ascs n (a + 1)).map (a :: ·)
theorem ascs_mem (n : Nat) : ∀ (a : Int) (l : List Int), ascB (a - 1) l = true → (∀ y ∈ l, y < a + n) → l ∈ ascs n a := by
  induction n with
  | zero =>
    intro a l h hl
    cases l with
    | nil => simp [ascs]
    | cons x xs =>
      have := hl x (by simp)
      simp only [ascB, Bool.and_eq_true, decide_eq_true_eq] at h
      omega
  | succ n ih =>
    intro a l h hl
    unfold ascs
    rw [List.mem_append]
    cases l with
    | nil => exact Or.inl (ih (a + 1) [] rfl (by simp))
    | cons x xs =>
      simp only [ascB, Bool.and_eq_true, decide_eq_true_eq] at h
      by_cases hx : x = a
      · subst hx
        refine Or.inr (List.mem_map.mpr ⟨xs, ih (x + 1) xs (by rw [show x + 1 - 1 = x by omega]; exact h.2) (fun y hy => by have := hl y (by simp [hy]); omega), rfl⟩)
      · refine Or.inl (ih (a + 1) (x :: xs) ?_ (fun y hy => by have := hl y hy; omega))
        simp only [ascB, Bool.and_eq_true, decide_eq_true_eq]
        exact ⟨by omega, h.2⟩
/-- All lists of n bits. -/
def bitsL : Nat → List (List Int)
  | 0 => [[]]
  | n + 1 => (bitsL n).map (0 :: ·) ++ (bitsL n).map (1 :: ·)
theorem bitsL_mem (l : List Int) : l.all bitB = true → l ∈ bitsL l.length := by
  induction l with
  | nil => intro h; simp [bitsL]
  | cons x xs ih =>
    intro h
    simp only [List.all_cons, Bool.and_eq_true, bitB, decide_eq_true_eq] at h
    have h2 := ih h.2
    simp only [List.length_cons, bitsL, List.mem_append, List.mem_map]
    rcases h.1 with rfl | rfl
    · exact Or.inl ⟨xs, h2, rfl⟩
    · exact Or.inr ⟨xs, h2, rfl⟩
theorem taps_mem (t : List Int) (w : Nat) (h1 : ascB 0 t = true) (h2 : lastB t (w : Int) = true) : t ∈ ascs w 1 := by
  refine ascs_mem w 1 t h1 ?_
  have h := h1
  rw [← ascW_last t w h2 (by omega)] at h
  have aux : ∀ (xs : List Int) (p : Int), ascW (w : Int) p xs = true → ∀ y ∈ xs, y ≤ w := by
    intro xs
    induction xs with
    | nil => intro p h y hy; simp at hy
    | cons x xs ih =>
      intro p h y hy
      simp only [ascW, Bool.and_eq_true, decide_eq_true_eq] at h
      rcases List.mem_cons.mp hy with rfl | hy
      · exact h.1.2
      · exact ih x h.2 y hy
  intro y hy
  have := aux t 0 h y hy
  omega
end Go.Proofs.Ytclmicogljidkaa.F
/- slices.Index and slices.Contains. -/
namespace Go.Proofs.Ytclmicogljidkaa.F
open Go.RowKit Go.Proofs.YtclmicogljidkaaW.PrintWords Go.Proofs.YtclmicogljidkaaW.PrintLast Go.Proofs.YtclmicogljidkaaW.PrintMore
set_option linter.unusedVariables false
set_option linter.unusedSimpArgs false
theorem index_at (x : Int) (rest : List Int) : ∀ (pre : List Int), (pre ++ rest).length ≤ 4611686018427387904 →
    ∃ i : Int, Ev (fun k => slices_Index_Lint_int.l0 k (pre ++ rest) x ((pre ++ rest).length : Int) (pre.length : Int)) i ∧ (decide (i ≥ 0) = rest.contains x) ∧ -1 ≤ i ∧ (rest.contains x = true → i < (pre ++ rest).length ∧ rd (pre ++ rest) i = x) := by
  induction rest with
  | nil =>
    intro pre hb
    exact ⟨-1, Ev.step (f := fun _ => some (-1)) (fun k => by rw [slices_Index_Lint_int.l0, if_neg (mid_nlt _)]) (Ev.now _), by simp, by omega, by simp⟩
  | cons y rest ih =>
    intro pre hb
    by_cases e : x = y
    · subst e
      exact ⟨pre.length, Ev.step (f := fun _ => some (pre.length : Int)) (fun k => by rw [slices_Index_Lint_int.l0, if_pos (mid_lt _ _ _), if_pos (nn _), if_pos (mid_lt _ _ _), mid_rd, if_pos rfl]) (Ev.now _), by simp, by omega, fun _ => ⟨mid_lt _ _ _, mid_rd _ _ _⟩⟩
    · obtain ⟨i, h, h1, h2, h3⟩ := ih (pre ++ [y]) (by simpa using hb)
      rw [← mid_cons] at h h3
      have hc : (y :: rest).contains x = rest.contains x := by simp only [List.contains_cons]; rw [show (x == y) = false by simpa using e]; rfl
      exact ⟨i, Ev.step (fun k => by rw [slices_Index_Lint_int.l0, if_pos (mid_lt _ _ _), if_pos (nn _), if_pos (mid_lt _ _ _), mid_rd, if_neg e, mid_succ pre y (by simp at hb; omega)]) h, by rw [hc]; exact h1, h2, by rw [hc]; exact h3⟩
theorem index_ev (l : List Int) (x : Int) (hb : l.length ≤ 4611686018427387904) : ∃ i : Int, Ev (fun k => slices_Index_Lint_int.f k l x) i ∧ (decide (i ≥ 0) = l.contains x) ∧ -1 ≤ i ∧ (l.contains x = true → i < l.length ∧ rd l i = x) := index_at x l [] hb
theorem contains_ev (l : List Int) (x : Int) (hb : l.length ≤ 4611686018427387904) : Ev (fun k => slices_Contains_Lint_int.f k l x) (l.contains x) := by
  obtain ⟨i, h, h1, _⟩ := index_ev l x hb
  unfold slices_Contains_Lint_int.f
  refine Ev.bind h ?_
  rw [h1]
  exact Ev.now _
end Go.Proofs.Ytclmicogljidkaa.F
/- Colours: bits; the check of a list of colours. -/
namespace Go.Proofs.Ytclmicogljidkaa.F
open Go.RowKit Go.Proofs.YtclmicogljidkaaW.PrintWords Go.Proofs.YtclmicogljidkaaW.PrintLast Go.Proofs.YtclmicogljidkaaW.PrintMore
set_option linter.unusedVariables false
set_option linter.unusedSimpArgs false
def isColor (x : Int) : Bool := decide (0 ≤ x ∧ x ≤ 1)
def colorsB (l : List Int) (most : Int) : Bool := decide ((l.length : Int) ≤ most) && l.all isColor
theorem color_pred (x : Int) : (impl_areColors_1.f x == some true) = !isColor x := by
  unfold impl_areColors_1.f isColor
  by_cases c : x = 0
  · subst c; rfl
  · by_cases d : x = 1
    · subst d; rfl
    · have e : decide (0 ≤ x ∧ x ≤ 1) = false := decide_eq_false (by omega)
      simp [c, d, e]
theorem areColors_eq (l : List Int) (most : Int) : impl_areColors.f l most = some (colorsB l most) := by
  unfold impl_areColors.f slices_ContainsFunc_Lint_int__impl_areColors_1.f colorsB
  by_cases c : (l.length : Int) ≤ most
  · simp only [if_pos c, Option.bind_some, decide_eq_true c, Bool.true_and]
    congr 1
    rw [List.all_eq_not_any_not]
    congr 2
    funext x
    exact color_pred x
  · simp only [if_neg c, decide_eq_false c, Bool.false_and]
end Go.Proofs.Ytclmicogljidkaa.F
/- The two functions that run a shift register answer the same where taps and seed are refused. -/
namespace Go.Proofs.Ytclmicogljidkaa.F
open Go.RowKit Go.Proofs.YtclmicogljidkaaW.PrintWords Go.Proofs.YtclmicogljidkaaW.PrintLast Go.Proofs.YtclmicogljidkaaW.PrintMore
set_option linter.unusedVariables false
set_option linter.unusedSimpArgs false
theorem impl_j0_true (t s : List Int) (n : Int) : Ev (fun k => impl_ShiftStack.j0 k t s n true) (([] : List Int), 0, false) := Ev.at_ 1 (fun k hk => by obtain ⟨m, rfl⟩ := Nat.exists_eq_add_of_le' hk; rfl)
theorem bits_colors (s : List Int) (h : s.all bitB = true) : s.all isColor = true := by
  rw [List.all_eq_true] at h ⊢
  intro x hx
  have := h x hx
  unfold bitB at this
  unfold isColor
  rcases of_decide_eq_true this with rfl | rfl <;> rfl
theorem spec_Shift_no (t s : List Int) (ht : t.length ≤ 4611686018427387904) (h : tapsB t s = false) : Ev (fun k => spec_ShiftStack.f k t s) (([] : List Int), 0, false) := by
  have E1 := l11Taps_ev t s ht
  rw [h] at E1
  unfold spec_ShiftStack.f
  refine Ev.bind E1 ?_
  simp only [Bool.false_eq_true, if_false]
  exact Ev.now _
theorem impl_Shift_no (t s : List Int) (ht : t.length ≤ 4611686018427387904) (hs : s.length ≤ 4611686018427387904) (h : tapsB t s = false) : Ev (fun k => impl_ShiftStack.f k t s) (([] : List Int), 0, false) := by
  unfold impl_ShiftStack.f
  by_cases h1 : (s.length : Int) < 1
  · simp only [if_pos h1]
    exact impl_j0_true t s _
  · simp only [if_neg h1, areColors_eq, Option.bind_some]
    by_cases h2 : colorsB s 6 = true
    · simp only [h2, if_true]
      refine Ev.bind (contains_ev s 1 hs) ?_
      by_cases h3 : s.contains 1 = true
      · simp only [h3, if_true]
        refine Ev.bind (areTaps_ev t (s.length : Int) ht) ?_
        have h4 : (ascB 0 t && lastB t (s.length : Int)) = false := by
          unfold colorsB at h2
          simp only [Bool.and_eq_true, decide_eq_true_eq] at h2
          have h5 : seedB s = true := by
            unfold seedB
            rw [h3, Bool.and_true, List.all_eq_true]
            intro x hx
            have := List.all_eq_true.mp h2.2 x hx
            unfold isColor at this
            unfold bitB
            have := of_decide_eq_true this
            exact decide_eq_true (by omega)
          unfold tapsB at h
          rw [decide_eq_true (show 1 ≤ (s.length : Int) ∧ (s.length : Int) ≤ 6 by omega), h5, Bool.and_true, Bool.true_and] at h
          rw [Bool.and_comm]
          exact h
        rw [h4]
        exact impl_j0_true t s _
      · simp only [h3, if_false]
        exact impl_j0_true t s _
    · simp only [h2, if_false]
      exact impl_j0_true t s _
end Go.Proofs.Ytclmicogljidkaa.F
/- IsMaximal: both functions answer the same; the registers that are taken are run through one by one. -/
namespace Go.Proofs.Ytclmicogljidkaa.Pure
open Go.RowKit Go.Proofs.Ytclmicogljidkaa.F Go.Proofs.YtclmicogljidkaaW.PrintWords Go.Proofs.YtclmicogljidkaaW.PrintLast Go.Proofs.YtclmicogljidkaaW.PrintMore
set_option linter.unusedVariables false
set_option linter.unusedSimpArgs false
theorem key : ∀ w : Fin 7, ∀ t ∈ ascs w.1 1, lastB t (w.1 : Int) = true → laws_FnExactIsMaximal.f 1000 t (w.1 : Int) = some true := by decide +kernel
theorem FnExactIsMaximal : laws_FnExactIsMaximal.Pure := by
  intro l a hm hb hw ha
  by_cases hbig : (l.length : Int) > 1048576
  · exact ⟨0, by unfold laws_FnExactIsMaximal.f; rw [if_pos hbig]⟩
  have hl : l.length ≤ 1048576 := by omega
  by_cases hok : (1 ≤ a ∧ a ≤ 6) ∧ (ascB 0 l = true ∧ lastB l a = true)
  · obtain ⟨⟨h1, h2⟩, h3, h4⟩ := hok
    obtain ⟨w, rfl⟩ := Int.eq_ofNat_of_zero_le (show 0 ≤ a by omega)
    exact ⟨1000, key ⟨w, by omega⟩ l (taps_mem l w h3 h4) h4⟩
  · have main : Ev (fun k => spec_IsMaximal.f k l a) false ∧ Ev (fun k => impl_IsMaximal.f k l a) false := by
      unfold spec_IsMaximal.f impl_IsMaximal.f
      simp only [l01In_eq, Option.bind_some]
      by_cases h : 1 ≤ a ∧ a ≤ 6
      · obtain ⟨w, rfl⟩ := Int.eq_ofNat_of_zero_le (show 0 ≤ a by omega)
        have hn : (ascB 0 l && lastB l (w : Int)) = false := by
          rw [← Bool.not_eq_true, Bool.and_eq_true]
          exact fun hc => hok ⟨h, hc⟩
        have hw1 : wrap64 ((w : Int) - 1) = ((w - 1 : Nat) : Int) := by
          rw [w64_id (by omega) (by omega)]
          omega
        have hT : tapsB l ((List.replicate w (0 : Int)).set (w - 1) 1) = false := by
          unfold tapsB
          rw [List.length_set, List.length_replicate, ← Bool.and_assoc (lastB l (w : Int)), Bool.and_comm (lastB l (w : Int)), hn]
          simp
        have hT1 := spec_Shift_no l ((List.replicate w (0 : Int)).set (w - 1) 1) (by omega) hT
        have hT2 := impl_Shift_no l ((List.replicate w (0 : Int)).set (w - 1) 1) (by omega) (by rw [List.length_set, List.length_replicate]; omega) hT
        simp only [decide_eq_true h, if_true, hw1, Int.toNat_natCast, List.length_replicate, if_neg (show ¬ (w : Int) < 1 by omega), if_neg (show ¬ (w : Int) > 6 by omega), if_pos (show 0 ≤ (w : Int) by omega), if_pos (show w ≤ 35184372088832 by omega), if_pos (show 0 ≤ ((w - 1 : Nat) : Int) by omega), if_pos (show ((w - 1 : Nat) : Int) < (w : Int) by omega)]
        refine ⟨Ev.bind hT1 ?_, Ev.bind hT2 ?_⟩
        · simp only [Bool.false_eq_true, if_false]
          exact Ev.now _
        · simp only [Bool.false_eq_true, if_false]
          exact Ev.now _
      · refine ⟨?_, ?_⟩
        · simp only [decide_eq_false h, Bool.false_eq_true, if_false]
          exact Ev.now _
        · by_cases h1 : a < 1
          · simp only [if_pos h1]
            exact Ev.now _
          · simp only [if_neg h1, if_pos (show a > 6 by omega)]
            exact Ev.now _
    obtain ⟨hs, hi⟩ := main
    have main2 : Ev (fun k => laws_FnExactIsMaximal.f k l a) true := by
      unfold laws_FnExactIsMaximal.f
      simp only [if_neg hbig]
      repeat' first
        | exact Ev.now _
        | with_reducible refine Ev.bind hs ?_
        | with_reducible refine Ev.bind hi ?_
        | with_reducible refine Ev.bind (toIntS_ev _ (by omega)) ?_
        | with_reducible refine Ev.bind (eqIntS_same _ (by omega)) ?_
        | simp only [if_true, if_false, Bool.not_true, bne_self_eq_false, Bool.false_eq_true, neg1, neg2, neg3]
    exact main2.imp fun K hK => hK K (Nat.le_refl _)
end Go.Proofs.Ytclmicogljidkaa.Pure
