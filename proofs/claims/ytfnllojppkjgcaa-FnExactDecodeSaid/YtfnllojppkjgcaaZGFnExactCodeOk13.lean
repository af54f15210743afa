import Derived.Test.YtfnllojppkjgcaaZGFnExactCodeOk12
import Derived.Test.YtfnllojppkjgcaaZGFnExactCodeOk9
import Derived.Test.YtfnllojppkjgcaaZGFnExactCodeOk4
section
namespace Go.Proofs.Ytfnllojppkjgcaa.F
open Go.RowKit Go.Proofs.YtfnllojppkjgcaaW.PrintWords
/-- What is to be shown of numbers and lists. -/
def laws_FnExactDecode.Pure : Prop := ∀ (a0_0 : Int) (l0_1 : List (List (Int))) (l0_2 : List (List (Int))) (l1 : List (Int)), (((Lit.int .i64 a0_0).wf = true) ∧ (l0_1.length * 24 ≤ 140737488351232 ∧ l0_1.length ≤ maxLen ∧ ∀ yl0_1 ∈ l0_1, (yl0_1.length * 8 ≤ 140737488351232 ∧ yl0_1.length ≤ maxLen ∧ ∀ yyl0_1 ∈ yl0_1, ((Lit.int .i64 yyl0_1).wf = true))) ∧ (l0_2.length * 24 ≤ 140737488351232 ∧ l0_2.length ≤ maxLen ∧ ∀ yl0_2 ∈ l0_2, (yl0_2.length * 8 ≤ 140737488351232 ∧ yl0_2.length ≤ maxLen ∧ ∀ yyl0_2 ∈ yl0_2, ((Lit.int .i64 yyl0_2).wf = true)))) → ((l1.length * 8 ≤ 140737488351232 ∧ l1.length ≤ maxLen ∧ ∀ yl1 ∈ l1, ((Lit.int .i64 yl1).wf = true))) → ∃ k, laws_FnExactDecode.f k a0_0 l0_1 l0_2 l1 = some true
end Go.Proofs.Ytfnllojppkjgcaa.F
end
section
/- Decode: both functions answer the same. -/
namespace Go.Proofs.Ytfnllojppkjgcaa.F
open Go.RowKit Go.Proofs.YtfnllojppkjgcaaW.PrintWords Go.Proofs.YtfnllojppkjgcaaW.PrintLast Go.Proofs.YtfnllojppkjgcaaW.PrintMore
set_option linter.unusedVariables false
set_option linter.unusedSimpArgs false
theorem rdc (pre : List (List Int)) (x : List Int) (rest : List (List Int)) : rd_L1 (pre ++ x :: rest) (pre.length : Int) = x := mid_rdL1 pre x rest
theorem l12_at (y : List Int) (hy : y.length ≤ 4611686018427387904) (rest : List (List Int)) : ∀ (pre : List (List Int)), (pre ++ rest).length ≤ 4611686018427387904 →
    Ev (fun k => spec_l12Index.l0 k y (pre ++ rest) ((pre ++ rest).length : Int) (pre.length : Int)) (idxFromL (fun s => decide (s = y)) rest (pre.length : Int)) := by
  induction rest with
  | nil =>
    intro pre hb
    refine Ev.step (f := fun _ => some (-1)) (fun k => ?_) (Ev.now _)
    show spec_l12Index.l0 (k + 1) _ _ _ _ = _
    rw [spec_l12Index.l0, if_neg (mid_nlt _)]
  | cons x rest ih =>
    intro pre hb
    have hE := same_ev y x hy
    refine Ev.stepb hE (fun k => by rw [spec_l12Index.l0, if_pos (mid_lt _ _ _), if_pos (nn _), if_pos (mid_lt _ _ _), rdc]) ?_
    unfold idxFromL
    by_cases c : x = y
    · simp only [c, decide_true, if_true]
      exact Ev.now _
    · have h := ih (pre ++ [x]) (by simpa using hb)
      rw [← mid_cons, ← mid_succ pre x (by simp at hb; omega)] at h
      have e : wrap64 ((pre.length : Int) + 1) = (pre.length : Int) + 1 := w64_id (by omega) (by simp at hb; omega)
      simp only [decide_eq_false c, decide_eq_false (fun h => c (Eq.symm h) : ¬ y = x), Bool.false_eq_true, if_false]
      rw [e] at h
      rw [e]
      exact h
theorem l12_ev (l : List (List Int)) (y : List Int) (hb : l.length ≤ 4611686018427387904) (hy : y.length ≤ 4611686018427387904) : Ev (fun k => spec_l12Index.f k l y) (idxFromL (fun s => decide (s = y)) l 0) := l12_at y hy l [] hb
theorem idxL_lt (p : List Int → Bool) : ∀ (l : List (List Int)) (i : Int), 0 ≤ i → (idxFromL p l i < 0 ∨ (i ≤ idxFromL p l i ∧ idxFromL p l i < i + l.length))
  | [], i, h => by left; simp [idxFromL]
  | x :: xs, i, h => by
    unfold idxFromL
    by_cases c : p x = true
    · rw [if_pos c]; right; simp; omega
    · rw [if_neg c]
      rcases idxL_lt p xs (i + 1) (by omega) with h | h
      · left; exact h
      · right; simp; omega
/-- The first card that is not shown. -/
def decM (sh : List Int) : List Int → Int × Bool
  | [] => (0, false)
  | x :: xs => if sh.contains x = true then decM sh xs else (x, true)
theorem impl_dec_at (sh : List Int) (hs : sh.length ≤ 1048576) (rest : List Int) : ∀ pre : List Int, (pre ++ rest).length ≤ 1048576 →
    Ev (fun k => impl_Decode.l0 k sh (pre ++ rest) (pre.length : Int)) (decM sh rest) := by
  induction rest with
  | nil =>
    intro pre hb
    refine Ev.step (f := fun _ => some (0, false)) (fun k => ?_) (Ev.now _)
    show impl_Decode.l0 (k + 1) _ _ _ = _
    rw [impl_Decode.l0, if_neg (mid_nlt _)]
  | cons x rest ih =>
    intro pre hb
    refine Ev.stepb (contains_ev sh x (by omega)) (fun k => by rw [impl_Decode.l0, if_pos (mid_lt _ _ _), if_pos (nn _), mid_rd]) ?_
    unfold decM
    by_cases c : sh.contains x = true
    · have h := ih (pre ++ [x]) (by simpa using hb)
      rw [← mid_cons, ← mid_succ pre x (by simp at hb; omega)] at h
      simp only [if_pos c]
      exact h
    · simp only [if_neg c]
      exact Ev.now _
theorem spec_dec_at (sh : List Int) (hs : sh.length ≤ 1048576) (rest : List Int) : ∀ pre : List Int, (pre ++ rest).length ≤ 1048576 →
    Ev (fun k => spec_Decode.l0 k sh (pre ++ rest) ((pre ++ rest).length : Int) (pre.length : Int)) (decM sh rest) := by
  induction rest with
  | nil =>
    intro pre hb
    refine Ev.step (f := fun _ => some (0, false)) (fun k => ?_) (Ev.now _)
    show spec_Decode.l0 (k + 1) _ _ _ _ = _
    rw [spec_Decode.l0, if_neg (mid_nlt _)]
  | cons x rest ih =>
    intro pre hb
    refine Ev.stepb (l02Has_ev sh x (by omega)) (fun k => by rw [spec_Decode.l0, if_pos (mid_lt _ _ _), if_pos (nn _), if_pos (mid_lt _ _ _), mid_rd]) ?_
    unfold decM
    by_cases c : sh.contains x = true
    · have h := ih (pre ++ [x]) (by simpa using hb)
      rw [← mid_cons, ← mid_succ pre x (by simp at hb; omega)] at h
      simp only [if_pos c]
      exact h
    · simp only [if_neg c]
      exact Ev.now _
theorem dec_both (d : Int) (H S : List (List Int)) (y : List Int) (hHl : H.length ≤ 1048576) (hS : S.length ≤ 1048576) (hH : ∀ x ∈ H, x.length ≤ 1048576) (hSx : ∀ x ∈ S, x.length ≤ 1048576) (hy : y.length ≤ 1048576) : ∃ r : Int × Bool, Ev (fun k => spec_Decode.f k d H S y) r ∧ Ev (fun k => impl_Decode.f k d H S y) r := by
  obtain ⟨b, s1, i1, hlen⟩ := code_both d H S hHl hS hH hSx
  have e1 := l12_ev S y (by omega) (by omega)
  have jt : ∀ a : Int, Ev (fun k => spec_Decode.j0 k y a true d H S) ((0 : Int), false) := fun a => Ev.at_ 1 (fun k hk => by obtain ⟨m, rfl⟩ := Nat.exists_eq_add_of_le' hk; rfl)
  have hlt := idxL_lt (fun s => decide (s = y)) S 0 (by omega)
  obtain ⟨i, hi⟩ : ∃ i : Int, i = idxFromL (fun s => decide (s = y)) S 0 := ⟨_, rfl⟩
  rw [← hi] at e1 hlt
  unfold spec_Decode.f impl_Decode.f
  rw [← hi]
  cases b with
  | false => exact ⟨(0, false), Ev.bind e1 (Ev.bind s1 (by simp only [Bool.false_eq_true, if_false]; exact jt i)), Ev.bind i1 (by simp only [Bool.false_eq_true, if_false]; exact Ev.now _)⟩
  | true =>
    have hl := hlen rfl
    by_cases c : i < 0
    · exact ⟨(0, false), Ev.bind e1 (Ev.bind s1 (by simp only [if_true, decide_eq_true c]; exact jt i)), Ev.bind i1 (by simp only [if_true, if_pos c]; exact Ev.now _)⟩
    · have h2 : i < (H.length : Int) := by omega
      have hmem : H.getD i.toNat [] ∈ H := by rw [List.getD_eq_getElem?_getD, List.getElem?_eq_getElem (by omega)]; exact List.getElem_mem _
      have hx := hH _ hmem
      have hrd : rd_L1 H i = H.getD i.toNat [] := by
        unfold rd_L1
        rfl
      refine ⟨decM y (H.getD i.toNat []), Ev.bind e1 (Ev.bind s1 ?_), Ev.bind i1 ?_⟩
      · simp only [if_true, decide_eq_false c]
        refine Ev.step (fun k => ?_) (spec_dec_at y hy (H.getD i.toNat []) [] (by simpa using hx))
        show spec_Decode.j0 (k + 1) y i false d H S = _
        rw [spec_Decode.j0, if_neg (by simp), if_pos (by omega), if_pos h2, hrd]
        rfl
      · simp only [if_true, if_neg c, if_pos h2]
        exact impl_dec_at y hy (H.getD i.toNat []) [] (by simpa using hx)
end Go.Proofs.Ytfnllojppkjgcaa.F
end
section
/- Decode: both functions answer the same. -/
namespace Go.Proofs.Ytfnllojppkjgcaa.Pure
open Go.RowKit Go.Proofs.Ytfnllojppkjgcaa.F Go.Proofs.YtfnllojppkjgcaaW.PrintWords Go.Proofs.YtfnllojppkjgcaaW.PrintLast Go.Proofs.YtfnllojppkjgcaaW.PrintMore
set_option linter.unusedVariables false
set_option linter.unusedSimpArgs false
theorem FnExactDecode : laws_FnExactDecode.Pure := by
  intro d H S y hq hq2
  obtain ⟨_, ⟨h1, h2, h3⟩, ⟨s1, s2, s3⟩⟩ := hq
  obtain ⟨r, hsz, hr⟩ := szCode_ev d H S (by omega) (by omega) (fun x hx => by have := h3 x hx; omega) (fun x hx => by have := s3 x hx; omega)
  have main2 : Ev (fun k => laws_FnExactDecode.f k d H S y) true := by
    unfold laws_FnExactDecode.f
    by_cases c0 : (y.length : Int) > 1048576
    · simp only [if_pos c0]
      exact Ev.now _
    simp only [if_neg c0]
    have hy : y.length ≤ 1048576 := by omega
    refine Ev.bind hsz ?_
    by_cases c : r < 0
    · simp only [if_pos c]
      exact Ev.now _
    · obtain ⟨b1, b2⟩ := hr.resolve_left c
      have hx : ∀ x ∈ H, x.length ≤ 1048576 := fun x hx => by have := total_mem H x hx; omega
      have hx2 : ∀ x ∈ S, x.length ≤ 1048576 := fun x hx => by have := total_mem S x hx; omega
      obtain ⟨b, hs, hi⟩ := dec_both d H S y (by omega) (by omega) hx hx2 hy
      have ht := toCode_ev d H S (by omega) (by omega) hx hx2
      have he := eqCode_ev d H S (by omega) (by omega) hx hx2
      have hti := toIntS_ev y (by omega)
      have hei := eqIntS_same y (by omega)
      have hj : Ev (fun k => laws_FnExactDecode.j0 k y y false d H S d H S) true := by
        refine Ev.stepb ht (fun k => by show laws_FnExactDecode.j0 (k + 1) y y false d H S d H S = _; rw [laws_FnExactDecode.j0, if_neg (by simp)]) ?_
        repeat' first
          | exact Ev.now _
          | with_reducible refine Ev.bind ht ?_
          | with_reducible refine Ev.bind he ?_
          | with_reducible refine Ev.bind hti ?_
          | with_reducible refine Ev.bind hei ?_
          | simp only [if_true, if_false, Bool.not_true, bne_self_eq_false, Bool.false_eq_true]
      simp only [if_neg c]
      repeat' first
        | exact Ev.now _
        | exact hj
        | with_reducible refine Ev.bind hs ?_
        | with_reducible refine Ev.bind hi ?_
        | with_reducible refine Ev.bind ht ?_
        | with_reducible refine Ev.bind he ?_
        | with_reducible refine Ev.bind hti ?_
        | with_reducible refine Ev.bind hei ?_
        | simp only [if_true, if_false, Bool.not_true, bne_self_eq_false, Bool.false_eq_true, neg1, neg2, neg3]
  exact main2.imp fun K hK => hK K (Nat.le_refl _)
end Go.Proofs.Ytfnllojppkjgcaa.Pure
end
