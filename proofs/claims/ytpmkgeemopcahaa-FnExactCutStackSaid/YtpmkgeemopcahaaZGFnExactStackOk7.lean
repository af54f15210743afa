import Derived.Test.YtpmkgeemopcahaaZGFnExactStackOk4
import Derived.Test.YtpmkgeemopcahaaZGFnExactStackOk3
import Derived.Test.YtpmkgeemopcahaaZGFnExactStackOk6
import Derived.Test.YtpmkgeemopcahaaZGFnExactStackOk5
section
/- slices.Equal. -/
namespace Go.Proofs.Ytpmkgeemopcahaa.F
open Go.RowKit Go.Proofs.YtpmkgeemopcahaaW.PrintWords Go.Proofs.YtpmkgeemopcahaaW.PrintLast Go.Proofs.YtpmkgeemopcahaaW.PrintMore
set_option linter.unusedVariables false
set_option linter.unusedSimpArgs false
theorem slEq_at (rest : List Int) : ∀ (pre ys : List Int), (pre ++ ys).length ≤ 4611686018427387904 → rest.length = ys.length →
    Ev (fun k => slices_Equal_Lint_int.l0 k (pre ++ rest) (pre ++ ys) ((pre ++ rest).length : Int) (pre.length : Int)) (decide (rest = ys)) := by
  induction rest with
  | nil =>
    intro pre ys hb hl
    obtain rfl : ys = [] := List.length_eq_zero_iff.mp hl.symm
    exact Ev.step (f := fun _ => some true) (fun k => by rw [slices_Equal_Lint_int.l0, if_neg (mid_nlt _)]) (Ev.now _)
  | cons x rest ih =>
    intro pre ys hb hl
    cases ys with
    | nil => simp at hl
    | cons y ys =>
      by_cases e : x = y
      · subst e
        have h := ih (pre ++ [x]) ys (by simpa using hb) (by simpa using hl)
        rw [← mid_cons, ← mid_cons, ← mid_succ pre x (by simp at hb; omega)] at h
        rw [show decide (x :: rest = x :: ys) = decide (rest = ys) by simp]
        exact Ev.step (fun k => by rw [slices_Equal_Lint_int.l0, if_pos (mid_lt _ _ _), if_pos (nn _), if_pos (mid_lt _ _ _), if_pos (mid_lt _ _ _), mid_rd, mid_rd, if_pos rfl]) h
      · rw [show decide (x :: rest = y :: ys) = false by simp [e]]
        exact Ev.step (f := fun _ => some false) (fun k => by rw [slices_Equal_Lint_int.l0, if_pos (mid_lt _ _ _), if_pos (nn _), if_pos (mid_lt _ _ _), if_pos (mid_lt _ _ _), mid_rd, mid_rd, if_neg e]) (Ev.now _)
theorem slEq_ev (l m : List Int) (hl : l.length ≤ 4611686018427387904) : Ev (fun k => slices_Equal_Lint_int.f k l m) (decide (l = m)) := by
  unfold slices_Equal_Lint_int.f
  by_cases e : (l.length : Int) = (m.length : Int)
  · simp only [if_pos e]
    exact slEq_at l [] m (by simp; omega) (by omega)
  · simp only [if_neg e]
    rw [show decide (l = m) = false from decide_eq_false (fun h => e (by rw [h]))]
    exact Ev.now _
end Go.Proofs.Ytpmkgeemopcahaa.F
end
section
/- A window at a place, the place of a window, a stack that is cut: both functions alike. -/
namespace Go.Proofs.Ytpmkgeemopcahaa.F
open Go.RowKit Go.Proofs.YtpmkgeemopcahaaW.PrintWords Go.Proofs.YtpmkgeemopcahaaW.PrintLast Go.Proofs.YtpmkgeemopcahaaW.PrintMore
set_option linter.unusedVariables false
set_option linter.unusedSimpArgs false
theorem stackB_len {c : List Int} {w : Int} (h : stackB c w = true) : 1 ≤ w ∧ w ≤ 6 ∧ 0 < c.length ∧ c.length ≤ 64 := by
  unfold stackB at h
  rw [Bool.and_eq_true, decide_eq_true_eq] at h
  omega
theorem windowAt_both (c : List Int) (w a : Int) (hb : c.length ≤ 1048576) : ∃ r : List Int × Bool, Ev (fun k => spec_WindowAt.f k c w a) r ∧ Ev (fun k => impl_WindowAt.f k c w a) r ∧ r.1.length ≤ 6 := by
  have E1 := spec_stack_ev c w
  have E2 := impl_stack_ev c w
  have hw1 : wrap64 ((c.length : Int) - 1) = (c.length : Int) - 1 := w64_id (by omega) (by omega)
  by_cases h : stackB c w = true
  · have hl := stackB_len h
    by_cases ha : 0 ≤ a ∧ a < (c.length : Int)
    · refine ⟨(windowL c w a, true), ?_, ?_, by have := windowL_length c w a (by omega); show (windowL c w a).length ≤ 6; omega⟩
      · unfold spec_WindowAt.f
        refine Ev.bind E1 ?_
        simp only [h, if_true, l01In_eq, hw1, Option.bind_some, decide_eq_true (show 0 ≤ a ∧ a ≤ (c.length : Int) - 1 by omega)]
        exact Ev.bind (spec_win_ev c w a hl.2.2.1 (by omega) (by omega) (by omega) (by omega) (by omega)) (Ev.now _)
      · unfold impl_WindowAt.f
        refine Ev.bind E2 ?_
        simp only [h, if_true, if_neg (show ¬ a < 0 by omega), if_neg (show ¬ a ≥ (c.length : Int) by omega)]
        exact Ev.bind (impl_win_ev c w a hl.2.2.1 (by omega) (by omega) (by omega) (by omega) (by omega)) (Ev.now _)
    · refine ⟨([], false), ?_, ?_, by simp⟩
      · unfold spec_WindowAt.f
        refine Ev.bind E1 ?_
        simp only [h, if_true, l01In_eq, hw1, Option.bind_some, decide_eq_false (show ¬ (0 ≤ a ∧ a ≤ (c.length : Int) - 1) by omega), Bool.false_eq_true, if_false]
        exact Ev.now _
      · unfold impl_WindowAt.f
        refine Ev.bind E2 ?_
        by_cases h0 : a < 0
        · simp only [h, if_true, if_pos h0]
          exact Ev.now _
        · simp only [h, if_true, if_neg h0, if_pos (show a ≥ (c.length : Int) by omega)]
          exact Ev.now _
  · refine ⟨([], false), ?_, ?_, by simp⟩
    · unfold spec_WindowAt.f
      refine Ev.bind E1 ?_
      simp only [h, if_false]
      exact Ev.now _
    · unfold impl_WindowAt.f
      refine Ev.bind E2 ?_
      simp only [h, if_false]
      exact Ev.now _
/-- Where a window stands, from place i on. -/
def findM (c : List Int) (w : Int) (x : List Int) : Nat → Nat → Int
  | _, 0 => -1
  | i, n + 1 => if windowL c w i = x then (i : Int) else findM c w x (i + 1) n
theorem spec_findw_at (c : List Int) (w : Int) (x : List Int) (hl : 1 ≤ w ∧ w ≤ 6 ∧ 0 < c.length ∧ c.length ≤ 64) (n : Nat) : ∀ i : Nat, i + n = c.length → Ev (fun k => spec_FindWindow.l0 k x (c.length : Int) (i : Int) c w) (findM c w x i n) := by
  induction n with
  | zero =>
    intro i hi
    refine Ev.step (f := fun _ => some (-1)) (fun k => ?_) (Ev.now _)
    show spec_FindWindow.l0 (k + 1) _ _ _ _ _ = _
    rw [spec_FindWindow.l0, if_neg (by omega)]
  | succ n ih =>
    intro i hi
    have hw := spec_win_ev c w i hl.2.2.1 (by omega) (by omega) (by omega) (by omega) (by omega)
    have hlen := windowL_length c w i (by omega)
    refine Ev.stepb hw (fun k => by rw [spec_FindWindow.l0, if_pos (by omega)]) (Ev.bind (same_ev (windowL c w i) x (by omega)) ?_)
    by_cases e : windowL c w i = x
    · simp only [decide_eq_true e, if_true, findM, if_pos e]
      exact Ev.now _
    · simp only [decide_eq_false e, Bool.false_eq_true, if_false, findM, if_neg e, w64_nat i (by omega)]
      exact ih (i + 1) (by omega)
theorem impl_findw_at (c : List Int) (w : Int) (x : List Int) (hs : stackB c w = true) (n : Nat) : ∀ i : Nat, i + n = c.length → Ev (fun k => impl_FindWindow.l0 k x (i : Int) c w) (findM c w x i n) := by
  have hl := stackB_len hs
  induction n with
  | zero =>
    intro i hi
    refine Ev.step (f := fun k => impl_FindWindow.j1 k x (i : Int) false c w) (fun k => ?_) ?_
    · show impl_FindWindow.l0 (k + 1) _ _ _ _ = _
      rw [impl_FindWindow.l0, if_neg (by omega)]
    · exact Ev.step (f := fun _ => some (-1)) (fun k => by rw [impl_FindWindow.j1, if_neg (by simp)]) (Ev.now _)
  | succ n ih =>
    intro i hi
    have hw := impl_win_ev c w i hl.2.2.1 (by omega) (by omega) (by omega) (by omega) (by omega)
    have hlen := windowL_length c w i (by omega)
    refine Ev.stepb (impl_stack_ev c w) (fun k => by rw [impl_FindWindow.l0, if_pos (by omega)]) ?_
    simp only [hs]
    refine Ev.stepb hw (fun k => by rw [impl_FindWindow.j1, if_pos rfl]) (Ev.bind (slEq_ev (windowL c w i) x (by omega)) ?_)
    by_cases e : windowL c w i = x
    · simp only [decide_eq_true e, if_true, findM, if_pos e]
      exact Ev.now _
    · simp only [decide_eq_false e, Bool.false_eq_true, if_false, findM, if_neg e, w64_nat i (by omega)]
      exact ih (i + 1) (by omega)
theorem findWindow_both (c : List Int) (w : Int) (x : List Int) (hb : c.length ≤ 1048576) : ∃ r : Int, Ev (fun k => spec_FindWindow.f k c w x) r ∧ Ev (fun k => impl_FindWindow.f k c w x) r := by
  have E1 := spec_stack_ev c w
  have E2 := impl_stack_ev c w
  by_cases h : stackB c w = true
  · have hl := stackB_len h
    refine ⟨findM c w x 0 c.length, ?_, ?_⟩
    · unfold spec_FindWindow.f
      refine Ev.bind E1 ?_
      simp only [h, if_true]
      exact spec_findw_at c w x hl c.length 0 (by omega)
    · exact impl_findw_at c w x h c.length 0 (by omega)
  · have h' : stackB c w = false := by simpa using h
    refine ⟨-1, ?_, ?_⟩
    · unfold spec_FindWindow.f
      refine Ev.bind E1 ?_
      simp only [h, if_false]
      exact Ev.now _
    · unfold impl_FindWindow.f
      have hj : Ev (fun k => impl_FindWindow.j1 k x 0 false c w) (-1) := Ev.step (f := fun _ => some (-1)) (fun k => by rw [impl_FindWindow.j1, if_neg (by simp)]) (Ev.now _)
      by_cases hc : (0 : Int) < (c.length : Int)
      · refine Ev.stepb E2 (fun k => by rw [impl_FindWindow.l0, if_pos hc]) ?_
        rw [h']
        exact hj
      · exact Ev.step (fun k => by rw [impl_FindWindow.l0, if_neg hc]) hj
theorem winFrom_tail (c : List Int) (a : Nat) (ha : a ≤ c.length) (m : Nat) : ∀ i : Nat, a + i + m = c.length → winFrom c a i m = (c.drop (a + i)) := by
  induction m with
  | zero => intro i h; rw [winFrom, List.drop_eq_nil_of_le (by omega)]
  | succ m ih =>
    intro i h
    have hlt : a + i < c.length := by omega
    rw [winFrom, ih (i + 1) (by omega), List.drop_eq_getElem_cons hlt]
    congr 1
    rw [Int.tmod_eq_emod_of_nonneg (by omega), Int.emod_eq_of_lt (by omega) (by omega)]
    unfold rd
    rw [show ((a : Int) + (i : Int)).toNat = a + i by omega, List.getD_eq_getElem?_getD, List.getElem?_eq_getElem hlt]
    rfl
theorem winFrom_head (c : List Int) (a : Nat) (ha : a ≤ c.length) (hc : 0 < c.length) (m : Nat) : ∀ i : Nat, c.length ≤ a + i → a + i + m ≤ 2 * c.length → winFrom c a i m = (c.drop (a + i - c.length)).take m := by
  induction m with
  | zero => intro i h h2; rw [winFrom, List.take_zero]
  | succ m ih =>
    intro i h h2
    have hlt : a + i - c.length < c.length := by omega
    rw [winFrom, ih (i + 1) (by omega) (by omega), List.drop_eq_getElem_cons hlt, List.take_succ_cons]
    congr 1
    · rw [Int.tmod_eq_emod_of_nonneg (by omega)]
      have e : ((a : Int) + (i : Int)) % (c.length : Int) = ((a + i - c.length : Nat) : Int) := by
        rw [show (a : Int) + (i : Int) = ((a + i - c.length : Nat) : Int) + (c.length : Int) by omega, Int.add_emod_right, Int.emod_eq_of_lt (by omega) (by omega)]
      rw [e]
      unfold rd
      rw [Int.toNat_natCast, List.getD_eq_getElem?_getD, List.getElem?_eq_getElem hlt]
      rfl
    · rw [show a + (i + 1) - c.length = a + i - c.length + 1 by omega]
theorem winFrom_append (c : List Int) (a : Int) (m n : Nat) : ∀ i, winFrom c a i (m + n) = winFrom c a i m ++ winFrom c a (i + m) n := by
  induction m with
  | zero => intro i; simp [winFrom]
  | succ m ih =>
    intro i
    rw [show m + 1 + n = (m + n) + 1 by omega, winFrom, winFrom, ih (i + 1), List.cons_append, show i + 1 + m = i + (m + 1) by omega]
theorem window_turned (c : List Int) (a : Nat) (ha : a ≤ c.length) (hc : 0 < c.length) : windowL c (c.length : Int) a = c.drop a ++ c.take a := by
  unfold windowL
  have e : winFrom c (a : Int) 0 c.length = winFrom c (a : Int) 0 ((c.length - a) + a) := by rw [Nat.sub_add_cancel ha]
  rw [Int.toNat_natCast, e, winFrom_append, winFrom_tail c a ha (c.length - a) 0 (by omega), winFrom_head c a ha hc a (0 + (c.length - a)) (by omega) (by omega)]
  rw [show a + (0 + (c.length - a)) - c.length = 0 by omega, List.drop_zero, Nat.add_zero]
theorem cutStack_both (c : List Int) (w a : Int) (hb : c.length ≤ 1048576) : ∃ (r : List Int) (v : Int) (b : Bool), Ev (fun k => spec_CutStack.f k c w a) (r, v, b) ∧ Ev (fun k => impl_CutStack.f k c w a) (r, v, b) ∧ r.length ≤ 64 := by
  have E1 := spec_stack_ev c w
  have E2 := impl_stack_ev c w
  have hw1 : wrap64 ((c.length : Int) - 1) = (c.length : Int) - 1 := w64_id (by omega) (by omega)
  by_cases h : stackB c w = true
  · have hl := stackB_len h
    by_cases ha : 0 ≤ a ∧ a < (c.length : Int)
    · obtain ⟨n, rfl⟩ := Int.eq_ofNat_of_zero_le ha.1
      refine ⟨c.drop n ++ c.take n, w, true, ?_, ?_, by simp; omega⟩
      · unfold spec_CutStack.f
        refine Ev.bind E1 ?_
        simp only [h, if_true, l01In_eq, hw1, Option.bind_some, decide_eq_true (show 0 ≤ (n : Int) ∧ (n : Int) ≤ (c.length : Int) - 1 by omega), if_pos ha.1, if_pos (show (n : Int) ≤ (c.length : Int) by omega), List.nil_append, List.length_nil, Int.toNat_natCast]
        rw [if_pos (by simp; omega), if_pos (by simp; omega)]
        exact Ev.now _
      · unfold impl_CutStack.f
        refine Ev.bind E2 ?_
        simp only [h, if_true, if_neg (show ¬ (n : Int) < 0 by omega), if_neg (show ¬ (n : Int) ≥ (c.length : Int) by omega)]
        have hw := impl_win_ev c (c.length : Int) n hl.2.2.1 (by omega) (by omega) (by omega) (by omega) (by omega)
        rw [window_turned c n (by omega) hl.2.2.1] at hw
        exact Ev.bind hw (Ev.now _)
    · refine ⟨[], 0, false, ?_, ?_, by simp⟩
      · unfold spec_CutStack.f
        refine Ev.bind E1 ?_
        simp only [h, if_true, l01In_eq, hw1, Option.bind_some, decide_eq_false (show ¬ (0 ≤ a ∧ a ≤ (c.length : Int) - 1) by omega), Bool.false_eq_true, if_false]
        exact Ev.now _
      · unfold impl_CutStack.f
        refine Ev.bind E2 ?_
        by_cases h0 : a < 0
        · simp only [h, if_true, if_pos h0]
          exact Ev.now _
        · simp only [h, if_true, if_neg h0, if_pos (show a ≥ (c.length : Int) by omega)]
          exact Ev.now _
  · refine ⟨[], 0, false, ?_, ?_, by simp⟩
    · unfold spec_CutStack.f
      refine Ev.bind E1 ?_
      simp only [h, if_false]
      exact Ev.now _
    · unfold impl_CutStack.f
      refine Ev.bind E2 ?_
      simp only [h, if_false]
      exact Ev.now _
end Go.Proofs.Ytpmkgeemopcahaa.F
end
section
/- Laid by a program of this claim's own. What the Go function does, as a Lean function, and the proof that the Go code does just that; Lean checks it. -/
namespace Go.Proofs.Ytpmkgeemopcahaa.F
open Go.RowKit Go.Proofs.YtpmkgeemopcahaaW.PrintWords Go.Proofs.YtpmkgeemopcahaaW.PrintLast Go.Proofs.YtpmkgeemopcahaaW.PrintMore
attribute [local go_sem] max2_int min2_int max_two min_two max_three min_three max_four min_four   -- for this text's walks alone
set_option linter.unusedVariables false
set_option linter.unusedSimpArgs false
/-! ### laws_markStack: function 29 -/
def laws_markStack.f (k : Nat) (l0_0 : List Int) (a0_1 : Int) (a1 : Int) : Option (Int × List Int) := (laws_markIntS.f k l0_0 a1).bind fun bt388 => (some (bt388.1, bt388.2))
set_option maxHeartbeats 8000000 in
set_option maxRecDepth 100000 in
theorem laws_markStack.calls (k : Nat) (P0_0_ : Nat → Prop) (u9000_ : Value) (l0_0 : List Int) (a0_1 : Int) (a1 : Int) (r1 : Int) (r2 : List Int) (w0 w : World) (hB : Below w0.heap.size w0 w) (ho0_0 : Kd.R (Kd.int .i64) 3 w w0.heap.size P0_0_ u9000_ l0_0) (h : laws_markStack.f k l0_0 a0_1 a1 = some (r1, r2)) :
    Calls Try.prog 29 #[.agg #[u9000_, .int .i64 a0_1], .int .i64 a1] w fun e w' => e = .returned (.int .i64 r1) ∧ Kd.R (Kd.int .i64) 3 w' w0.heap.size (fun k_ => (P0_0_ k_ ∨ w.heap.size ≤ k_)) u9000_ r2 ∧ Below w0.heap.size w0 w' ∧ Kept w w' (fun k_ => P0_0_ k_) := by
  have hu27 := Try.underlying27
  have HO0_0 := Aside0.mk (show Kd.R (Kd.int .i64) 3 w w0.heap.size (fun k_ => (P0_0_ k_ ∨ w.heap.size ≤ k_)) u9000_ l0_0 from Kd.R_mono ho0_0 (fun k_ hk => (.inl hk)))
  have HK := Aside0.mk (Kept.refl w (fun k_ => P0_0_ k_))
  have HW0 := Aside0.mk hB.size
  have HB := Aside0.mk hB
  clear hB
  have H : ((laws_markIntS.f k l0_0 a1).bind fun bt388 => (some (bt388.1, bt388.2))) = some (r1, r2) := h
  clear h
  replace H := Option.bind_eq_some_iff.mp H
  obtain ⟨⟨t388, t389⟩, A30, H⟩ := H
  replace H : (some (t388, t389)) = some (r1, r2) := H
  have A3 := Aside0.mk A30
  clear A30
  simp only [Option.some.injEq, Prod.mk.injEq] at H
  obtain ⟨rfl, rfl⟩ := H
  obtain ⟨Ao4, co4, eo4⟩ := Kd.R_slice HO0_0.out
  subst eo4
  go_enter Try.func29, Try.ntmps29
  go_wp2_with (first | ((with_reducible refine gate_dst (N := 2) rfl ?_); refine box_event ?hg (N := 2) ?hd (cs := #[.slice Ao4 l0_0.length co4, .int .i64 a0_1]) (t := 27) ?hr ?_; (case hd => rfl); (case hg => rfl); (case hr => first | (go_simp; done) | (go_simp; rfl)); intro gb387 hg w5 hbox hb; have n0_ := Aside0.mk (Kd.R_below (by (with_reducible repeat (first | apply Kd.R_alloc | apply Kd.R_drewN | apply Kd.R_drew)); exact HO0_0.out) hb); have n1_ := Aside0.mk (Kept.below (S := (fun k_ => P0_0_ k_)) (by repeat (first | (with_reducible first | exact HK.out | apply Kept.alloc | apply Kept.drewN | apply Kept.drew) | exact HK.out)) hb); have n2_ := Aside0.mk (below_step (by repeat (first | (with_reducible first | exact HB.out | apply below_alloc | apply pw_below_drewN | apply below_drew1) | exact HB.out)) hb); have n3_ := Aside0.mk (hbox); have n4_ := Aside0.mk ((by rw [hg]; exact (by first | exact HK.out.1 | exact (show Kept w _ (fun k_ => P0_0_ k_) from by repeat (first | (with_reducible first | exact HK.out | apply Kept.alloc | apply Kept.drewN | apply Kept.drew) | exact HK.out)).1) : w.heap.size ≤ gb387)); have n5_ := Aside0.mk ((by rw [hg]; exact (below_size (by repeat (first | (with_reducible first | exact HB.out | apply below_alloc | apply pw_below_drewN | apply below_drew1) | exact HB.out))) : w0.heap.size ≤ gb387)); clear HO0_0; clear HK; clear HB; have HO0_0 := n0_; have HK := n1_; have HB := n2_; have BK387 := n3_; have GW387 := n4_; have GE387 := n5_; clear n0_ n1_ n2_ n3_ n4_ n5_; clear hb hbox hg; have hcz6_0 : w5.cell? ⟨gb387, 0, none⟩ = some (.slice Ao4 l0_0.length co4) := (blk_cell BK387.out 0).trans rfl; have hcz6_1 : w5.cell? ⟨gb387, 1, none⟩ = some (.int .i64 a0_1) := (blk_cell BK387.out 1).trans rfl; have hfz6_0 := blk_frozen BK387.out 0; have hfz6_1 := blk_frozen BK387.out 1) | ((with_reducible refine gate_callee (f := 30) rfl ?_); refine goesL_ (some 8) rfl rfl Try.func30 (by kernel_rfl) rfl #[.slice Ao4 l0_0.length co4, .int .i64 a1] rfl (by (try simp only [List.map_toArray, List.map_cons, List.map_nil]); first | done | rfl | (simp only [List.length_drop, List.length_take]; rfl)) ?_; (with_reducible refine (laws_markIntS.calls k (fun k_ => some k_ = (.slice Ao4 l0_0.length co4 : Value).ownBlock) (.slice Ao4 l0_0.length co4) l0_0 a1 t388 t389 w0 _ ?side1 ?side2 A3.out).mono ?_); (case side1 => repeat (first | (with_reducible first | exact HB.out | apply below_alloc | apply pw_below_drewN | apply below_drew1 | refine below_set ?_ GE387.out) | exact HB.out)); (case side2 => exact Kd.R_tight rfl HO0_0.out); rintro e w7 ⟨rfl, hy0, hb, hkp⟩; refine ⟨_, rfl, ?_⟩; have n0_ := Aside0.mk (Kd.R_reok rfl hy0 (fun k_ e_ => HO0_0.out.1 k_ e_)); have n1_ := Aside0.mk (blk_kept (by (with_reducible repeat (first | refine blk_drewN ?_ _ | refine blk_drew ?_ | refine blk_alloc ?_ _)); exact BK387.out) hkp (fun hs_ => (fun e_ => (Kd.R_ne HO0_0.out BK387.out (by decide)) e_) hs_)); have n2_ := Aside0.mk (Kept.then_ (S := (fun k_ => P0_0_ k_)) (by repeat (first | (with_reducible first | exact HK.out | apply Kept.alloc | apply Kept.drewN | apply Kept.drew | refine Kept.setCell ?_ (.inr GW387.out) _) | exact HK.out)) hkp (fun k_ hs_ => (fun e_ => (HO0_0.out.1 k_ e_.symm)) hs_)); have n3_ := Aside0.mk (hb); clear HO0_0; clear BK387; clear HK; clear HB; have HO0_0 := n0_; have BK387 := n1_; have HK := n2_; have HB := n3_; clear n0_ n1_ n2_ n3_; (try clear hb); (try clear hkp); (try clear hy0)))
  go_ret
  exact ⟨by first | rfl | (simp [errW_none, errW_some] <;> rfl) | (simp [*, errW_none, errW_some] <;> rfl), by (with_reducible repeat (first | apply Kd.R_alloc | apply Kd.R_drewN | apply Kd.R_drew)); exact HO0_0.out, by repeat (first | (with_reducible first | exact HB.out | apply below_alloc | apply pw_below_drewN | apply below_drew1 | refine below_set ?_ GE387.out) | exact HB.out), by repeat (first | (with_reducible first | exact HK.out | apply Kept.alloc | apply Kept.drewN | apply Kept.drew | refine Kept.setCell ?_ (.inr GW387.out) _) | exact HK.out)⟩
end Go.Proofs.Ytpmkgeemopcahaa.F
end
section
/- Laid by a program of this claim's own. What the Go function does, as a Lean function, and the proof that the Go code does just that; Lean checks it. -/
namespace Go.Proofs.Ytpmkgeemopcahaa.F
open Go.RowKit Go.Proofs.YtpmkgeemopcahaaW.PrintWords Go.Proofs.YtpmkgeemopcahaaW.PrintLast Go.Proofs.YtpmkgeemopcahaaW.PrintMore
attribute [local go_sem] max2_int min2_int max_two min_two max_three min_three max_four min_four   -- for this text's walks alone
set_option linter.unusedVariables false
set_option linter.unusedSimpArgs false
/-! ### laws_heldStack: function 33 -/
def laws_heldStack.f (k : Nat) (l0_0 : List Int) (a0_1 : Int) (a1 : Int) : Option (Int) := (laws_heldIntS.f k l0_0 a1).bind fun t448 => (if t448 < 0 then (some (-1)) else (some t448))
set_option maxHeartbeats 8000000 in
set_option maxRecDepth 100000 in
theorem laws_heldStack.calls (k : Nat) (A0_0 : Option Addr) (c0_0 : Nat) (l0_0 : List Int) (a0_1 : Int) (a1 : Int) (r : Int) (w : World) (hr0_0 : Kd.C (Kd.int .i64) w A0_0 l0_0.length l0_0) (hc0_0 : l0_0.length ≤ c0_0) (h : laws_heldStack.f k l0_0 a0_1 a1 = some r) :
    Calls Try.prog 33 #[.agg #[.slice A0_0 l0_0.length c0_0, .int .i64 a0_1], .int .i64 a1] w fun e w' => e = .returned (.int .i64 r) ∧ Below w.heap.size w w' := by
  have hu27 := Try.underlying27
  have HR0_0 := Aside0.mk hr0_0
  have HC0_0 := Aside0.mk hc0_0
  clear hr0_0 hc0_0
  have HB := Aside0.mk (Below.refl w.heap.size w)
  have H : ((laws_heldIntS.f k l0_0 a1).bind fun t448 => (if t448 < 0 then (some (-1)) else (some t448))) = some r := h
  clear h
  replace H := Option.bind_eq_some_iff.mp H
  obtain ⟨t448, A30, H⟩ := H
  replace H : (if t448 < 0 then (some (-1)) else (some t448)) = some r := H
  have A3 := Aside0.mk A30
  clear A30
  by_cases c4 : t448 < 0
  · rw [if_pos c4] at H
    have c4b0 : decide (t448 < 0) = true := decide_eq_true c4
    clear c4
    obtain rfl := Option.some.inj H
    go_enter Try.func33, Try.ntmps33
    go_wp2_with (first | ((with_reducible refine gate_dst (N := 2) rfl ?_); refine box_event ?hg (N := 2) ?hd (cs := #[.slice A0_0 l0_0.length c0_0, .int .i64 a0_1]) (t := 27) ?hr ?_; (case hd => rfl); (case hg => rfl); (case hr => first | (go_simp; done) | (go_simp; rfl)); intro gb447 hg w5 hbox hb; have n0_ := Aside0.mk (below_step (by repeat (first | (with_reducible first | exact HB.out | apply below_alloc | apply pw_below_drewN | apply below_drew1) | exact HB.out)) hb); have n1_ := Aside0.mk (hbox); have n2_ := Aside0.mk ((by rw [hg]; exact (below_size (by repeat (first | (with_reducible first | exact HB.out | apply below_alloc | apply pw_below_drewN | apply below_drew1) | exact HB.out))) : w.heap.size ≤ gb447)); have n3_ := Aside0.mk ((by rw [hg]; exact (below_size (by repeat (first | (with_reducible first | exact HB.out | apply below_alloc | apply pw_below_drewN | apply below_drew1) | exact HB.out))) : w.heap.size ≤ gb447)); clear HB; have HB := n0_; have BK447 := n1_; have GW447 := n2_; have GE447 := n3_; clear n0_ n1_ n2_ n3_; clear hb hbox hg; have hcz6_0 : w5.cell? ⟨gb447, 0, none⟩ = some (.slice A0_0 l0_0.length c0_0) := (blk_cell BK447.out 0).trans rfl; have hcz6_1 : w5.cell? ⟨gb447, 1, none⟩ = some (.int .i64 a0_1) := (blk_cell BK447.out 1).trans rfl; have hfz6_0 := blk_frozen BK447.out 0; have hfz6_1 := blk_frozen BK447.out 1) | ((with_reducible refine gate_callee (f := 31) rfl ?_); refine goesL_ (some 8) rfl rfl Try.func31 (by kernel_rfl) rfl #[.slice A0_0 l0_0.length c0_0, .int .i64 a1] rfl (by (try simp only [List.map_toArray, List.map_cons, List.map_nil]); first | done | rfl | (simp only [List.length_drop, List.length_take]; rfl)) ?_; (with_reducible refine (laws_heldIntS.calls k _ _ l0_0 a1 t448 _ ?side1 ?side2 A3.out).mono ?_); (case side1 => repeat (first | exact (Kd.C_below HR0_0.out HB.out) | (with_reducible refine Kd.C_alloc ?_ _) | (with_reducible refine Kd.C_drewN ?_ _) | (with_reducible refine Kd.C_drew ?_))); (case side2 => exact HC0_0.out); rintro e w' ⟨rfl, ⟨nd, rfl⟩⟩; refine ⟨_, rfl, ?_⟩))
    go_ret
    exact ⟨by first | rfl | (simp [errW_none, errW_some] <;> rfl) | (simp [*, errW_none, errW_some] <;> rfl), by repeat (first | (with_reducible first | exact HB.out | apply below_alloc | apply pw_below_drewN | apply below_drew1 | refine below_set ?_ GE447.out) | exact HB.out)⟩
  · rw [if_neg c4] at H
    have c4b0 : decide (t448 < 0) = false := decide_eq_false c4
    clear c4
    obtain rfl := Option.some.inj H
    go_enter Try.func33, Try.ntmps33
    go_wp2_with (first | ((with_reducible refine gate_dst (N := 2) rfl ?_); refine box_event ?hg (N := 2) ?hd (cs := #[.slice A0_0 l0_0.length c0_0, .int .i64 a0_1]) (t := 27) ?hr ?_; (case hd => rfl); (case hg => rfl); (case hr => first | (go_simp; done) | (go_simp; rfl)); intro gb447 hg w7 hbox hb; have n0_ := Aside0.mk (below_step (by repeat (first | (with_reducible first | exact HB.out | apply below_alloc | apply pw_below_drewN | apply below_drew1) | exact HB.out)) hb); have n1_ := Aside0.mk (hbox); have n2_ := Aside0.mk ((by rw [hg]; exact (below_size (by repeat (first | (with_reducible first | exact HB.out | apply below_alloc | apply pw_below_drewN | apply below_drew1) | exact HB.out))) : w.heap.size ≤ gb447)); have n3_ := Aside0.mk ((by rw [hg]; exact (below_size (by repeat (first | (with_reducible first | exact HB.out | apply below_alloc | apply pw_below_drewN | apply below_drew1) | exact HB.out))) : w.heap.size ≤ gb447)); clear HB; have HB := n0_; have BK447 := n1_; have GW447 := n2_; have GE447 := n3_; clear n0_ n1_ n2_ n3_; clear hb hbox hg; have hcz8_0 : w7.cell? ⟨gb447, 0, none⟩ = some (.slice A0_0 l0_0.length c0_0) := (blk_cell BK447.out 0).trans rfl; have hcz8_1 : w7.cell? ⟨gb447, 1, none⟩ = some (.int .i64 a0_1) := (blk_cell BK447.out 1).trans rfl; have hfz8_0 := blk_frozen BK447.out 0; have hfz8_1 := blk_frozen BK447.out 1) | ((with_reducible refine gate_callee (f := 31) rfl ?_); refine goesL_ (some 8) rfl rfl Try.func31 (by kernel_rfl) rfl #[.slice A0_0 l0_0.length c0_0, .int .i64 a1] rfl (by (try simp only [List.map_toArray, List.map_cons, List.map_nil]); first | done | rfl | (simp only [List.length_drop, List.length_take]; rfl)) ?_; (with_reducible refine (laws_heldIntS.calls k _ _ l0_0 a1 t448 _ ?side1 ?side2 A3.out).mono ?_); (case side1 => repeat (first | exact (Kd.C_below HR0_0.out HB.out) | (with_reducible refine Kd.C_alloc ?_ _) | (with_reducible refine Kd.C_drewN ?_ _) | (with_reducible refine Kd.C_drew ?_))); (case side2 => exact HC0_0.out); rintro e w' ⟨rfl, ⟨nd, rfl⟩⟩; refine ⟨_, rfl, ?_⟩))
    go_ret
    exact ⟨by first | rfl | (simp [errW_none, errW_some] <;> rfl) | (simp [*, errW_none, errW_some] <;> rfl), by repeat (first | (with_reducible first | exact HB.out | apply below_alloc | apply pw_below_drewN | apply below_drew1 | refine below_set ?_ GE447.out) | exact HB.out)⟩
end Go.Proofs.Ytpmkgeemopcahaa.F
end
section
/- The laws' helpers on a stack. -/
namespace Go.Proofs.Ytpmkgeemopcahaa.F
open Go.RowKit Go.Proofs.YtpmkgeemopcahaaW.PrintWords Go.Proofs.YtpmkgeemopcahaaW.PrintLast Go.Proofs.YtpmkgeemopcahaaW.PrintMore
set_option linter.unusedVariables false
set_option linter.unusedSimpArgs false
theorem markStack_ev (l : List Int) (n a : Int) (hl : l.length ≤ 1152921504606846976) (h0 : 0 ≤ a) (h1 : a ≤ 1152921504606846976) : Ev (fun k => laws_markStack.f k l n a) (a + l.length, seqFrom a l.length) := by
  unfold laws_markStack.f
  exact Ev.bind (markIntS_ev l a hl h0 h1) (Ev.now _)
theorem heldStack_ev (m : Nat) (n a : Int) (hl : m ≤ 1152921504606846976) (h0 : 0 ≤ a) (h1 : a ≤ 1152921504606846976) : Ev (fun k => laws_heldStack.f k (seqFrom a m) n a) (a + m) := by
  unfold laws_heldStack.f
  refine Ev.bind (heldIntS_ev m a hl h0 h1) ?_
  simp only [if_neg (show ¬ (a + (m : Int) < 0) by omega)]
  exact Ev.now _
end Go.Proofs.Ytpmkgeemopcahaa.F
end
