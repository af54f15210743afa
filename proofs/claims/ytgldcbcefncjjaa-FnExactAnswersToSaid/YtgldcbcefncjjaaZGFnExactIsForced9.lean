import Derived.Test.YtgldcbcefncjjaaZGFnExactIsForced6
import Derived.Test.YtgldcbcefncjjaaZGFnExactIsForced4
import Derived.Test.YtgldcbcefncjjaaZGFnExactIsForced7
import Derived.Test.YtgldcbcefncjjaaZGFnExactIsForced8
section
/- The reference's sorting by insertion. -/
namespace Go.Proofs.Ytgldcbcefncjjaa.F
open Go.RowKit Go.Proofs.YtgldcbcefncjjaaW.PrintWords Go.Proofs.YtgldcbcefncjjaaW.PrintLast Go.Proofs.YtgldcbcefncjjaaW.PrintMore
set_option linter.unusedVariables false
set_option linter.unusedSimpArgs false
def insB (x : Int) : List Int → List Int → List Int
  | [], b => x :: b
  | y :: ra, b => if y > x then insB x ra (y :: b) else (y :: ra).reverse ++ x :: b
theorem insB_perm (x : Int) (ra : List Int) : ∀ b, (insB x ra b).Perm (x :: (ra.reverse ++ b)) := by
  induction ra with
  | nil => intro b; exact List.Perm.refl _
  | cons y ra ih =>
    intro b
    unfold insB
    by_cases h : y > x
    · rw [if_pos h]
      have := ih (y :: b)
      simpa using this
    · rw [if_neg h]
      exact List.perm_middle
theorem insB_sorted (x : Int) (ra : List Int) : ∀ b, (ra.reverse ++ b).Pairwise (· ≤ ·) → (∀ y ∈ b, x ≤ y) → (insB x ra b).Pairwise (· ≤ ·) := by
  induction ra with
  | nil =>
    intro b h1 h2
    exact List.pairwise_cons.2 ⟨h2, by simpa using h1⟩
  | cons y ra ih =>
    intro b h1 h2
    unfold insB
    by_cases h : y > x
    · rw [if_pos h]
      refine ih (y :: b) (by simpa using h1) (fun z hz => ?_)
      rcases List.mem_cons.1 hz with rfl | hz
      · omega
      · exact h2 z hz
    · rw [if_neg h]
      rw [List.pairwise_append] at h1 ⊢
      obtain ⟨p1, p2, p3⟩ := h1
      refine ⟨p1, List.pairwise_cons.2 ⟨h2, p2⟩, fun a ha z hz => ?_⟩
      rcases List.mem_cons.1 hz with rfl | hz
      · have hay : a ≤ y := by
          rw [List.reverse_cons, List.pairwise_append] at p1
          rw [List.reverse_cons, List.mem_append] at ha
          rcases ha with ha | ha
          · exact p1.2.2 a ha y (by simp)
          · rw [List.mem_singleton.1 ha]; exact Int.le_refl _
        omega
      · exact p3 a ha z hz
def isortI (l : List Int) (s : List Int) : List Int := match l with
  | [] => s
  | x :: xs => isortI xs (insB x s.reverse [])
theorem rd_rev (ra : List Int) (y : Int) (t : List Int) : rd (ra.reverse ++ y :: t) (ra.length : Int) = y := by
  have := mid_rd ra.reverse y t
  rwa [List.length_reverse] at this
theorem sorted_in (x : Int) (X : List Int) (n i : Int) (r : List Int) : ∀ (ra b : List Int) (g : Int), ra.length ≤ 1048576 →
    Ev (fun k => spec_l13Sorted.l0 k (insB x ra b) X n (wrap64 (i + 1))) r → Ev (fun k => spec_l13Sorted.l1 k (ra.reverse ++ g :: b) x (ra.length : Int) X n i) r := by
  intro ra
  induction ra with
  | nil =>
    intro b g hb h
    refine Ev.step (fun k => ?_) h
    show spec_l13Sorted.l1 (k + 1) ([] ++ g :: b) x 0 X n i = _
    rw [spec_l13Sorted.l1, if_neg (by omega), if_pos (by omega), if_pos (by simp; try omega)]
    rfl
  | cons y ra ih =>
    intro b g hb h
    have hb' : ra.length ≤ 1048576 := by simp at hb; omega
    have hw : wrap64 (((y :: ra).length : Int) - 1) = (ra.length : Int) := by rw [w64_id (by simp; try omega) (by simp at hb ⊢; try omega)]; simp
    have e : (y :: ra).reverse ++ g :: b = ra.reverse ++ y :: g :: b := by simp
    have hl : (ra.length : Int) < ((ra.reverse ++ y :: g :: b).length : Int) := by simp; omega
    have hl2 : ((y :: ra).length : Int) < ((ra.reverse ++ y :: g :: b).length : Int) := by simp; omega
    have hs : ∀ v, (ra.reverse ++ y :: g :: b).set ((y :: ra).length : Int).toNat v = (y :: ra).reverse ++ v :: b := by
      intro v
      have := mid_set (y :: ra).reverse g v b
      rw [List.length_reverse] at this
      rw [← e, this]
      simp
    have hr := rd_rev ra y (g :: b)
    unfold insB at h
    by_cases hy : y > x
    · rw [if_pos hy] at h
      have h2 := ih (y :: b) y hb' h
      refine Ev.step (fun k => ?_) h2
      show spec_l13Sorted.l1 (k + 1) ((y :: ra).reverse ++ g :: b) x ((y :: ra).length : Int) X n i = _
      rw [e, spec_l13Sorted.l1, if_pos (by simp; try omega), hw, if_pos (nn _), if_pos hl, hr, if_pos hy, if_pos (nn _), if_pos hl2, hs]
      simp
    · rw [if_neg hy] at h
      refine Ev.step (fun k => ?_) h
      show spec_l13Sorted.l1 (k + 1) ((y :: ra).reverse ++ g :: b) x ((y :: ra).length : Int) X n i = _
      rw [e, spec_l13Sorted.l1, if_pos (by simp; try omega), hw, if_pos (nn _), if_pos hl, hr, if_neg hy, if_pos (nn _), if_pos hl2, hs]
theorem sorted_at (rest : List Int) : ∀ (pre s : List Int), (pre ++ rest).length ≤ 1048576 → s.length = pre.length →
    Ev (fun k => spec_l13Sorted.l0 k s (pre ++ rest) ((pre ++ rest).length : Int) (pre.length : Int)) (isortI rest s) := by
  induction rest with
  | nil =>
    intro pre s hb hs
    refine Ev.step (f := fun _ => some s) (fun k => ?_) (Ev.now _)
    show spec_l13Sorted.l0 (k + 1) _ _ _ _ = _
    rw [spec_l13Sorted.l0, if_neg (mid_nlt _)]
  | cons x rest ih =>
    intro pre s hb hs
    have hlen : (insB x s.reverse []).length = s.length + 1 := by rw [(insB_perm x s.reverse []).length_eq]; simp
    have h := ih (pre ++ [x]) (insB x s.reverse []) (by simpa using hb) (by rw [hlen, hs]; simp)
    rw [← mid_cons, ← mid_succ pre x (by simp at hb; omega)] at h
    have hb1 : s.length ≤ 1048576 := by simp at hb; omega
    have h2 := sorted_in x (pre ++ x :: rest) ((pre ++ x :: rest).length : Int) (pre.length : Int) _ s.reverse [] 0 (by simpa using hb1) h
    rw [List.reverse_reverse, List.length_reverse] at h2
    have hw : wrap64 (((s ++ [0]).length : Int) - 1) = (s.length : Int) := by rw [w64_id (by simp; try omega) (by simp; try omega)]; simp
    refine Ev.step (fun k => ?_) h2
    show spec_l13Sorted.l0 (k + 1) _ _ _ _ = _
    rw [spec_l13Sorted.l0, if_pos (mid_lt _ _ _), if_pos (nn _), if_pos (mid_lt _ _ _), if_pos (by omega), Option.bind_some, mid_rd, hw]
theorem isortI_perm (l : List Int) : ∀ s, (isortI l s).Perm (s ++ l) := by
  induction l with
  | nil => intro s; simp [isortI]
  | cons x xs ih =>
    intro s
    unfold isortI
    refine (ih _).trans ?_
    have := insB_perm x s.reverse []
    simp only [List.reverse_reverse, List.append_nil] at this
    exact (this.append_right xs).trans (by rw [List.cons_append]; exact List.perm_middle.symm)
theorem isortI_sorted (l : List Int) : ∀ s, s.Pairwise (· ≤ ·) → (isortI l s).Pairwise (· ≤ ·) := by
  induction l with
  | nil => intro s h; exact h
  | cons x xs ih =>
    intro s h
    unfold isortI
    exact ih _ (insB_sorted x s.reverse [] (by simpa using h) (fun y hy => by cases hy))
theorem sortedS_ev (l : List Int) (hb : l.length ≤ 1048576) : Ev (fun k => spec_l13Sorted.f k l) (isortI l []) := sorted_at l [] [] hb rfl
end Go.Proofs.Ytgldcbcefncjjaa.F
end
section
/- The ends of a force: sorted, each once. -/
namespace Go.Proofs.Ytgldcbcefncjjaa.F
open Go.RowKit Go.Proofs.YtgldcbcefncjjaaW.PrintWords Go.Proofs.YtgldcbcefncjjaaW.PrintLast Go.Proofs.YtgldcbcefncjjaaW.PrintMore
set_option linter.unusedVariables false
set_option linter.unusedSimpArgs false
open Go.Lib in
theorem cs_congr {a b : List Int} (h : ∀ z, z ∈ a ↔ z ∈ b) : compact (sortI a) = compact (sortI b) :=
  asc_unique (compact_asc _ (sortI_sorted a)) (compact_asc _ (sortI_sorted b)) (fun z => by rw [compact_mem, compact_mem, sortI_mem, sortI_mem, h])
open Go.Lib in
theorem isort_cs (a : List Int) (hn : a.Nodup) : isortI a [] = compact (sortI a) := by
  have hp : (isortI a []).Perm a := by have := isortI_perm a []; simpa using this
  have hs := isortI_sorted a [] List.Pairwise.nil
  have hd : (isortI a []).Nodup := hp.nodup_iff.2 hn
  refine asc_unique ?_ (compact_asc _ (sortI_sorted a)) (fun z => by rw [compact_mem, sortI_mem, hp.mem_iff])
  exact (hs.and hd).imp (fun {x y} h => by have h1 := h.1; have h2 := h.2; omega)
/-- The objects at a force's ends. -/
def leaves (l : List IN) : List Int := (l.filter fun x => decide (x.f1.length = 0)).map fun x => x.f2
theorem leaves_yes (x : IN) (l : List IN) (h : x.f1.length = 0) : leaves (x :: l) = x.f2 :: leaves l := by
  unfold leaves
  rw [List.filter_cons_of_pos (by simpa using h), List.map_cons]
theorem leaves_no (x : IN) (l : List IN) (h : ¬ x.f1.length = 0) : leaves (x :: l) = leaves l := by
  unfold leaves
  rw [List.filter_cons_of_neg (by simpa using h)]
open Go.Lib in
theorem impl_ends_at (rest : List IN) : ∀ (pre : List IN) (acc : List Int), (pre ++ rest).length ≤ 1048576 → acc.length ≤ pre.length →
    Ev (fun k => impl_EndsOf.l0 k acc (pre ++ rest) ((pre ++ rest).length : Int) (pre.length : Int)) (compact (sortI (acc ++ leaves rest))) := by
  induction rest with
  | nil =>
    intro pre acc hb ha
    refine Ev.step (f := fun _ => some (compact (sortI (acc ++ leaves [])))) (fun k => ?_) (Ev.now _)
    show impl_EndsOf.l0 (k + 1) _ _ _ _ = _
    rw [impl_EndsOf.l0, if_neg (mid_nlt _), if_pos (by simp at hb; omega), show acc ++ leaves [] = acc by simp [leaves]]
  | cons x rest ih =>
    intro pre acc hb ha
    have hp : pre.length ≤ 1048576 := by simp at hb; omega
    by_cases c : x.f1.length = 0
    · have h := ih (pre ++ [x]) (acc ++ [x.f2]) (by simpa using hb) (by simpa using ha)
      rw [← mid_cons, ← mid_succ pre x (by omega)] at h
      rw [leaves_yes x rest c, show acc ++ x.f2 :: leaves rest = acc ++ [x.f2] ++ leaves rest by simp]
      refine Ev.step (fun k => ?_) h
      show impl_EndsOf.l0 (k + 1) _ _ _ _ = _
      rw [impl_EndsOf.l0, if_pos (mid_lt _ _ _), if_pos (nn _), if_pos (mid_lt _ _ _), mid_rdIN, if_pos (by omega), if_pos (by omega)]
    · have h := ih (pre ++ [x]) acc (by simpa using hb) (by simp; omega)
      rw [← mid_cons, ← mid_succ pre x (by omega)] at h
      rw [leaves_no x rest c]
      refine Ev.step (fun k => ?_) h
      show impl_EndsOf.l0 (k + 1) _ _ _ _ = _
      rw [impl_EndsOf.l0, if_pos (mid_lt _ _ _), if_pos (nn _), if_pos (mid_lt _ _ _), mid_rdIN, if_neg (by omega)]
open Go.Lib in
theorem spec_ends_at (rest : List IN) : ∀ (pre : List IN) (acc : List Int), (pre ++ rest).length ≤ 1048576 → acc.length ≤ pre.length → acc.Nodup →
    Ev (fun k => spec_EndsOf.l0 k acc (pre ++ rest) ((pre ++ rest).length : Int) (pre.length : Int)) (compact (sortI (acc ++ leaves rest))) := by
  induction rest with
  | nil =>
    intro pre acc hb ha hn
    have h := sortedS_ev acc (by simp at hb; omega)
    rw [show acc ++ leaves [] = acc by simp [leaves], ← isort_cs acc hn]
    refine Ev.stepb h (fun k => by rw [spec_EndsOf.l0, if_neg (mid_nlt _)]) ?_
    exact Ev.now _
  | cons x rest ih =>
    intro pre acc hb ha hn
    have hp : pre.length ≤ 1048576 := by simp at hb; omega
    by_cases c : x.f1.length = 0
    · rw [leaves_yes x rest c]
      have hh := l02Has_ev acc x.f2 (by omega)
      refine Ev.stepb hh (fun k => by rw [spec_EndsOf.l0, if_pos (mid_lt _ _ _), if_pos (nn _), if_pos (mid_lt _ _ _), mid_rdIN, if_pos (by omega)]) ?_
      by_cases d : acc.contains x.f2 = true
      · have h := ih (pre ++ [x]) acc (by simpa using hb) (by simp; omega) hn
        rw [← mid_cons, ← mid_succ pre x (by omega)] at h
        simp only [d, if_true]
        rw [cs_congr (a := acc ++ x.f2 :: leaves rest) (b := acc ++ leaves rest) (fun z => by
          have hm : x.f2 ∈ acc := by simpa using d
          simp only [List.mem_append, List.mem_cons]
          constructor
          · rintro (h | rfl | h)
            · exact Or.inl h
            · exact Or.inl hm
            · exact Or.inr h
          · rintro (h | h)
            · exact Or.inl h
            · exact Or.inr (Or.inr h))]
        exact h
      · have d' : acc.contains x.f2 = false := by simpa using d
        have h := ih (pre ++ [x]) (acc ++ [x.f2]) (by simpa using hb) (by simpa using ha) (by
          rw [List.nodup_append]
          refine ⟨hn, by simp, fun a h1 b h2 => ?_⟩
          rw [List.mem_singleton.1 h2]
          intro e
          subst e
          simp [h1] at d')
        rw [← mid_cons, ← mid_succ pre x (by omega)] at h
        simp only [d', Bool.false_eq_true, if_false, if_pos (show acc.length < 17592186044416 by omega)]
        rw [show acc ++ x.f2 :: leaves rest = acc ++ [x.f2] ++ leaves rest by simp]
        exact h
    · have h := ih (pre ++ [x]) acc (by simpa using hb) (by simp; omega) hn
      rw [← mid_cons, ← mid_succ pre x (by omega)] at h
      rw [leaves_no x rest c]
      refine Ev.step (fun k => ?_) h
      show spec_EndsOf.l0 (k + 1) _ _ _ _ = _
      rw [spec_EndsOf.l0, if_pos (mid_lt _ _ _), if_pos (nn _), if_pos (mid_lt _ _ _), mid_rdIN, if_neg (by omega)]
/-- What both answer. -/
def endsR (l : List IN) : List Int := if forceB l = true then Go.Lib.compact (sortI (leaves l)) else []
theorem impl_ends_ev (l : List IN) (hb : l.length ≤ 1048576) (hx : ∀ x ∈ l, x.f1.length ≤ 4611686018427387904) : Ev (fun k => impl_EndsOf.f k l) (endsR l) := by
  unfold impl_EndsOf.f endsR
  refine Ev.bind (impl_Force_ev l hx) ?_
  by_cases c : forceB l = true
  · simp only [if_pos c]
    exact impl_ends_at l [] [] hb (Nat.le_refl _)
  · simp only [if_neg c]
    exact Ev.now _
theorem spec_ends_ev (l : List IN) (hb : l.length ≤ 1048576) (hx : ∀ x ∈ l, x.f1.length ≤ 4611686018427387904) : Ev (fun k => spec_EndsOf.f k l) (endsR l) := by
  unfold spec_EndsOf.f endsR
  refine Ev.bind (spec_Force_ev l hx) ?_
  by_cases c : forceB l = true
  · simp only [if_pos c]
    exact spec_ends_at l [] [] hb (Nat.le_refl _) List.nodup_nil
  · simp only [if_neg c]
    exact Ev.now _
theorem endsR_len (l : List IN) (hb : l.length ≤ 1048576) : (endsR l).length ≤ 1048576 := by
  unfold endsR
  split
  · have h1 : (Go.Lib.compact (sortI (leaves l))).length ≤ (sortI (leaves l)).length := by
      unfold Go.Lib.compact Go.Lib.compactUpTo
      rw [List.length_map]
      have := List.length_filter_le (Go.Lib.keeps (sortI (leaves l)).toArray) (List.range (sortI (leaves l)).length)
      simpa using this
    have h2 : (sortI (leaves l)).length = (leaves l).length := by unfold sortI; simp
    have h3 : (leaves l).length ≤ l.length := by
      unfold leaves
      rw [List.length_map]
      exact List.length_filter_le _ _
    omega
  · simp
end Go.Proofs.Ytgldcbcefncjjaa.F
end
section
/- Laid by a program of this claim's own. What the Go function does, as a Lean function, and the proof that the Go code does just that; Lean checks it. -/
namespace Go.Proofs.Ytgldcbcefncjjaa.F
open Go.RowKit Go.Proofs.YtgldcbcefncjjaaW.PrintWords Go.Proofs.YtgldcbcefncjjaaW.PrintLast Go.Proofs.YtgldcbcefncjjaaW.PrintMore
attribute [local go_sem] max2_int min2_int max_two min_two max_three min_three max_four min_four   -- for this text's walks alone
set_option linter.unusedVariables false
set_option linter.unusedSimpArgs false
/-! ### laws_markText: function 55 -/
def laws_markText.l0 : Nat → Int → ByteArray → Option (ByteArray)
  | 0, _, _ => none
  | k + 1, x0, x3 => if x0 > 0 then ((some (([(wrap64 (48 + (Int.tmod x0 10))) % 256] : List Int) : List Int)).bind fun y157 => (if (strOfNums y157).size + x3.size ≤ 9223372036854775807 then (laws_markText.l0 k (wrap64 (Int.tdiv x0 10)) ((strOfNums y157) ++ x3)) else (none))) else (if 1 + x3.size ≤ 9223372036854775807 then (some ((⟨#[109]⟩ : ByteArray) ++ x3)) else (none))
def laws_markText.f (k : Nat) (a0 : Int) : Option (ByteArray) := if a0 ≤ 0 then (some (⟨#[109, 48]⟩ : ByteArray)) else (laws_markText.l0 k a0 (⟨#[]⟩ : ByteArray))
set_option maxHeartbeats 8000000 in
set_option maxRecDepth 100000 in
theorem laws_markText.calls (k : Nat) (a0 : Int) (r : ByteArray) (w : World) (h : laws_markText.f k a0 = some r) :
    Calls Try.prog 55 #[.int .i64 a0] w fun e w' => e = .returned (.string r) ∧ Below w.heap.size w w' := by
  have HB := Aside0.mk (Below.refl w.heap.size w)
  have H : (if a0 ≤ 0 then (some (⟨#[109, 48]⟩ : ByteArray)) else (laws_markText.l0 k a0 (⟨#[]⟩ : ByteArray))) = some r := h
  clear h
  by_cases c2 : a0 ≤ 0
  · rw [if_pos c2] at H
    have c2b0 : decide (a0 ≤ 0) = true := decide_eq_true c2
    clear c2
    obtain rfl := Option.some.inj H
    go_enter Try.func55, Try.ntmps55
    go_wp2
    go_ret
    exact ⟨by first | rfl | (simp [errW_none, errW_some] <;> rfl) | (simp [*, errW_none, errW_some] <;> rfl), by repeat (first | (with_reducible first | exact HB.out | apply below_alloc | apply pw_below_drewN | apply below_drew1) | exact HB.out)⟩
  · rw [if_neg c2] at H
    have c2b0 : decide (a0 ≤ 0) = false := decide_eq_false c2
    clear c2
    have H' := Aside0.mk H
    clear H
    go_enter Try.func55, Try.ntmps55
    go_wp2
    go_loopg [0, 3] k (fun kq v0 v3 w' => ∃ (x0_1 : Int) (x3_1 : ByteArray), v0 = .int .i64 x0_1 ∧ v3 = .string x3_1 ∧ Aside0 (laws_markText.l0 kq x0_1 x3_1 = some r) ∧ Aside0 (kq ≤ k) ∧ Aside0 (Below w.heap.size w w'))
    case atStart => exact ⟨(a0), ((⟨#[]⟩ : ByteArray)), (by first | rfl | (simp; done) | (simp [*]; done)), (by first | rfl | (simp; done) | (simp [*]; done)), H', ⟨Nat.le_refl _⟩, ⟨by repeat (first | (with_reducible first | exact HB.out | apply below_alloc | apply pw_below_drewN | apply below_drew1) | exact HB.out)⟩⟩
    case round =>
      clear H'
      try clear c2
      try clear c2b0
      try clear p2
      obtain ⟨x0_1, x3_1, rfl, rfl, HA, HK1, HB⟩ := hrel
      cases gk with
      | zero => exact absurd HA.out (by simp [laws_markText.l0])
      | succ k1 =>
        have H := HA.out
        clear HA
        simp only [laws_markText.l0] at H
        by_cases c3 : x0_1 > 0
        · rw [if_pos c3] at H
          have c3b0 : decide (0 < x0_1) = true := decide_eq_true c3
          clear c3
          obtain ⟨y157, hy157⟩ : ∃ y_ : List Int, y_ = (([(wrap64 (48 + (Int.tmod x0_1 10))) % 256] : List Int)) := ⟨_, rfl⟩
          replace H : (if (strOfNums y157).size + x3_1.size ≤ 9223372036854775807 then (laws_markText.l0 k1 (wrap64 (Int.tdiv x0_1 10)) ((strOfNums y157) ++ x3_1)) else (none)) = some r := by first | (rw [hy157]; with_reducible exact H) | (have H2_ := (Option.bind_some _ _).symm.trans H; rw [hy157]; with_reducible exact H2_) | (have H2_ := (Option.bind_some _ _).symm.trans H; with_reducible exact H2_) | with_reducible exact H | (rw [hy157]; exact H) | exact H
          have Ny157 := Aside0.mk hy157
          clear hy157
          by_cases c4 : (strOfNums y157).size + x3_1.size ≤ 9223372036854775807
          · rw [if_pos c4] at H
            have c4b0 := eq_true c4
            have c4b1 : decide ((strOfNums y157).size + x3_1.size ≤ 9223372036854775807) = true := decide_eq_true c4
            try have c4b2 : (9223372036854775807 < (strOfNums y157).size + x3_1.size) = False := eq_false (Nat.not_lt.2 c4)
            have H' := Aside0.mk H
            clear H
            go_wp2_with (first | ((with_reducible refine gate_dst (N := 12) rfl ?_); refine Kd.R_lit (Kd.int .u8) _ 5 ?hg (N := 12) ?hd (xs := ([(wrap64 (48 + (Int.tmod x0_1 10))) % 256] : List Int)) (inner := [.int .u8 ((wrap64 (48 + (Int.tmod x0_1 10))) % 256)]) (ok := fun _ => True) (okp := fun _ => True) ?hr ?hp (fun _ hk => hk) trivial (Below.refl _ _) (Nat.le_refl _) (by simp) ?_; (case hd => rfl); (case hg => rfl); (case hr => first | (go_simp; done) | (go_simp; rfl)); (case hp => exact (Reps.one (show Kd.M (Kd.int .u8) _ _ _ ((wrap64 (48 + (Int.tmod x0_1 10))) % 256) [.int .u8 ((wrap64 (48 + (Int.tmod x0_1 10))) % 256)] from rfl) (Reps.none _ _))); intro v158 w5 ho6 hb hg_ hnew_; clear hg_ hnew_; (first | rw [← Ny157.out] at ho6 | (simp only [Int.reduceToNat] at ho6; rw [← Ny157.out] at ho6)); have n0_ := Aside0.mk (Kd.R_lower ho6 (below_size (by repeat (first | (with_reducible first | exact HB.out | apply below_alloc | apply pw_below_drewN | apply below_drew1) | exact HB.out)))); have n1_ := Aside0.mk (below_step (by repeat (first | (with_reducible first | exact HB.out | apply below_alloc | apply pw_below_drewN | apply below_drew1) | exact HB.out)) hb); clear HB; have HO159 := n0_; have HB := n1_; clear n0_ n1_; clear hb ho6; have hcv7 := own_string (P := Try.prog) Try.underlying41 Try.underlying5 Try.underlying9 (Kd.own_of_R HO159.out)))
            go_roundg k1
            case measure => have := HK1.out; omega
            case rel => exact ⟨(wrap64 (Int.tdiv x0_1 10)), ((strOfNums y157) ++ x3_1), (by first | rfl | (simp; done) | (simp [*]; done)), (by first | rfl | (simp; done) | (simp [*]; done)), H', ⟨by have := HK1.out; omega⟩, ⟨by repeat (first | (with_reducible first | exact HB.out | apply below_alloc | apply pw_below_drewN | apply below_drew1) | exact HB.out)⟩⟩
          · rw [if_neg c4] at H
            exact absurd H (by simp)
        · rw [if_neg c3] at H
          have c3b0 : decide (0 < x0_1) = false := decide_eq_false c3
          clear c3
          by_cases c8 : 1 + x3_1.size ≤ 9223372036854775807
          · rw [if_pos c8] at H
            have c8b0 := eq_true c8
            have c8b1 : decide (1 + x3_1.size ≤ 9223372036854775807) = true := decide_eq_true c8
            try have c8b2 : (9223372036854775807 < 1 + x3_1.size) = False := eq_false (Nat.not_lt.2 c8)
            obtain rfl := Option.some.inj H
            go_wp2
            go_ret
            exact ⟨by first | rfl | (simp [errW_none, errW_some] <;> rfl) | (simp [*, errW_none, errW_some] <;> rfl), by repeat (first | (with_reducible first | exact HB.out | apply below_alloc | apply pw_below_drewN | apply below_drew1) | exact HB.out)⟩
          · rw [if_neg c8] at H
            exact absurd H (by simp)
end Go.Proofs.Ytgldcbcefncjjaa.F
end
section
/- Laid by a program of this claim's own. What the Go function does, as a Lean function, and the proof that the Go code does just that; Lean checks it. -/
namespace Go.Proofs.Ytgldcbcefncjjaa.F
open Go.RowKit Go.Proofs.YtgldcbcefncjjaaW.PrintWords Go.Proofs.YtgldcbcefncjjaaW.PrintLast Go.Proofs.YtgldcbcefncjjaaW.PrintMore
attribute [local go_sem] max2_int min2_int max_two min_two max_three min_three max_four min_four   -- for this text's walks alone
set_option linter.unusedVariables false
set_option linter.unusedSimpArgs false
/-! ### laws_markNodeS: function 19 -/
section
variable {α : Type} {d : Kd α} {e g n cap : Nat} {w : World} {base : Nat} {ok oki : Nat → Prop} {xs : List α} {i : Int} {c : List Value}
/-- An element that is lent: its cells. -/
theorem HRow.cells (h : Kd.H d e w base ok (.slice (some ⟨g, 0, none⟩) n cap) xs i oki c) (h0 : 0 ≤ i) (h1 : i < n) :
    (∀ j u, c[j]? = some u → w.cell? ⟨g, i.toNat * d.sz + j, none⟩ = some u) ∧ (∀ j, w.frozen? ⟨g, i.toNat * d.sz + j, none⟩ = false) := by
  obtain ⟨rows, hl, hraw, hcl, hco, hcc, _⟩ := Kd.H_raw h h0 h1
  obtain ⟨_, _, _, _, hfr⟩ := Kd.R_elem hraw [] i h0 h1
  exact ⟨hcc, hfr⟩
theorem HRow.lt (h : Kd.H d e w base ok (.slice (some ⟨g, 0, none⟩) n cap) xs i oki c) (h0 : 0 ≤ i) (h1 : i < n) : g < w.heap.size := by
  obtain ⟨rows, hl, hraw, _⟩ := Kd.H_raw h h0 h1
  exact Kd.R_lt hraw g (by simp [Value.ownBlock])
end
def laws_markNodeS.l0 : Nat → List S49 → Int → Int → Option (Int × List S49)
  | 0, _, _, _ => none
  | k + 1, x0, x1, x5 => if x5 < (x0.length : Int) then (if 0 ≤ x5 then ((laws_markText.f k x1).bind fun t => (laws_markIntS.f k (x0.getD x5.toNat z49).f1 (wrap64 (x1 + 1))).bind fun b => (laws_markNodeS.l0 k (x0.set x5.toNat ⟨t, b.2, b.1⟩) (wrap64 (b.1 + 1)) (wrap64 (x5 + 1)))) else (none)) else (some (x1, x0))
def laws_markNodeS.f (k : Nat) (l0 : List S49) (a1 : Int) : Option (Int × List S49) := laws_markNodeS.l0 k l0 a1 0
set_option maxHeartbeats 8000000 in
set_option maxRecDepth 100000 in
theorem laws_markNodeS.calls (k : Nat) (P0_ : Nat → Prop) (u9000_ : Value) (l0 : List S49) (a1 : Int) (r1 : Int) (r2 : List S49) (w0 w : World) (hB : Below w0.heap.size w0 w) (ho0 : Kd.S k49 49 w w0.heap.size P0_ u9000_ l0) (h : laws_markNodeS.f k l0 a1 = some (r1, r2)) :
    Calls Try.prog 19 #[u9000_, .int .i64 a1] w fun e w' => e = .returned (.int .i64 r1) ∧ Kd.S k49 49 w' w0.heap.size (fun k_ => (P0_ k_ ∨ w.heap.size ≤ k_)) u9000_ r2 ∧ Below w0.heap.size w0 w' ∧ Kept w w' (fun k_ => P0_ k_) := by
  obtain ⟨A0, c0, rfl⟩ := Kd.S_slice ho0
  have HO := Aside0.mk (Kd.S_mono ho0 (ok' := fun k_ => (P0_ k_ ∨ w.heap.size ≤ k_)) (fun _ hk => .inl hk))
  have HB := Aside0.mk hB
  have H' := Aside0.mk h
  clear ho0 hB h
  go_enter Try.func19, Try.ntmps19
  go_wp2
  go_loopg [1, 5] k (fun kq v1 v5 w' => ∃ (x1 x5 : Int) (xs : List S49), v1 = .int .i64 x1 ∧ v5 = .int .i64 x5 ∧ Aside0 (laws_markNodeS.l0 kq xs x1 x5 = some (r1, r2)) ∧ Aside0 (kq ≤ k) ∧ Aside0 (xs.length = l0.length) ∧ Aside0 (Kd.S k49 49 w' w0.heap.size (fun k_ => (P0_ k_ ∨ w.heap.size ≤ k_)) (.slice A0 l0.length c0) xs) ∧ Aside0 (Below w0.heap.size w0 w') ∧ Aside0 (Kept w w' (fun k_ => P0_ k_)))
  case atStart => exact ⟨a1, 0, l0, rfl, rfl, H', ⟨Nat.le_refl _⟩, ⟨rfl⟩, HO, HB, ⟨Kept.refl w _⟩⟩
  case round =>
    clear H' HO HB
    obtain ⟨x1, x5, xs, rfl, rfl, HA, HK1, HL, HO, HB, HK⟩ := hrel
    cases gk with
    | zero => exact absurd HA.out (by simp [laws_markNodeS.l0])
    | succ k1 =>
      have H := HA.out
      clear HA
      simp only [laws_markNodeS.l0] at H
      by_cases c4 : x5 < (xs.length : Int)
      · rw [if_pos c4] at H
        by_cases c5 : 0 ≤ x5
        · rw [if_pos c5] at H
          replace H := Option.bind_eq_some_iff.mp H
          obtain ⟨t, A6, H⟩ := H
          replace H := Option.bind_eq_some_iff.mp H
          obtain ⟨⟨b1, b2⟩, A7, H⟩ := H
          have AT := Aside0.mk A6
          have A8 := Aside0.mk A7
          have H' := Aside0.mk H
          clear A6 A7 H
          have c4' : x5 < (l0.length : Int) := by have := HL.out; omega
          obtain ⟨ad, ead, _⟩ := (Kd.S_reads' HO.out).2.2.2.2 (by have := HL.out; omega)
          cases ead
          obtain ⟨g, rfl⟩ := Kd.R_head (Kd.S_R HO.out)
          have hg0 : w0.heap.size ≤ g := Kd.S_base HO.out g (by simp [Value.ownBlock])
          have hgP : P0_ g ∨ w.heap.size ≤ g := (Kd.S_R HO.out).1 g (by simp [Value.ownBlock])
          obtain ⟨oki, c, hcl, hM, hcc, hfr, hoki, hH⟩ := Kd.S_elem HO.out z49 x5 c5 c4'
          obtain ⟨v1, rfl, hR⟩ := k49_openM hM
          have HG0 := Aside0.mk hg0
          have HGP := Aside0.mk hgP
          have HH := Aside0.mk hH
          have HRR := Aside0.mk hR
          have HOKI := Aside0.mk hoki
          generalize hy : xs.getD x5.toNat z49 = y at HRR HH A8
          have HY := Aside0.mk hy
          clear hcl hM hcc hfr hoki hH hR hg0 hgP hy
          have HC5 := Aside0.mk c5
          have HC4 := Aside0.mk c4'
          have c4b0 : decide (x5 < (l0.length : Int)) = true := decide_eq_true c4'
          have c5b0 : decide (0 ≤ x5) = true := decide_eq_true c5
          replace c4' := eq_true c4'
          have HX := Aside0.mk c4
          clear c4
          replace c5 := eq_true c5
          go_wp2_with (first
            | (go_at_call 55; (with_reducible refine (laws_markText.calls k1 x1 t _ AT.out).mono ?_); rintro e w5 ⟨rfl, hb⟩; have HH5 := Aside0.mk (Kd.H_below HH.out hb); have HR5 := Aside0.mk (Kd.R_below HRR.out hb); have HB5 := Aside0.mk (below_step HB.out hb); have HK5 := Aside0.mk (HK.out.below hb); have hx0 : w5.cell? ⟨g, x5.toNat * 3, none⟩ = some (.string y.f0) := (HRow.cells HH5.out HC5.out HC4.out).1 0 _ rfl; have hf0 : w5.frozen? ⟨g, x5.toNat * 3, none⟩ = false := (HRow.cells HH5.out HC5.out HC4.out).2 0; clear hb HH HRR HB HK AT)
            | ((with_reducible refine gate_store (t := 9) (p := 17) rfl ?_); refine store_event (t := 9) (p := 17) (v := ?vo_w6) (w1 := (w5.setCell ⟨g, x5.toNat * 3, none⟩ (.string t))) ?hg ?ho ?hn ?hr ?_; (case ho => rfl); (case hg => rfl); (case hn => rfl); (case hr => first | (go_simp; done) | (go_simp; rfl)); intro w6 hw; have hs := Kd.H_seg HH5.out HC5.out HC4.out (seg := [.string t]) (j := 0) (show 0 + 1 ≤ 3 by decide) (by intro q hq; rw [List.mem_singleton.1 hq]; rfl); have he : w5.setCells g (x5.toNat * Kd.sz k49 + 0) [.string t] = w6 := hw.symm; rw [he] at hs; have HH6 := Aside0.mk (show Kd.H k49 49 w6 w0.heap.size (fun k_ => (P0_ k_ ∨ w.heap.size ≤ k_)) (.slice (some ⟨g, 0, none⟩) l0.length c0) xs x5 oki [.string t, v1, .int .i64 y.f2] from hs.1); have HR6 := Aside0.mk (Kd.R_grown HR5.out hs.2 (fun k_ hk e_ => (HOKI.out k_ hk).2 (by injection e_))); have HB6 := Aside0.mk (show Below w0.heap.size w0 w6 from hw ▸ below_set HB5.out HG0.out); have HK6 := Aside0.mk (show Kept w w6 (fun k_ => P0_ k_) from hw ▸ HK5.out.setCell HGP.out _); have hx1 : w6.cell? ⟨g, x5.toNat * 3 + 1, none⟩ = some v1 := (HRow.cells HH6.out HC5.out HC4.out).1 1 _ rfl; clear hx0 hf0 hs he hw HH5 HR5 HB5 HK5; obtain ⟨Av, cv, ev⟩ := Kd.R_slice HR6.out; subst ev)
            | (go_at_call 18; (with_reducible refine (laws_markIntS.calls k1 oki (.slice Av y.f1.length cv) y.f1 (wrap64 (x1 + 1)) b1 b2 w0 _ ?side1 ?side2 A8.out).mono ?_); (case side1 => exact HB6.out); (case side2 => exact HR6.out); rintro e w7 ⟨rfl, hr7, hb7, hk7⟩; have hsz6 : w.heap.size ≤ w6.heap.size := HK6.out.1; have HH7 := Aside0.mk (Kd.H_step (Kd.H_widen HH6.out) (w1 := w7) (fun k_ ho hn hlt => hk7.2 k_ hlt (fun hk => hn (.inl hk)))); have HR7 := Aside0.mk hr7; have HB7 := Aside0.mk hb7; have HK7 := Aside0.mk (HK6.out.then_ hk7 (fun k_ hk => (HOKI.out k_ hk).1)); have HSZ := Aside0.mk (And.intro hsz6 (HRow.lt HH6.out HC5.out HC4.out)); have hx2 : w7.cell? ⟨g, x5.toNat * 3 + 2, none⟩ = some (.int .i64 y.f2) := (HRow.cells HH7.out HC5.out HC4.out).1 2 _ rfl; have hf2 : w7.frozen? ⟨g, x5.toNat * 3 + 2, none⟩ = false := (HRow.cells HH7.out HC5.out HC4.out).2 2; clear hr7 hb7 hk7 hx1 HH6 HR6 HB6 HK6 hsz6)
            | ((with_reducible refine gate_store (t := 3) (p := 31) rfl ?_); refine store_event (t := 3) (p := 31) (v := ?vo_w8) (w1 := (w7.setCell ⟨g, x5.toNat * 3 + 2, none⟩ (.int .i64 b1))) ?hg ?ho ?hn ?hr ?_; (case ho => rfl); (case hg => rfl); (case hn => rfl); (case hr => first | (go_simp; done) | (go_simp; rfl)); intro w8 hw; have hs := Kd.H_seg HH7.out HC5.out HC4.out (seg := [.int .i64 b1]) (j := 2) (show 2 + 1 ≤ 3 by decide) (by intro q hq; rw [List.mem_singleton.1 hq]; rfl); have he : w7.setCells g (x5.toNat * Kd.sz k49 + 2) [.int .i64 b1] = w8 := hw.symm; rw [he] at hs; have HH8 := Aside0.mk hs.1; have HG8 := Aside0.mk hs.2; have HB8 := Aside0.mk (show Below w0.heap.size w0 w8 from hw ▸ below_set HB7.out HG0.out); have HK8 := Aside0.mk (show Kept w w8 (fun k_ => P0_ k_) from hw ▸ HK7.out.setCell HGP.out _); clear hx2 hf2 hs he hw HH7 HB7 HK7))
          go_roundg k1
          case measure => have := HK1.out; omega
          case rel =>
            have hlt6 := HSZ.out.1
            have hgw := HSZ.out.2
            have hR8 := Kd.R_grown HR7.out HG8.out (fun k_ hk e_ => by
              have e2 : k_ = g := by injection e_
              subst e2
              exact hk.elim (fun h1 => (HOKI.out _ h1).2 rfl) (fun h2 => Nat.lt_irrefl _ (Nat.lt_of_lt_of_le hgw h2)))
            have hM8 := k49_mkM _ _ _ (⟨t, b2, b1⟩ : S49) hR8
            have hback := Kd.H_back HH8.out hM8 (fun k_ hk => hk.elim .inl (fun h2 => .inr ⟨.inr (Nat.le_trans hlt6 h2), h2⟩))
            exact ⟨wrap64 (b1 + 1), wrap64 (x5 + 1), xs.set x5.toNat ⟨t, b2, b1⟩, rfl, rfl, H', ⟨by have := HK1.out; omega⟩, ⟨by rw [List.length_set]; exact HL.out⟩, ⟨hback⟩, HB8, HK8⟩
        · rw [if_neg c5] at H
          exact absurd H (by simp)
      · rw [if_neg c4] at H
        simp only [Option.some.injEq, Prod.mk.injEq] at H
        obtain ⟨rfl, rfl⟩ := H
        have c4' : ¬ x5 < (l0.length : Int) := by have := HL.out; omega
        have c4b0 : decide (x5 < (l0.length : Int)) = false := decide_eq_false c4'
        clear c4 c4'
        go_wp2
        go_ret
        exact ⟨rfl, HO.out, HB.out, HK.out⟩
end Go.Proofs.Ytgldcbcefncjjaa.F
end
section
/- The laws' marks on nodes. -/
namespace Go.Proofs.Ytgldcbcefncjjaa.F
open Go.RowKit Go.Proofs.YtgldcbcefncjjaaW.PrintWords Go.Proofs.YtgldcbcefncjjaaW.PrintLast Go.Proofs.YtgldcbcefncjjaaW.PrintMore
set_option linter.unusedVariables false
set_option linter.unusedSimpArgs false
theorem strNums_one (v : Int) : (strOfNums [v]).size = 1 := by simp [strOfNums, ByteArray.size]
theorem markText_at (n : Nat) : ∀ (x : Int) (s : ByteArray), x ≤ n → 0 ≤ x → x + s.size ≤ 4611686018427387904 → ∃ t, Ev (fun k => laws_markText.l0 k x s) t := by
  induction n with
  | zero =>
    intro x s h h0 hb
    refine ⟨_, Ev.step (f := fun _ => some ((⟨#[109]⟩ : ByteArray) ++ s)) (fun k => ?_) (Ev.now _)⟩
    show laws_markText.l0 (k + 1) x s = _
    rw [laws_markText.l0, if_neg (by omega), if_pos (by omega)]
  | succ n ih =>
    intro x s h h0 hb
    by_cases c : x > 0
    · have hd : Int.tdiv x 10 = x / 10 := Int.tdiv_eq_ediv_of_nonneg h0
      have hw : wrap64 (Int.tdiv x 10) = x / 10 := by rw [hd]; exact w64_id (by omega) (by omega)
      obtain ⟨d, hdd⟩ : ∃ d : Int, d = (wrap64 (48 + (Int.tmod x 10))) % 256 := ⟨_, rfl⟩
      have hs : (strOfNums [d] ++ s).size = 1 + s.size := by rw [ByteArray.size_append, strNums_one]
      obtain ⟨t, ht⟩ := ih (x / 10) (strOfNums [d] ++ s) (by omega) (by omega) (by rw [hs]; omega)
      refine ⟨t, Ev.step (fun k => ?_) ht⟩
      show laws_markText.l0 (k + 1) x s = _
      rw [laws_markText.l0, if_pos c, ← hdd, Option.bind_some, if_pos (by rw [strNums_one]; omega), hw]
    · refine ⟨_, Ev.step (f := fun _ => some ((⟨#[109]⟩ : ByteArray) ++ s)) (fun k => ?_) (Ev.now _)⟩
      show laws_markText.l0 (k + 1) x s = _
      rw [laws_markText.l0, if_neg c, if_pos (by omega)]
open Classical in
/-- The text of a mark. -/
noncomputable def mkT (x : Int) : ByteArray := if h : ∃ t, Ev (fun k => laws_markText.f k x) t then h.choose else ⟨#[]⟩
theorem markText_ev (x : Int) (h0 : 0 ≤ x) (h1 : x ≤ 2305843009213693952) : Ev (fun k => laws_markText.f k x) (mkT x) := by
  have h : ∃ t, Ev (fun k => laws_markText.f k x) t := by
    unfold laws_markText.f
    by_cases c : x ≤ 0
    · simp only [if_pos c]
      exact ⟨_, Ev.now _⟩
    · simp only [if_neg c]
      exact markText_at x.toNat x _ (by omega) h0 (by simp [ByteArray.size]; omega)
  unfold mkT
  rw [dif_pos h]
  exact h.choose_spec
/-- How many marks a list of nodes takes. -/
def wN (l : List IN) : Nat := (l.map fun x => x.f1.length + 2).sum
theorem wN_cons (x : IN) (l : List IN) : wN (x :: l) = x.f1.length + 2 + wN l := by simp [wN]
noncomputable def markN : Int → List IN → List IN
  | _, [] => []
  | a, x :: xs => ⟨mkT a, seqFrom (a + 1) x.f1.length, a + 1 + x.f1.length⟩ :: markN (a + 2 + x.f1.length) xs
theorem mid_getN (pre : List IN) (x : IN) (rest : List IN) : (pre ++ x :: rest).getD ((pre.length : Int)).toNat z49 = x := by simp
theorem markNodeS_at (rest : List IN) : ∀ (pre : List IN) (a : Int), (pre ++ rest).length ≤ 1152921504606846976 → 0 ≤ a → a + wN rest ≤ 1152921504606846976 →
    Ev (fun k => laws_markNodeS.l0 k (pre ++ rest) a (pre.length : Int)) (a + wN rest, pre ++ markN a rest) := by
  induction rest with
  | nil =>
    intro pre a hb h0 h1
    refine Ev.step (f := fun _ => some (a, pre ++ [])) (fun k => by rw [laws_markNodeS.l0, if_neg (mid_nlt _)]) ?_
    simpa [wN, markN] using Ev.now _
  | cons x rest ih =>
    intro pre a hb h0 h1
    rw [wN_cons] at h1
    have h := ih (pre ++ [⟨mkT a, seqFrom (a + 1) x.f1.length, a + 1 + x.f1.length⟩]) (a + 2 + x.f1.length) (by simpa using hb) (by omega) (by omega)
    have hw1 : wrap64 (a + 1) = a + 1 := w64_id (by omega) (by omega)
    have hw2 : wrap64 (a + 1 + (x.f1.length : Int) + 1) = a + 2 + (x.f1.length : Int) := by rw [w64_id (by omega) (by omega)]; omega
    rw [← mid_succ pre _ (by simp at hb; omega)] at h
    have hm := markIntS_ev x.f1 (a + 1) (by omega) (by omega) (by omega)
    refine Ev.stepb (markText_ev a h0 (by omega)) (fun k => by rw [laws_markNodeS.l0, if_pos (mid_lt _ _ _), if_pos (nn _)]) ?_
    simp only [mid_getN, hw1]
    refine Ev.bind hm ?_
    have e : (a + (wN (x :: rest) : Int), pre ++ markN a (x :: rest)) = (a + 2 + (x.f1.length : Int) + (wN rest : Int), pre ++ [⟨mkT a, seqFrom (a + 1) x.f1.length, a + 1 + x.f1.length⟩] ++ markN (a + 2 + x.f1.length) rest) := by
      rw [wN_cons]
      simp [markN]
      omega
    rw [e]
    simp only [hw2, mid_set]
    exact h
theorem markNodeS_ev (l : List IN) (a : Int) (hb : l.length ≤ 1152921504606846976) (h0 : 0 ≤ a) (h1 : a + wN l ≤ 1152921504606846976) : Ev (fun k => laws_markNodeS.f k l a) (a + wN l, markN a l) := by
  unfold laws_markNodeS.f
  exact markNodeS_at l [] a hb h0 h1
theorem wN_conv (l : List LN) : (wN (l.map conv) : Int) ≤ 2 * (l.length : Int) + (weighN l : Int) := by
  induction l with
  | nil => simp [wN, weighN]
  | cons x l ih =>
    rw [List.map_cons, wN_cons, weighN_cons]
    have e : (conv x).f1.length = x.f1.length := rfl
    simp only [e, List.length_cons] at *
    omega
end Go.Proofs.Ytgldcbcefncjjaa.F
end
