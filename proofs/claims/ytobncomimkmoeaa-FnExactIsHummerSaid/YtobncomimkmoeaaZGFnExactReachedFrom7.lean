import Derived.Test.YtobncomimkmoeaaZGFnExactReachedFrom4
import Derived.Test.YtobncomimkmoeaaZGFnExactReachedFrom6
import Derived.Shelf.SlSortCmp.Whole1
import Derived.Shelf.SlSortCmp.NoneTotal
import Derived.Lib.SlicesCompact
import Derived.Shelf.SlLaysF
import Derived.Shelf.SlGeneric
import Derived.Test.YtobncomimkmoeaaProg
section
/- Laid by a program of this claim's own. What the Go function does, as a Lean function, and the proof that the Go code does just that; Lean checks it. -/
namespace Go.Proofs.Ytobncomimkmoeaa.F
open Go.RowKit Go.Proofs.YtobncomimkmoeaaW.PrintWords Go.Proofs.YtobncomimkmoeaaW.PrintLast Go.Proofs.YtobncomimkmoeaaW.PrintMore
attribute [local go_sem] max2_int min2_int max_two min_two max_three min_three max_four min_four   -- for this text's walks alone
set_option linter.unusedVariables false
set_option linter.unusedSimpArgs false
/-! ### slices_Compare_Lint_int: function 67 -/
def slices_Compare_Lint_int.l0 : Nat → List Int → List Int → List Int → Int → Int → Option (Int)
  | 0, _, _, _, _, _ => none
  | k + 1, x0, x1, x9, x10, x11 => if x11 < x10 then (if 0 ≤ x11 then (if x11 < (x9.length : Int) then (if x11 ≥ (x1.length : Int) then (some 1) else (if x11 < (x1.length : Int) then ((cmp_Compare_int.f (rd x9 x11) (rd x1 x11)).bind fun t203 => (if t203 = 0 then (slices_Compare_Lint_int.l0 k x0 x1 x9 x10 (wrap64 (x11 + 1))) else (some t203))) else (none))) else (none)) else (none)) else (if (x0.length : Int) < (x1.length : Int) then (some (-1)) else (some 0))
def slices_Compare_Lint_int.f (k : Nat) (l0 : List Int) (l1 : List Int) : Option (Int) := slices_Compare_Lint_int.l0 k l0 l1 l0 (l0.length : Int) 0
set_option maxHeartbeats 8000000 in
set_option maxRecDepth 100000 in
theorem slices_Compare_Lint_int.calls (k : Nat) (A0 : Option Addr) (c0 : Nat) (l0 : List Int) (A1 : Option Addr) (c1 : Nat) (l1 : List Int) (r : Int) (w : World) (hr0 : Kd.C (Kd.int .i64) w A0 l0.length l0) (hc0 : l0.length ≤ c0) (hr1 : Kd.C (Kd.int .i64) w A1 l1.length l1) (hc1 : l1.length ≤ c1) (h : slices_Compare_Lint_int.f k l0 l1 = some r) :
    Calls Try.prog 67 #[.slice A0 l0.length c0, .slice A1 l1.length c1] w fun e w' => e = .returned (.int .i64 r) ∧ Drawn0 w w' := by
  have HR0 := Aside0.mk hr0
  have HC0 := Aside0.mk hc0
  clear hr0 hc0
  have HR1 := Aside0.mk hr1
  have HC1 := Aside0.mk hc1
  clear hr1 hc1
  have H : (slices_Compare_Lint_int.l0 k l0 l1 l0 (l0.length : Int) 0) = some r := h
  clear h
  have H' := Aside0.mk H
  clear H
  go_enter Try.func67, Try.ntmps67
  go_wp2
  go_loopg [11] k (fun kq v11 w' => ∃ (x11_1 : Int), v11 = .int .i64 x11_1 ∧ Aside0 (slices_Compare_Lint_int.l0 kq l0 l1 l0 (l0.length : Int) x11_1 = some r) ∧ Aside0 (kq ≤ k) ∧ Drawn0 w w')
  case atStart => exact ⟨(0), (by first | rfl | (simp; done) | (simp [*]; done)), H', ⟨Nat.le_refl _⟩, by repeat (first | exact Drawn0.refl _ | apply Drawn0.step)⟩
  case round =>
    clear H'
    try clear c1
    try clear p2
    obtain ⟨x11_1, rfl, HA, HK1, ⟨m1, rfl⟩⟩ := hrel
    cases gk with
    | zero => exact absurd HA.out (by simp [slices_Compare_Lint_int.l0])
    | succ k1 =>
      have H := HA.out
      clear HA
      simp only [slices_Compare_Lint_int.l0] at H
      by_cases c3 : x11_1 < (l0.length : Int)
      · rw [if_pos c3] at H
        have c3b0 : decide (x11_1 < (l0.length : Int)) = true := decide_eq_true c3
        clear c3
        by_cases c4 : 0 ≤ x11_1
        · rw [if_pos c4] at H
          have c4b0 : decide (0 ≤ x11_1) = true := decide_eq_true c4
          clear c4
          by_cases c5 : x11_1 < (l0.length : Int)
          · rw [if_pos c5] at H
            have c5b0 : decide (x11_1 < (l0.length : Int)) = true := decide_eq_true c5
            clear c5
            by_cases c6 : x11_1 ≥ (l1.length : Int)
            · rw [if_pos c6] at H
              have c6b0 : decide ((l1.length : Int) ≤ x11_1) = true := decide_eq_true c6
              clear c6
              obtain rfl := Option.some.inj H
              have p201 : 0 ≤ (x11_1 : Int) := of_decide_eq_true (by first | (with_reducible assumption) | assumption)
              have q201 : x11_1 < (l0.length : Int) := of_decide_eq_true (by first | (with_reducible assumption) | assumption)
              obtain ⟨ad201, e201, hx201_0⟩ := Kd.at_int HR0.out x11_1 p201 q201
              cases e201
              replace p201 := eq_true p201
              replace q201 := eq_true q201
              go_wp2
              go_ret
              exact ⟨by first | rfl | (simp; done) | (simp [*]; done), by repeat (first | exact Drawn0.refl _ | apply Drawn0.step)⟩
            · rw [if_neg c6] at H
              have c6b0 : decide ((l1.length : Int) ≤ x11_1) = false := decide_eq_false c6
              clear c6
              by_cases c7 : x11_1 < (l1.length : Int)
              · rw [if_pos c7] at H
                have c7b0 : decide (x11_1 < (l1.length : Int)) = true := decide_eq_true c7
                clear c7
                replace H := Option.bind_eq_some_iff.mp H
                obtain ⟨t203, A80, H⟩ := H
                replace H : (if t203 = 0 then (slices_Compare_Lint_int.l0 k1 l0 l1 l0 (l0.length : Int) (wrap64 (x11_1 + 1))) else (some t203)) = some r := H
                have A8 := Aside0.mk A80
                clear A80
                by_cases c9 : t203 = 0
                · rw [if_pos c9] at H
                  have c9b0 : (t203 == 0) = true := beq_iff_eq.mpr c9
                  have c9b1 : (t203 != 0) = false := bne_eq_false_iff_eq.mpr c9
                  clear c9
                  have H' := Aside0.mk H
                  clear H
                  have p201 : 0 ≤ (x11_1 : Int) := of_decide_eq_true (by first | (with_reducible assumption) | assumption)
                  have q201 : x11_1 < (l0.length : Int) := of_decide_eq_true (by first | (with_reducible assumption) | assumption)
                  obtain ⟨ad201, e201, hx201_0⟩ := Kd.at_int HR0.out x11_1 p201 q201
                  cases e201
                  replace p201 := eq_true p201
                  replace q201 := eq_true q201
                  have p202 : 0 ≤ (x11_1 : Int) := of_decide_eq_true (by first | (with_reducible assumption) | assumption)
                  have q202 : x11_1 < (l1.length : Int) := of_decide_eq_true (by first | (with_reducible assumption) | assumption)
                  obtain ⟨ad202, e202, hx202_0⟩ := Kd.at_int HR1.out x11_1 p202 q202
                  cases e202
                  replace p202 := eq_true p202
                  replace q202 := eq_true q202
                  go_wp2_with (first | ((with_reducible refine gate_callee (f := 81) rfl ?_); refine goesL_ (some 26) rfl rfl Try.func81 (by kernel_rfl) rfl #[.int .i64 (rd l0 x11_1), .int .i64 (rd l1 x11_1)] rfl (by (try simp only [List.map_toArray, List.map_cons, List.map_nil]); first | done | rfl | (simp only [List.length_drop, List.length_take]; rfl)) ?_; (with_reducible refine (cmp_Compare_int.calls (rd l0 x11_1) (rd l1 x11_1) t203 _ A8.out).mono ?_); rintro e w' ⟨rfl, ⟨nd, rfl⟩⟩; refine ⟨_, rfl, ?_⟩))
                  go_roundg k1
                  case measure => have := HK1.out; omega
                  case rel => exact ⟨(wrap64 (x11_1 + 1)), (by first | rfl | (simp; done) | (simp [*]; done)), H', ⟨by have := HK1.out; omega⟩, by repeat (first | exact Drawn0.refl _ | apply Drawn0.step)⟩
                · rw [if_neg c9] at H
                  have c9b0 : (t203 == 0) = false := beq_eq_false_iff_ne.mpr c9
                  have c9b1 : (t203 != 0) = true := bne_iff_ne.mpr c9
                  obtain rfl := Option.some.inj H
                  have p201 : 0 ≤ (x11_1 : Int) := of_decide_eq_true (by first | (with_reducible assumption) | assumption)
                  have q201 : x11_1 < (l0.length : Int) := of_decide_eq_true (by first | (with_reducible assumption) | assumption)
                  obtain ⟨ad201, e201, hx201_0⟩ := Kd.at_int HR0.out x11_1 p201 q201
                  cases e201
                  replace p201 := eq_true p201
                  replace q201 := eq_true q201
                  have p202 : 0 ≤ (x11_1 : Int) := of_decide_eq_true (by first | (with_reducible assumption) | assumption)
                  have q202 : x11_1 < (l1.length : Int) := of_decide_eq_true (by first | (with_reducible assumption) | assumption)
                  obtain ⟨ad202, e202, hx202_0⟩ := Kd.at_int HR1.out x11_1 p202 q202
                  cases e202
                  replace p202 := eq_true p202
                  replace q202 := eq_true q202
                  go_wp2_with (first | ((with_reducible refine gate_callee (f := 81) rfl ?_); refine goesL_ (some 26) rfl rfl Try.func81 (by kernel_rfl) rfl #[.int .i64 (rd l0 x11_1), .int .i64 (rd l1 x11_1)] rfl (by (try simp only [List.map_toArray, List.map_cons, List.map_nil]); first | done | rfl | (simp only [List.length_drop, List.length_take]; rfl)) ?_; (with_reducible refine (cmp_Compare_int.calls (rd l0 x11_1) (rd l1 x11_1) t203 _ A8.out).mono ?_); rintro e w' ⟨rfl, ⟨nd, rfl⟩⟩; refine ⟨_, rfl, ?_⟩))
                  go_ret
                  exact ⟨by first | rfl | (simp; done) | (simp [*]; done), by repeat (first | exact Drawn0.refl _ | apply Drawn0.step)⟩
              · rw [if_neg c7] at H
                exact absurd H (by simp)
          · rw [if_neg c5] at H
            exact absurd H (by simp)
        · rw [if_neg c4] at H
          exact absurd H (by simp)
      · rw [if_neg c3] at H
        have c3b0 : decide (x11_1 < (l0.length : Int)) = false := decide_eq_false c3
        clear c3
        by_cases c10 : (l0.length : Int) < (l1.length : Int)
        · rw [if_pos c10] at H
          have c10b0 : decide ((l0.length : Int) < (l1.length : Int)) = true := decide_eq_true c10
          have c10b1 : decide (l0.length < l1.length) = true := decide_eq_true (Int.ofNat_lt.mp c10)
          clear c10
          obtain rfl := Option.some.inj H
          go_wp2
          go_ret
          exact ⟨by first | rfl | (simp; done) | (simp [*]; done), by repeat (first | exact Drawn0.refl _ | apply Drawn0.step)⟩
        · rw [if_neg c10] at H
          have c10b0 : decide ((l0.length : Int) < (l1.length : Int)) = false := decide_eq_false c10
          have c10b1 : decide (l0.length < l1.length) = false := decide_eq_false (fun h => c10 (Int.ofNat_lt.mpr h))
          clear c10
          obtain rfl := Option.some.inj H
          go_wp2
          go_ret
          exact ⟨by first | rfl | (simp; done) | (simp [*]; done), by repeat (first | exact Drawn0.refl _ | apply Drawn0.step)⟩
end Go.Proofs.Ytobncomimkmoeaa.F
end
section
/- Lemmas of my own on sorting rows of rows: lexicographic order, and the shelf's sort carried to rows whose elements lead to rows. No function of the program is named here. -/
namespace Go.Proofs.Ytobncomimkmoeaa.F
open Go.RowKit Go.Shelf Go.Lib Go.Sort Go.Proofs.YtobncomimkmoeaaW.PrintWords Go.Proofs.YtobncomimkmoeaaW.PrintLast Go.Proofs.YtobncomimkmoeaaW.PrintMore
set_option linter.unusedVariables false
set_option linter.unusedSimpArgs false
/-! ### 1. The order -/
/-- What slices.Compare says of two lists. -/
def lexC : List Int → List Int → Int
  | [], [] => 0
  | [], _ :: _ => -1
  | _ :: _, [] => 1
  | x :: xs, y :: ys => if x = y then lexC xs ys else if x < y then -1 else 1
theorem lexC_refl (a : List Int) : lexC a a = 0 := by
  induction a with
  | nil => rfl
  | cons x xs ih => unfold lexC; rw [if_pos rfl]; exact ih
theorem lexC_zero (a : List Int) : ∀ b, lexC a b = 0 → a = b := by
  induction a with
  | nil =>
    intro b h
    cases b with
    | nil => rfl
    | cons y ys => unfold lexC at h; omega
  | cons x xs ih =>
    intro b h
    cases b with
    | nil => unfold lexC at h; omega
    | cons y ys =>
      unfold lexC at h
      by_cases e : x = y
      · rw [if_pos e] at h; rw [e, ih ys h]
      · rw [if_neg e] at h
        by_cases l : x < y
        · rw [if_pos l] at h; omega
        · rw [if_neg l] at h; omega
theorem lexC_swap (a : List Int) : ∀ b, lexC b a = - lexC a b := by
  induction a with
  | nil => intro b; cases b <;> rfl
  | cons x xs ih =>
    intro b
    cases b with
    | nil => rfl
    | cons y ys =>
      unfold lexC
      by_cases e : x = y
      · rw [if_pos e, if_pos e.symm]; exact ih ys
      · rw [if_neg e, if_neg (fun h => e h.symm)]
        by_cases l : x < y
        · rw [if_pos l, if_neg (by omega)]; rfl
        · rw [if_neg l, if_pos (by omega)]
theorem lexC_trans (a : List Int) : ∀ b c, lexC a b < 0 → lexC b c < 0 → lexC a c < 0 := by
  induction a with
  | nil =>
    intro b c h k
    cases c with
    | nil => cases b <;> simp [lexC] at h k
    | cons z zs => simp [lexC]
  | cons x xs ih =>
    intro b c h k
    cases b with
    | nil => simp [lexC] at h
    | cons y ys =>
      cases c with
      | nil => simp [lexC] at k
      | cons z zs =>
        unfold lexC at h k ⊢
        by_cases e : x = y
        · subst e
          rw [if_pos rfl] at h
          by_cases e2 : x = z
          · rw [if_pos e2] at k ⊢; exact ih ys zs h k
          · rw [if_neg e2] at k ⊢; exact k
        · rw [if_neg e] at h
          have l : x < y := by
            by_cases l : x < y
            · exact l
            · rw [if_neg l] at h; omega
          by_cases e2 : y = z
          · subst e2; rw [if_neg e, if_pos l]; omega
          · rw [if_neg e2] at k
            have l2 : y < z := by
              by_cases l2 : y < z
              · exact l2
              · rw [if_neg l2] at k; omega
            rw [if_neg (by omega), if_pos (by omega)]; omega
theorem lexC_ntrans (a b c : List Int) (h : ¬ lexC a b < 0) (k : ¬ lexC b c < 0) : ¬ lexC a c < 0 := by
  intro q
  by_cases e1 : lexC a b = 0
  · rw [lexC_zero a b e1] at q; exact k q
  · by_cases e2 : lexC b c = 0
    · rw [← lexC_zero b c e2] at q; exact h q
    · have h1 : lexC b a < 0 := by rw [lexC_swap a b]; omega
      have h2 : lexC c b < 0 := by rw [lexC_swap b c]; omega
      have h3 := lexC_trans c b a h2 h1
      rw [lexC_swap a c] at h3
      omega
/-! ### 2. Rows of rows by their elements -/
section
variable {β : Type} {d : Kd β} {f : Nat → Nat} {w w' : World} {base : Nat} {ok : Nat → Prop}
/-- An element of a row of rows: its value, what it holds, its place; and how it lies. -/
def Elt (d : Kd β) (f : Nat → Nat) (w : World) (base : Nat) (ok : Nat → Prop) : Type := {t : Value × (β × Nat) // (Kd.tag f d).M w base ok t.2 [t.1]}
def Elt.enc (x : Elt d f w base ok) : Value := x.1.1
def Elt.key (x : Elt d f w base ok) : β := x.1.2.1
def Elt.two (x : Elt d f w base ok) : β × Nat := x.1.2
theorem Elt.one (x : Elt d f w base ok) : x.enc.oneCell' = true := (Kd.tag f d).K_one ((Kd.tag f d).K_of_M x.2) _ (List.mem_singleton.2 rfl)
def Elt.of (v : Value) (z : β × Nat) (h : (Kd.tag f d).M w base ok z [v]) : Elt d f w base ok := ⟨(v, z), h⟩
theorem elts (zs : List (β × Nat)) : ∀ inner : List Value, Reps ((Kd.tag f d).M w base ok) 1 zs inner → ∃ D : List (Elt d f w base ok), D.map Elt.enc = inner ∧ D.map Elt.two = zs := by
  induction zs with
  | nil =>
    intro inner hr
    have h1 := hr.1
    obtain rfl : inner = [] := List.eq_nil_of_length_eq_zero (by simpa using h1)
    exact ⟨[], rfl, rfl⟩
  | cons z zs ih =>
    intro inner hr
    have h1 := hr.1
    cases inner with
    | nil => simp at h1
    | cons v rest =>
      have hM : (Kd.tag f d).M w base ok z [v] := by
        have := hr.2 0 z rfl
        simpa using this
      have hr' : Reps ((Kd.tag f d).M w base ok) 1 zs rest := ⟨by simp only [List.length_cons] at h1; omega, fun j p hj => by
        have := hr.2 (j + 1) p (by simpa using hj)
        rw [Nat.mul_one] at this ⊢
        simpa using this⟩
      obtain ⟨D, h2, h3⟩ := ih rest hr'
      exact ⟨Elt.of v z hM :: D, by rw [List.map_cons, h2]; rfl, by rw [List.map_cons, h3]; rfl⟩
theorem reps_elts (D : List (Elt d f w base ok)) (hM : ∀ x : Elt d f w base ok, (Kd.tag f d).M w' base ok x.two [x.enc]) : Reps ((Kd.tag f d).M w' base ok) 1 (D.map Elt.two) (D.map Elt.enc) := by
  refine ⟨by simp, fun j p hj => ?_⟩
  rw [List.getElem?_map] at hj
  obtain ⟨x, hx, rfl⟩ := Option.map_eq_some_iff.1 hj
  obtain ⟨hlt, rfl⟩ := List.getElem?_eq_some_iff.1 hx
  have e : ((D.map Elt.enc).drop (j * 1)).take 1 = [(D[j]).enc] := by
    rw [Nat.mul_one, List.drop_eq_getElem_cons (by simpa using hlt)]
    simp
  rw [e]
  exact hM _
theorem idxOf_nodup {l : List Nat} (hn : l.Nodup) (j : Nat) (hj : j < l.length) : l.idxOf l[j] = j := by
  induction l generalizing j with
  | nil => simp at hj
  | cons x xs ih =>
    rw [List.nodup_cons] at hn
    cases j with
    | zero => simp
    | succ j =>
      have hj' : j < xs.length := by simpa using hj
      have hne : x ≠ xs[j] := fun e => hn.1 (by rw [e]; exact List.getElem_mem hj')
      have hb : (x == xs[j]) = false := by simpa using hne
      rw [List.getElem_cons_succ, List.idxOf_cons, hb, cond_false, ih hn.2 j hj']
theorem S_of_tags {e : Nat} {v : Value} {zs : List (β × Nat)} (h : (Kd.tag f d).R e w base ok v zs) (hn : (zs.map Prod.snd).Nodup) : Kd.S d e w base ok v (zs.map Prod.fst) := by
  obtain ⟨h0, inner, ho, hr⟩ := h
  refine ⟨fun k => (zs.map Prod.snd).idxOf (f k), h0, inner, by rw [List.length_zipIdx, List.length_map]; exact ho, by rw [List.length_zipIdx, List.length_map]; exact hr.1, fun j p hj => ?_⟩
  rw [List.getElem?_zipIdx, Nat.zero_add] at hj
  obtain ⟨x, hx, rfl⟩ := Option.map_eq_some_iff.1 hj
  rw [List.getElem?_map] at hx
  obtain ⟨q, hq, rfl⟩ := Option.map_eq_some_iff.1 hx
  refine d.M_mono (fun k hk => ⟨hk.1, ?_⟩) (hr.2 j q hq)
  obtain ⟨hlt, rfl⟩ := List.getElem?_eq_some_iff.1 hq
  have h2 : f k = (zs[j]).2 := hk.2
  show (zs.map Prod.snd).idxOf (f k) = j
  rw [h2]
  have := idxOf_nodup hn j (by simpa using hlt)
  rwa [List.getElem_map] at this
theorem zip_snd_nodup (xs : List β) : (xs.zipIdx.map Prod.snd).Nodup := by
  rw [List.zipIdx_map_snd]
  exact List.nodup_range'
end
/-! ### 3. A row laid anew -/
/-- Only row g's first cells are told anew: they hold D. -/
structure Relaid {α : Type} [Inhabited α] (enc : α → Value) (w w' : World) (g : Nat) (D : Array α) : Prop where
  grown : w.grownBy w' (some g)
  row : ∀ cur e fr, w.heap[g]? = some (.cells cur e fr) → w'.heap[g]? = some (.cells (putCells enc 0 D cur) e fr)
theorem relaid_sortWorld {α : Type} [Inhabited α] (enc : α → Value) (w : World) (g n : Nat) (D : Array α) (os : Array Obj) (hg : g < w.heap.size) : Relaid enc w (sortWorld enc w g 0 n D os) g D := by
  refine ⟨⟨rfl, rfl, rfl, ?_, fun k hk hne => ?_⟩, fun cur e fr h => ?_⟩
  · unfold sortWorld
    rw [size_grow, size_putRow]
    show w.heap.size ≤ w.heap.size + os.size
    omega
  · unfold sortWorld
    rw [heap_grow_old _ _ (by rw [size_putRow]; exact hk)]
    show (w.heap.modify g (onCells (putCells enc 0 D)))[k]? = w.heap[k]?
    rw [Array.getElem?_modify, if_neg (fun e => hne (by rw [e]))]
  · unfold sortWorld
    rw [heap_grow_old _ _ (by rw [size_putRow]; exact hg)]
    show (w.heap.modify g (onCells (putCells enc 0 D)))[g]? = _
    rw [Array.getElem?_modify, if_pos rfl, h]
    rfl
theorem relaid_putRow {α : Type} [Inhabited α] (enc : α → Value) (w : World) (g n : Nat) (D : Array α) (hg : g < w.heap.size) : Relaid enc w (putRow enc (Sort.ahead w n) g 0 D) g D := by
  have h := relaid_sortWorld enc w g n D #[] hg
  unfold sortWorld at h
  rwa [grow_empty] at h
theorem putCells_take {α : Type} [Inhabited α] (enc : α → Value) (D : Array α) (cur : Array Value) (h : D.size ≤ cur.size) : (putCells enc 0 D cur).toList.take D.size = D.toList.map enc := by
  apply List.ext_getElem
  · simp [putCells]; omega
  · intro i h1 h2
    have hi : i < D.size := by simpa using h2
    simp [putCells, hi, getElem!_pos]
theorem own_relaid {α : Type} [Inhabited α] {enc : α → Value} {w w' : World} {base e g n cap : Nat} {inner : List Value} (h : w.ownsRow base e 1 (.slice (some ⟨g, 0, none⟩) n cap) n inner) (D : Array α) (hD : D.size = n) (hr : Relaid enc w w' g D) :
    w'.ownsRow base e 1 (.slice (some ⟨g, 0, none⟩) n cap) n (D.toList.map enc) := by
  obtain ⟨h1, h2⟩ := h
  refine ⟨by simp [hD], ?_⟩
  rcases h2 with ⟨h3, _⟩ | ⟨g', cap', cur, he, hb, hh, hn, hm, hs, ht⟩
  · cases h3
  · injection he with he1 he2 he3
    injection he1 with he1
    injection he1 with he1
    subst he1 he3
    refine .inr ⟨g, cap, _, rfl, hb, hr.row _ _ _ hh, hn, hm, by simpa [putCells] using hs, ?_⟩
    rw [Nat.mul_one, ← hD]
    exact putCells_take enc D cur (by omega)
theorem holds_own {α : Type} [Inhabited α] {enc : α → Value} {w : World} {base e g n cap : Nat} {D : Array α} (h : w.ownsRow base e 1 (.slice (some ⟨g, 0, none⟩) n cap) n (D.toList.map enc)) : Holds enc w g 0 D := by
  intro j hj
  obtain ⟨h1, h2⟩ := h
  have hD : D.size = n := by simpa using h1
  rcases h2 with ⟨h3, _⟩ | ⟨g', cap', cur, he, hb, hh, hn, hm, hs, ht⟩
  · cases h3
  · injection he with he1 he2 he3
    injection he1 with he1
    injection he1 with he1
    subst he1 he3
    rw [Nat.zero_add]
    refine ⟨?_, by simp [World.frozen?, hh]⟩
    rw [cell_of_row w g j cur e (0, 0) hh]
    have hlt : j < cur.size := by omega
    have e1 : (cur.toList.take (n * 1))[j]? = some cur[j] := by
      rw [List.getElem?_take, if_pos (by omega)]
      simp [hlt]
    rw [ht] at e1
    rw [Array.getElem?_eq_getElem hlt, ← e1]
    simp [hj, getElem!_pos]
/-! ### 4. The sort of rows of rows -/
theorem perm_keys {β : Type} {zs zs' : List (β × Nat)} (h : zs'.Perm zs) (hn : (zs.map Prod.snd).Nodup) : (zs'.map Prod.snd).Nodup := (h.map _).nodup_iff.2 hn
section
variable {P : Program} {ρ : Ren} {β : Type}
/-- slices.SortFunc on a row of rows of its own: they lie there as before, in another order: a permutation, none less than the one before it. -/
theorem sortFunc_S (L : SlLaysF.n6 P ρ) (d : Kd β) (hsz : d.sz = 1) (cf : β → β → Int) (hirr : ∀ a, ¬ cf a a < 0) (htr : ∀ a b c, cf a b < 0 → cf b c < 0 → cf a c < 0) (hnt : ∀ a b c, ¬ cf a b < 0 → ¬ cf b c < 0 → ¬ cf a c < 0)
    (gn : Nat) (eg : ∀ args w, (callFunc gn args).run P w = .ok (.enter gn args) w)
    (hcmp : ∀ (W : World) (x y : β) (vx vy : Value), d.K W x [vx] → d.K W y [vy] → Calls P gn #[vx, vy] W fun e w' => e = .returned (.int .i64 (cf x y)) ∧ Drawn0 W w')
    (e : Nat) (w : World) (base : Nat) (ok : Nat → Prop) (v : Value) (xs : List β) (hS : Kd.S d e w base ok v xs) (hlen : xs.length < 4611686018427387904) :
    Calls P (ρ.f 6) #[v, .func (.func gn) #[] #[]] w fun e' w' => e' = .returned (.tuple #[]) ∧ w.grownBy w' v.ownBlock ∧ ∃ ys : List β, ys.Perm xs ∧ (∀ i j (hi : i < ys.length) (hj : j < ys.length), i < j → ¬ cf ys[j] ys[i] < 0) ∧ Kd.S d e w' base ok v ys := by
  obtain ⟨f, h0, inner, ho, hr⟩ := hS
  have ho0 := ho
  rcases ho.2 with ⟨rfl, hn0⟩ | ⟨g, cap, cur, rfl, hb, hh, hn, hm, hs, ht⟩
  · refine (AnyF.slices_SortFunc_none (P := P) (ρ := ρ) { L with } none 0 (.func (.func gn) #[] #[]) w).mono ?_
    rintro e' w' ⟨rfl, rfl⟩
    exact ⟨rfl, World.grownBy.refl _ _, xs, List.Perm.refl _, fun i j hi hj => by rw [List.length_zipIdx] at hn0; omega, f, h0, inner, ho0, hr⟩
  · rw [List.length_zipIdx] at hn ht ho
    cases hx : xs with
    | nil =>
      subst hx
      refine (AnyF.slices_SortFunc_none (P := P) (ρ := ρ) { L with } _ cap (.func (.func gn) #[] #[]) w).mono ?_
      rintro e' w' ⟨rfl, rfl⟩
      exact ⟨rfl, World.grownBy.refl _ _, [], List.Perm.refl _, fun i j hi hj => by simp at hi, f, h0, inner, ho0, hr⟩
    | cons x0 xr =>
      rw [← hx]
      have hsz2 : (Kd.tag f d).sz = 1 := hsz
      rw [hsz2] at hr ho hs ht ho0
      have hr2 : Reps ((Kd.tag f d).M w base (fun k => ok k ∧ some k ≠ some g)) 1 xs.zipIdx inner := hr
      obtain ⟨D, hD1, hD2⟩ := elts _ _ hr2
      have hlD : D.length = xs.length := by have := congrArg List.length hD2; simpa using this
      haveI : Inhabited (Elt d f w base (fun k => ok k ∧ some k ≠ some g)) := ⟨D[0]'(by rw [hlD, hx]; simp)⟩
      have hg : g < w.heap.size := (Array.getElem?_eq_some_iff.1 hh).1
      have hmove : ∀ (w' : World), w.grownBy w' (some g) → ∀ x : Elt d f w base (fun k => ok k ∧ some k ≠ some g), (Kd.tag f d).M w' base (fun k => ok k ∧ some k ≠ some g) x.two [x.enc] :=
        fun w' hgr x => Kd.M_grown x.2 hgr (fun k hk => hk.2)
      have hown : w.ownsRow base e 1 (.slice (some ⟨g, 0, none⟩) xs.length cap) xs.length (D.toArray.toList.map Elt.enc) := by
        rw [show D.toArray.toList.map Elt.enc = inner from hD1]
        exact ho
      have hcon := Any.slices_SortFunc L (Elt.enc (d := d) (f := f) (w := w) (base := base)) Elt.one (fun x y => cf x.key y.key)
        ⟨fun x => by simp [ltOf, hirr], fun x y z h1 h2 => by simp only [ltOf, decide_eq_true_eq] at *; exact htr _ _ _ h1 h2, fun x y z h1 h2 => by simp only [ltOf, decide_eq_false_iff_not] at *; exact hnt _ _ _ h1 h2⟩
        gn #[] g 0 cap D.toArray w eg ?_ (holds_own hown) hg (by simp; omega)
      · have e1 : D.toArray.size = xs.length := by simp [hlD]
        have hv : Value.slice (some ⟨g, 0, none⟩) xs.zipIdx.length cap = Value.slice (some ⟨g, 0, none⟩) xs.length cap := by rw [List.length_zipIdx]
        rw [hv]
        rw [e1] at hcon
        refine hcon.mono ?_
        rintro e' w' ⟨rfl, D', n, os, hp, hso, rfl⟩
        have hrel := relaid_sortWorld Elt.enc w g n D' os hg
        have hps : D'.size = xs.length := by rw [hp.1]; exact e1
        have hperm : D'.toList.Perm D := by
          have h2 := hp.2.2
          have a1 : D'.extract 0 xs.length = D' := by rw [← hps]; simp
          have a2 : D.toArray.extract 0 xs.length = D.toArray := by rw [← e1]; simp
          rw [a1, a2] at h2
          exact h2
        refine ⟨rfl, hrel.grown, D'.toList.map Elt.key, ?_, fun i j hi hj hij => ?_, ?_⟩
        · have h2 : xs = D.map Elt.key := by
            have := congrArg (List.map Prod.fst) hD2
            rw [List.map_map, List.zipIdx_map_fst] at this
            exact this.symm
          rw [h2]
          exact hperm.map _
        · have h3 := hso i j (Nat.zero_le _) hij (by simpa [hps] using hj)
          simp only [ltOf, decide_eq_false_iff_not] at h3
          have hi' : i < D'.size := by simpa using hi
          have hj' : j < D'.size := by simpa using hj
          rw [getElem!_pos D' i hi', getElem!_pos D' j hj'] at h3
          simpa using h3
        · have hown2 := own_relaid hown D' hps hrel
          have hl' : (D'.toList.map Elt.two).length = xs.length := by simp [hps]
          have hR : (Kd.tag f d).R e (sortWorld Elt.enc w g 0 n D' os) base ok (.slice (some ⟨g, 0, none⟩) xs.length cap) (D'.toList.map Elt.two) := by
            refine ⟨h0, D'.toList.map Elt.enc, ?_, ?_⟩
            · rw [hsz2, hl']; exact hown2
            · rw [hsz2]; exact reps_elts D'.toList (hmove _ hrel.grown)
          have h4 := S_of_tags hR (perm_keys ((hperm.map Elt.two).trans (by rw [hD2])) (zip_snd_nodup xs))
          rw [List.map_map] at h4
          exact h4
      · intro m os dk hs x y
        have hrel := relaid_sortWorld Elt.enc w g m dk os hg
        exact (hcmp _ x.key y.key x.enc y.enc ((Kd.tag f d).K_of_M (hmove _ hrel.grown x)) ((Kd.tag f d).K_of_M (hmove _ hrel.grown y))).mono fun e' w' ⟨h1, h2⟩ => ⟨h1, by
          obtain ⟨q, rfl⟩ := h2
          exact ⟨q, #[], by rw [grow_empty]⟩⟩
end
/-! ### 5. Neighbours that are alike -/
section
variable {α κ : Type} [Inhabited α] [DecidableEq κ] (key : α → κ)
def keepsK (d : Array α) (j : Nat) : Bool := decide (j = 0 ∨ key d[j]! ≠ key d[j - 1]!)
def compK (d : Array α) (m : Nat) : List α := ((List.range m).filter (keepsK key d)).map (d[·]!)
variable {key}
theorem keepsK_lt_one (d : Array α) : ∀ j, j < 1 → keepsK key d j = true := by
  intro j hj
  have : j = 0 := by omega
  subst this
  simp [keepsK]
theorem keepsK_pos {d : Array α} {m : Nat} (h : key d[m]! ≠ key d[m - 1]!) : keepsK key d m = true := by simp [keepsK, h]
theorem keepsK_neg {d : Array α} {m : Nat} (hm : 0 < m) (h : key d[m]! = key d[m - 1]!) : keepsK key d m = false := by
  have : m ≠ 0 := by omega
  simp [keepsK, h, this]
theorem compK_succ (d : Array α) (m : Nat) : compK key d (m + 1) = compK key d m ++ (if keepsK key d m then [d[m]!] else []) := by
  unfold compK
  rw [List.range_succ, List.filter_append, List.map_append]
  congr 1
  by_cases h : keepsK key d m <;> simp [h]
theorem compK_all (d : Array α) (m : Nat) (h : ∀ j, j < m → keepsK key d j = true) : compK key d m = (List.range m).map (d[·]!) := by
  unfold compK
  rw [List.filter_eq_self.2 (fun j hj => h j (List.mem_range.1 hj))]
structure CompInvK (key : α → κ) (d : Array α) (m k : Nat) (dk : Array α) : Prop where
  size : dk.size = d.size
  len : (compK key d m).length = k
  lt : k < m
  low : ∀ j, j < k → (compK key d m)[j]? = some dk[j]!
  high : ∀ j, k ≤ j → dk[j]! = d[j]!
theorem CompInvK.start {d : Array α} {k0 : Nat} (hall : ∀ j, j < k0 → keepsK key d j = true) (hdup : keepsK key d k0 = false) : CompInvK key d (k0 + 1) k0 d where
  size := rfl
  len := by rw [compK_succ, hdup, compK_all d k0 hall]; simp
  lt := Nat.lt_succ_self _
  low := fun j hj => by rw [compK_succ, hdup, compK_all d k0 hall]; simp [hj]
  high := fun _ _ => rfl
theorem CompInvK.keep {d dk : Array α} {m k : Nat} (h : CompInvK key d m k dk) (hm : m < d.size) (hk : keepsK key d m = true) : CompInvK key d (m + 1) (k + 1) (dk.setIfInBounds k d[m]!) where
  size := by simp [h.size]
  len := by rw [compK_succ, hk]; simp [h.len]
  lt := by have := h.lt; omega
  low := fun j hj => by
    rw [compK_succ, hk, if_pos rfl]
    by_cases e : j = k
    · subst e
      rw [List.getElem?_append_right (by rw [h.len]; exact Nat.le_refl _), h.len, Nat.sub_self, getElem!_set_same dk j _ (by have := h.lt; have := h.size; omega)]
      rfl
    · rw [List.getElem?_append_left (by rw [h.len]; omega), h.low j (by omega), getElem!_set_other dk k j _ e]
  high := fun j hj => by rw [getElem!_set_other dk k j _ (by omega), h.high j (by omega)]
theorem CompInvK.skip {d dk : Array α} {m k : Nat} (h : CompInvK key d m k dk) (hk : keepsK key d m = false) : CompInvK key d (m + 1) k dk where
  size := h.size
  len := by rw [compK_succ, hk]; simpa using h.len
  lt := by have := h.lt; omega
  low := fun j hj => by rw [compK_succ, hk]; simpa using h.low j hj
  high := h.high
theorem CompInvK.done {d dk : Array α} {k : Nat} (h : CompInvK key d d.size k dk) (z : α) :
    lay dk k (List.replicate (d.size - k) z) = (compK key d d.size ++ List.replicate (d.size - k) z).toArray := by
  have hk := h.lt
  have hs := h.size
  apply Array.ext_getElem?
  intro j
  rw [lay_get? _ _ _ _ (by simp; omega), show (compK key d d.size ++ List.replicate (d.size - k) z).toArray[j]? = (compK key d d.size ++ List.replicate (d.size - k) z)[j]? from List.getElem?_toArray]
  simp only [List.length_replicate]
  by_cases c : j < k
  · rw [if_neg (by omega), List.getElem?_append_left (by rw [h.len]; exact c), h.low j c, getElem!_pos dk j (by omega), Array.getElem?_eq_getElem]
  · rw [List.getElem?_append_right (by rw [h.len]; omega), h.len]
    by_cases c2 : j < d.size
    · rw [if_pos (by omega)]
    · rw [if_neg (by omega), Array.getElem?_eq_none (by omega), List.getElem?_eq_none (by simp; omega)]
theorem compK_sub (d : Array α) : (compK key d d.size).Sublist d.toList := by
  unfold compK
  have h := (List.filter_sublist (l := List.range d.size) (p := keepsK key d)).map (d[·]!)
  rwa [Lib.range_map_get] at h
/-- A list without the elements that are like the one before them. -/
def compFrom : Option κ → List κ → List κ
  | _, [] => []
  | p, x :: xs => if p = some x then compFrom p xs else x :: compFrom (some x) xs
def compL (l : List κ) : List κ := compFrom none l
theorem compFrom_snoc (l : List κ) (x : κ) : ∀ p, compFrom p (l ++ [x]) = compFrom p l ++ (if l.getLast?.or p = some x then [] else [x]) := by
  induction l with
  | nil =>
    intro p
    by_cases h : p = some x <;> simp [compFrom, h]
  | cons y ys ih =>
    intro p
    have e : (y :: ys).getLast?.or p = ys.getLast?.or (some y) := by
      cases ys with
      | nil => rfl
      | cons z zs =>
        rw [List.getLast?_cons_cons]
        cases h : (z :: zs).getLast? with
        | none => simp at h
        | some q => rfl
    rw [e]
    simp only [List.cons_append, compFrom]
    by_cases h : p = some y
    · rw [if_pos h, if_pos h, ih p, h]
    · rw [if_neg h, if_neg h, ih (some y), List.cons_append]
theorem compK_keys (d : Array α) (m : Nat) (hm : m ≤ d.size) : (compK key d m).map key = compL ((d.toList.take m).map key) := by
  induction m with
  | zero => simp [compK, compL, compFrom]
  | succ m ih =>
    rw [compK_succ, List.map_append, ih (by omega)]
    have h1 : d.toList.take (m + 1) = d.toList.take m ++ [d[m]!] := by
      rw [List.take_add_one, getElem!_pos d m (show m < d.size by omega), List.getElem?_eq_getElem (by simp; omega)]
      rfl
    rw [h1, List.map_append, compL, compL, List.map_singleton, compFrom_snoc]
    congr 1
    cases m with
    | zero => simp [keepsK]
    | succ q =>
      have h2 : ((d.toList.take (q + 1)).map key).getLast? = some (key d[q]!) := by
        rw [List.getLast?_map, List.getLast?_take]
        simp [show q < d.size by omega, getElem!_pos]
      rw [h2]
      unfold keepsK
      by_cases h : key d[q + 1]! = key d[q]!
      · simp [h]
      · simp [h, Ne.symm h]
end
/-- SortPackets, as a plain function: sorted, each list once. -/
def sortL (l : List (List Int)) : List (List Int) := l.mergeSort (fun a b => decide (¬ lexC b a < 0))
def sortP (l : List (List Int)) : List (List Int) := compL (sortL l)
theorem sortL_unique {l ys : List (List Int)} (hp : ys.Perm l) (hs : ∀ i j (hi : i < ys.length) (hj : j < ys.length), i < j → ¬ lexC ys[j] ys[i] < 0) : ys = sortL l := by
  have tr : ∀ a b c : List Int, decide (¬ lexC b a < 0) = true → decide (¬ lexC c b < 0) = true → decide (¬ lexC c a < 0) = true := by
    intro a b c h1 h2
    simp only [decide_eq_true_eq] at *
    exact lexC_ntrans c b a h2 h1
  have tot : ∀ a b : List Int, (decide (¬ lexC b a < 0) || decide (¬ lexC a b < 0)) = true := by
    intro a b
    rw [Bool.or_eq_true, decide_eq_true_eq, decide_eq_true_eq, lexC_swap a b]
    omega
  have h1 : ys.Pairwise (fun a b => decide (¬ lexC b a < 0) = true) := by
    rw [List.pairwise_iff_getElem]
    intro i j hi hj hij
    exact decide_eq_true (hs i j hi hj hij)
  have h2 : (sortL l).Pairwise (fun a b => decide (¬ lexC b a < 0) = true) := List.pairwise_mergeSort tr tot l
  have h3 : ys.Perm (sortL l) := hp.trans (List.mergeSort_perm l _).symm
  refine List.Perm.eq_of_pairwise (le := fun a b => decide (¬ lexC b a < 0) = true) ?_ h1 h2 h3
  intro a b _ _ hab hba
  simp only [decide_eq_true_eq] at hab hba
  have := lexC_swap a b
  exact lexC_zero a b (by omega)
section
variable {κ : Type} [DecidableEq κ]
theorem compFrom_mem (x : κ) (l : List κ) : ∀ p : Option κ, (x ∈ compFrom p l ∨ p = some x) ↔ (x ∈ l ∨ p = some x) := by
  induction l with
  | nil => intro p; simp [compFrom]
  | cons y ys ih =>
    intro p
    unfold compFrom
    by_cases h : p = some y
    · rw [if_pos h, ih p]
      constructor
      · rintro (h1 | h1)
        · exact .inl (List.mem_cons_of_mem _ h1)
        · exact .inr h1
      · rintro (h1 | h1)
        · rcases List.mem_cons.1 h1 with rfl | h1
          · exact .inr h
          · exact .inl h1
        · exact .inr h1
    · rw [if_neg h]
      have := ih (some y)
      constructor
      · rintro (h1 | h1)
        · rcases List.mem_cons.1 h1 with rfl | h1
          · exact .inl List.mem_cons_self
          · rcases this.1 (.inl h1) with h2 | h2
            · exact .inl (List.mem_cons_of_mem _ h2)
            · exact .inl (by rw [Option.some.inj h2]; exact List.mem_cons_self)
        · exact .inr h1
      · rintro (h1 | h1)
        · rcases List.mem_cons.1 h1 with rfl | h1
          · exact .inl List.mem_cons_self
          · rcases this.2 (.inl h1) with h2 | h2
            · exact .inl (List.mem_cons_of_mem _ h2)
            · exact .inl (by rw [Option.some.inj h2]; exact List.mem_cons_self)
        · exact .inr h1
theorem compL_mem (x : κ) (l : List κ) : x ∈ compL l ↔ x ∈ l := by
  have := compFrom_mem x l none
  simpa [compL] using this
theorem compFrom_sub (l : List κ) : ∀ p : Option κ, (compFrom p l).Sublist l := by
  induction l with
  | nil => intro p; exact List.Sublist.refl _
  | cons y ys ih =>
    intro p
    unfold compFrom
    by_cases h : p = some y
    · rw [if_pos h]; exact (ih p).cons _
    · rw [if_neg h]; exact (ih _).cons_cons _
end
theorem compFrom_sorted (l : List (List Int)) : ∀ p : Option (List Int), l.Pairwise (fun a b => ¬ lexC b a < 0) → (∀ q, p = some q → ∀ x ∈ l, ¬ lexC x q < 0) →
    (compFrom p l).Pairwise (fun a b => lexC a b < 0) ∧ ∀ q, p = some q → ∀ x ∈ compFrom p l, lexC q x < 0 := by
  induction l with
  | nil => intro p _ _; exact ⟨List.Pairwise.nil, fun q _ x hx => by simp [compFrom] at hx⟩
  | cons y ys ih =>
    intro p hs hp
    rw [List.pairwise_cons] at hs
    unfold compFrom
    by_cases h : p = some y
    · rw [if_pos h]
      exact ih p hs.2 (fun q hq x hx => hp q hq x (List.mem_cons_of_mem _ hx))
    · rw [if_neg h]
      obtain ⟨h1, h2⟩ := ih (some y) hs.2 (fun q hq x hx => by rw [← Option.some.inj hq]; exact hs.1 x hx)
      refine ⟨List.pairwise_cons.2 ⟨fun x hx => h2 y rfl x hx, h1⟩, fun q hq x hx => ?_⟩
      have h3 := hp q hq y List.mem_cons_self
      have h4 : lexC q y < 0 := by
        by_cases e : lexC q y = 0
        · exact absurd (by rw [hq, lexC_zero _ _ e]) h
        · have := lexC_swap q y; omega
      rcases List.mem_cons.1 hx with rfl | hx
      · exact h4
      · exact lexC_trans _ _ _ h4 (h2 y rfl x hx)
theorem sortL_weak (l : List (List Int)) : (sortL l).Pairwise (fun a b => ¬ lexC b a < 0) := by
  have tr : ∀ a b c : List Int, decide (¬ lexC b a < 0) = true → decide (¬ lexC c b < 0) = true → decide (¬ lexC c a < 0) = true := by
    intro a b c h1 h2
    simp only [decide_eq_true_eq] at *
    exact lexC_ntrans c b a h2 h1
  have tot : ∀ a b : List Int, (decide (¬ lexC b a < 0) || decide (¬ lexC a b < 0)) = true := by
    intro a b
    rw [Bool.or_eq_true, decide_eq_true_eq, decide_eq_true_eq, lexC_swap a b]
    omega
  exact (List.pairwise_mergeSort tr tot l).imp (fun h => of_decide_eq_true h)
theorem sortP_sorted (l : List (List Int)) : (sortP l).Pairwise (fun a b => lexC a b < 0) := (compFrom_sorted (sortL l) none (sortL_weak l) (fun q hq => by cases hq)).1
theorem sortP_mem (x : List Int) (l : List (List Int)) : x ∈ sortP l ↔ x ∈ l := by
  rw [sortP, compL_mem, sortL, (List.mergeSort_perm l _).mem_iff]
theorem lexC_nrefl (a : List Int) : ¬ lexC a a < 0 := by rw [lexC_refl]; omega
theorem lexC_asymm (a b : List Int) (h : lexC a b < 0) (k : lexC b a < 0) : False := lexC_nrefl a (lexC_trans a b a h k)
theorem strict_nodup {l : List (List Int)} (h : l.Pairwise (fun a b => lexC a b < 0)) : l.Nodup := h.imp (fun hab e => by rw [e] at hab; exact lexC_nrefl _ hab)
theorem strict_unique {l m : List (List Int)} (hl : l.Pairwise (fun a b => lexC a b < 0)) (hm : m.Pairwise (fun a b => lexC a b < 0)) (h : ∀ x, x ∈ l ↔ x ∈ m) : l = m := by
  induction l generalizing m with
  | nil =>
    cases m with
    | nil => rfl
    | cons y ys => exact absurd ((h y).2 List.mem_cons_self) (by simp)
  | cons x xs ih =>
    cases m with
    | nil => exact absurd ((h x).1 List.mem_cons_self) (by simp)
    | cons y ys =>
      rw [List.pairwise_cons] at hl hm
      have e : x = y := by
        rcases List.mem_cons.1 ((h x).1 List.mem_cons_self) with e | h1
        · exact e
        · rcases List.mem_cons.1 ((h y).2 List.mem_cons_self) with e | h2
          · exact e.symm
          · exact (lexC_asymm _ _ (hm.1 x h1) (hl.1 y h2)).elim
      subst e
      congr 1
      refine ih hl.2 hm.2 (fun z => ?_)
      constructor
      · intro hz
        rcases List.mem_cons.1 ((h z).1 (List.mem_cons_of_mem _ hz)) with e | h1
        · subst e; exact (lexC_nrefl _ (hl.1 z hz)).elim
        · exact h1
      · intro hz
        rcases List.mem_cons.1 ((h z).2 (List.mem_cons_of_mem _ hz)) with e | h1
        · subst e; exact (lexC_nrefl _ (hm.1 z hz)).elim
        · exact h1
theorem sortP_unique {l m : List (List Int)} (hm : m.Pairwise (fun a b => lexC a b < 0)) (h : ∀ x, x ∈ m ↔ x ∈ l) : m = sortP l := strict_unique hm (sortP_sorted l) (fun x => by rw [h, sortP_mem])
theorem sortP_length_le (l : List (List Int)) : (sortP l).length ≤ l.length := by
  have hp : (sortL l).Perm l := List.mergeSort_perm l _
  rw [← hp.length_eq]
  exact (compFrom_sub _ _).length_le
end Go.Proofs.Ytobncomimkmoeaa.F
end
section
/- The shelf's structure for slices.SortFunc, met by this program's functions: each is the shelf's body at this program's numbers. -/
namespace Go.Proofs.Ytobncomimkmoeaa.F
def sortK_ren : Go.Shelf.Ren := ⟨fun | 6 => 66 | 15 => 80 | 14 => 79 | 28 => 99 | 29 => 100 | 20 => 91 | 21 => 92 | 22 => 93 | 23 => 94 | 24 => 95 | 25 => 96 | 26 => 97 | 27 => 98 | 46 => 109 | 47 => 110 | 48 => 111 | 49 => 112 | 50 => 113 | 57 => 115 | n => n, fun | 22 => 22 | 24 => 25 | 25 => 74 | 3 => 3 | 39 => 81 | 0 => 0 | 53 => 100 | 55 => 102 | 4 => 4 | 46 => 94 | 45 => 93 | 50 => 45 | 5 => 5 | 9 => 9 | 66 => 103 | 70 => 107 | 76 => 110 | 77 => 111 | n => n, fun | n => n⟩
theorem sortK : Go.Proofs.SlLaysF.n6 Try.prog sortK_ren := {
  mixed := by kernel_rfl,
  f6 := ⟨Try.f66.name, by decide, Try.func66.trans (congrArg some (by kernel_rfl))⟩,
  f14 := ⟨Try.f79.name, by decide, Try.func79.trans (congrArg some (by kernel_rfl))⟩,
  f15 := Try.func80.trans (congrArg some (by kernel_rfl)),
  f20 := ⟨Try.f91.name, by decide, Try.func91.trans (congrArg some (by kernel_rfl))⟩,
  f21 := ⟨Try.f92.name, by decide, Try.func92.trans (congrArg some (by kernel_rfl))⟩,
  f22 := ⟨Try.f93.name, by decide, Try.func93.trans (congrArg some (by kernel_rfl))⟩,
  f23 := ⟨Try.f94.name, by decide, Try.func94.trans (congrArg some (by kernel_rfl))⟩,
  f24 := ⟨Try.f95.name, by decide, Try.func95.trans (congrArg some (by kernel_rfl))⟩,
  f25 := ⟨Try.f96.name, by decide, Try.func96.trans (congrArg some (by kernel_rfl))⟩,
  f26 := ⟨Try.f97.name, by decide, Try.func97.trans (congrArg some (by kernel_rfl))⟩,
  f27 := ⟨Try.f98.name, by decide, Try.func98.trans (congrArg some (by kernel_rfl))⟩,
  f28 := Try.func99.trans (congrArg some (by kernel_rfl)),
  f29 := Try.func100.trans (congrArg some (by kernel_rfl)),
  f46 := ⟨Try.f109.name, by decide, Try.func109.trans (congrArg some (by kernel_rfl))⟩,
  f47 := Try.func110.trans (congrArg some (by kernel_rfl)),
  f48 := Try.func111.trans (congrArg some (by kernel_rfl)),
  f49 := ⟨Try.f112.name, by decide, Try.func112.trans (congrArg some (by kernel_rfl))⟩,
  f50 := ⟨Try.f113.name, by decide, Try.func113.trans (congrArg some (by kernel_rfl))⟩,
  f57 := ⟨Try.f115.name, by decide, Try.func115.trans (congrArg some (by kernel_rfl))⟩,
  t0 := Try.underlying0,
  a0 := Try.isAgg0,
  z0 := Try.sizeOf0,
  v0 := Try.zeroValue0,
  t3 := Try.underlying3,
  a3 := Try.isAgg3,
  z3 := Try.sizeOf3,
  v3 := Try.zeroValue3,
  t4 := Try.underlying4,
  a4 := Try.isAgg4,
  z4 := Try.sizeOf4,
  v4 := Try.zeroValue4,
  t5 := Try.underlying5,
  a5 := Try.isAgg5,
  z5 := Try.sizeOf5,
  v5 := Try.zeroValue5,
  t9 := Try.underlying9,
  a9 := Try.isAgg9,
  z9 := Try.sizeOf9,
  v9 := Try.zeroValue9,
  t22 := Try.underlying22,
  a22 := Try.isAgg22,
  z22 := Try.sizeOf22,
  v22 := Try.zeroValue22,
  a24 := Try.isAgg25,
  z24 := Try.sizeOf25,
  t25 := Try.underlying74,
  a25 := Try.isAgg74,
  z25 := Try.sizeOf74,
  v25 := Try.zeroValue74,
  t39 := Try.underlying81,
  a39 := Try.isAgg81,
  z39 := Try.sizeOf81,
  v39 := Try.zeroValue81,
  t45 := Try.underlying93,
  a45 := Try.isAgg93,
  z45 := Try.sizeOf93,
  v45 := Try.zeroValue93,
  t46 := Try.underlying94,
  a46 := Try.isAgg94,
  z46 := Try.sizeOf94,
  v46 := Try.zeroValue94,
  t50 := Try.underlying45,
  a50 := Try.isAgg45,
  z50 := Try.sizeOf45,
  v50 := Try.zeroValue45,
  t53 := Try.underlying100,
  a53 := Try.isAgg100,
  z53 := Try.sizeOf100,
  v53 := Try.zeroValue100,
  t55 := Try.underlying102,
  a55 := Try.isAgg102,
  z55 := Try.sizeOf102,
  v55 := Try.zeroValue102,
  t66 := Try.underlying103,
  a66 := Try.isAgg103,
  z66 := Try.sizeOf103,
  v66 := Try.zeroValue103,
  t70 := Try.underlying107,
  a70 := Try.isAgg107,
  z70 := Try.sizeOf107,
  v70 := Try.zeroValue107,
  t76 := Try.underlying110,
  a76 := Try.isAgg110,
  z76 := Try.sizeOf110,
  v76 := Try.zeroValue110,
  t77 := Try.underlying111,
  a77 := Try.isAgg111,
  z77 := Try.sizeOf111,
  v77 := Try.zeroValue111 }
end Go.Proofs.Ytobncomimkmoeaa.F
end
section
/- Laid by a program of this claim's own. What the Go function does, as a Lean function, and the proof that the Go code does just that; Lean checks it. -/
namespace Go.Proofs.Ytobncomimkmoeaa.F
open Go.RowKit Go.Proofs.YtobncomimkmoeaaW.PrintWords Go.Proofs.YtobncomimkmoeaaW.PrintLast Go.Proofs.YtobncomimkmoeaaW.PrintMore
attribute [local go_sem] max2_int min2_int max_two min_two max_three min_three max_four min_four   -- for this text's walks alone
set_option linter.unusedVariables false
set_option linter.unusedSimpArgs false
/-! slices.Compare and slices.Equal on two lists -/
theorem big_succ {α : Type} (pre : List α) (x : α) (h : pre.length + 1 ≤ 9223372036854775807) : wrap64 ((pre.length : Int) + 1) = ((pre ++ [x]).length : Int) := by
  rw [w64_id (by omega) (by omega)]
  simp
theorem cmpCompare_lex (x y : Int) : cmp_Compare_int.f x y = some (if x = y then 0 else if x < y then -1 else 1) := by
  have h : ∀ z, cmp_isNaN_int.f z = some false := by intro z; unfold cmp_isNaN_int.f; simp
  unfold cmp_Compare_int.f
  rw [h, h]
  simp only [Option.bind_some, Bool.false_eq_true, if_false]
  by_cases e : x = y
  · subst e; simp
  · by_cases l : x < y
    · simp [e, l]
    · have : x > y := by omega
      simp [e, l, this]
theorem compare_lex_at (rest : List Int) : ∀ (pre ys : List Int), (pre ++ rest).length ≤ 9223372036854775807 → (pre ++ ys).length ≤ 9223372036854775807 →
    Ev (fun k => slices_Compare_Lint_int.l0 k (pre ++ rest) (pre ++ ys) (pre ++ rest) ((pre ++ rest).length : Int) (pre.length : Int)) (lexC rest ys) := by
  induction rest with
  | nil =>
    intro pre ys hb hc
    refine Ev.step (f := fun _ => some (lexC [] ys)) (fun k => ?_) (Ev.now _)
    show slices_Compare_Lint_int.l0 (k + 1) _ _ _ _ _ = _
    rw [slices_Compare_Lint_int.l0, if_neg (mid_nlt _)]
    cases ys with
    | nil => rw [if_neg (by omega)]; rfl
    | cons y ys => rw [if_pos (by simp; omega)]; rfl
  | cons x rest ih =>
    intro pre ys hb hc
    cases ys with
    | nil =>
      refine Ev.step (f := fun _ => some 1) (fun k => ?_) (Ev.now _)
      show slices_Compare_Lint_int.l0 (k + 1) _ _ _ _ _ = _
      rw [slices_Compare_Lint_int.l0, if_pos (mid_lt _ _ _), if_pos (nn _), if_pos (mid_lt _ _ _), if_pos (by simp)]
    | cons y ys =>
      have hge : ¬ ((pre.length : Int) ≥ ((pre ++ y :: ys).length : Int)) := by have := mid_lt pre y ys; omega
      by_cases e : x = y
      · subst e
        have h := ih (pre ++ [x]) ys (by simpa using hb) (by simpa using hc)
        rw [← mid_cons, ← mid_cons, ← big_succ pre x (by simp at hb; omega)] at h
        rw [show lexC (x :: rest) (x :: ys) = lexC rest ys by simp [lexC]]
        refine Ev.step (fun k => ?_) h
        show slices_Compare_Lint_int.l0 (k + 1) _ _ _ _ _ = _
        rw [slices_Compare_Lint_int.l0, if_pos (mid_lt _ _ _), if_pos (nn _), if_pos (mid_lt _ _ _), if_neg hge, if_pos (mid_lt _ _ _), mid_rd, mid_rd, cmpCompare_lex, if_pos rfl, Option.bind_some, if_pos rfl]
      · rw [show lexC (x :: rest) (y :: ys) = if x < y then -1 else 1 by simp [lexC, e]]
        refine Ev.step (f := fun _ => some (if x < y then -1 else 1)) (fun k => ?_) (Ev.now _)
        show slices_Compare_Lint_int.l0 (k + 1) _ _ _ _ _ = _
        rw [slices_Compare_Lint_int.l0, if_pos (mid_lt _ _ _), if_pos (nn _), if_pos (mid_lt _ _ _), if_neg hge, if_pos (mid_lt _ _ _), mid_rd, mid_rd, cmpCompare_lex, if_neg e, Option.bind_some]
        by_cases l : x < y
        · rw [if_pos l]; rfl
        · rw [if_neg l]; rfl
theorem compare_lex (a b : List Int) (ha : a.length ≤ 9223372036854775807) (hb : b.length ≤ 9223372036854775807) : ∃ k, slices_Compare_Lint_int.f k a b = some (lexC a b) := (compare_lex_at a [] b ha hb).rounds
theorem equal_dec_at (rest : List Int) : ∀ (pre ys : List Int), (pre ++ ys).length ≤ 9223372036854775807 → rest.length = ys.length →
    Ev (fun k => slices_Equal_Lint_int.l0 k (pre ++ rest) (pre ++ ys) ((pre ++ rest).length : Int) (pre.length : Int)) (decide (rest = ys)) := by
  induction rest with
  | nil =>
    intro pre ys hb hl
    obtain rfl : ys = [] := List.length_eq_zero_iff.mp hl.symm
    exact Ev.step (f := fun _ => some true) (fun k => by rw [slices_Equal_Lint_int.l0, if_neg (mid_nlt _)]) (Ev.now _)
  | cons x rest ih =>
    intro pre ys hb hl
    cases ys with
    | nil => simp at hl
    | cons y ys =>
      by_cases e : x = y
      · subst e
        have h := ih (pre ++ [x]) ys (by simpa using hb) (by simpa using hl)
        rw [← mid_cons, ← mid_cons, ← big_succ pre x (by simp at hb; omega)] at h
        rw [show decide (x :: rest = x :: ys) = decide (rest = ys) by simp]
        exact Ev.step (fun k => by rw [slices_Equal_Lint_int.l0, if_pos (mid_lt _ _ _), if_pos (nn _), if_pos (mid_lt _ _ _), if_pos (mid_lt _ _ _), mid_rd, mid_rd, if_pos rfl]) h
      · rw [show decide (x :: rest = y :: ys) = false by simp [e]]
        exact Ev.step (f := fun _ => some false) (fun k => by rw [slices_Equal_Lint_int.l0, if_pos (mid_lt _ _ _), if_pos (nn _), if_pos (mid_lt _ _ _), if_pos (mid_lt _ _ _), mid_rd, mid_rd, if_neg e]) (Ev.now _)
theorem equal_dec (l m : List Int) (hl : l.length ≤ 9223372036854775807) : ∃ k, slices_Equal_Lint_int.f k l m = some (decide (l = m)) := by
  refine Ev.rounds (g := fun k => slices_Equal_Lint_int.f k l m) ?_
  unfold slices_Equal_Lint_int.f
  by_cases e : (l.length : Int) = (m.length : Int)
  · simp only [if_pos e]
    exact equal_dec_at l [] m (by simp; omega) (by omega)
  · simp only [if_neg e]
    rw [show decide (l = m) = false from decide_eq_false (fun h => e (by rw [h]))]
    exact Ev.now _
theorem row_val {W : World} {x : List Int} {v : Value} (h : (Kd.slice 3 (Kd.int .i64)).K W x [v]) : ∃ A c, v = .slice A x.length c ∧ x.length ≤ c ∧ x.length ≤ 9223372036854775807 ∧ Kd.C (Kd.int .i64) W A x.length x := by
  obtain ⟨A, c, he, hl, hC⟩ := h
  exact ⟨A, c, by simpa using he, hl, hC.2.1, hC⟩
theorem slices_Compare_Lint_int.lex (W : World) (x y : List Int) (vx vy : Value) (hx : (Kd.slice 3 (Kd.int .i64)).K W x [vx]) (hy : (Kd.slice 3 (Kd.int .i64)).K W y [vy]) :
    Calls Try.prog 67 #[vx, vy] W fun e w' => e = .returned (.int .i64 (lexC x y)) ∧ Drawn0 W w' := by
  obtain ⟨A0, c0, rfl, hl0, hm0, hC0⟩ := row_val hx
  obtain ⟨A1, c1, rfl, hl1, hm1, hC1⟩ := row_val hy
  obtain ⟨k, hk⟩ := compare_lex x y hm0 hm1
  exact slices_Compare_Lint_int.calls k A0 c0 x A1 c1 y (lexC x y) W hC0 hl0 hC1 hl1 hk
theorem slices_Equal_Lint_int.dec (W : World) (x y : List Int) (vx vy : Value) (hx : (Kd.slice 3 (Kd.int .i64)).K W x [vx]) (hy : (Kd.slice 3 (Kd.int .i64)).K W y [vy]) :
    Calls Try.prog 33 #[vx, vy] W fun e w' => e = .returned (.bool (decide (x = y))) ∧ Drawn0 W w' := by
  obtain ⟨A0, c0, rfl, hl0, hm0, hC0⟩ := row_val hx
  obtain ⟨A1, c1, rfl, hl1, hm1, hC1⟩ := row_val hy
  obtain ⟨k, hk⟩ := equal_dec x y hm0
  exact slices_Equal_Lint_int.calls k A0 c0 x A1 c1 y (decide (x = y)) W hC0 hl0 hC1 hl1 hk
theorem slices_SortFunc_LLint_Lint.onS (w : World) (base : Nat) (ok : Nat → Prop) (v : Value) (xs : List (List Int)) (hS : Kd.S (Kd.slice 3 (Kd.int .i64)) 25 w base ok v xs) (hlen : xs.length < 4611686018427387904) :
    Calls Try.prog 66 #[v, .func (.func 67) #[] #[]] w fun e' w' => e' = .returned (.tuple #[]) ∧ w.grownBy w' v.ownBlock ∧ Kd.S (Kd.slice 3 (Kd.int .i64)) 25 w' base ok v (sortL xs) := by
  have h := sortFunc_S sortK (Kd.slice 3 (Kd.int .i64)) rfl lexC lexC_nrefl lexC_trans lexC_ntrans 67 (enters_of Try.func67 (by kernel_rfl) rfl) slices_Compare_Lint_int.lex 25 w base ok v xs hS hlen
  refine Calls.mono (f := 66) h ?_
  rintro e' w' ⟨h1, h2, ys, h3, h4, h5⟩
  refine ⟨h1, h2, ?_⟩
  rw [← sortL_unique h3 h4]
  exact h5
open Go.Shelf Go.Lib Go.Sort in
set_option maxHeartbeats 8000000 in
set_option maxRecDepth 1000000 in
/-- slices.CompactFunc at elements of one cell, the function handed over an equality of keys: the row keeps what differs from its neighbour, then zero values. -/
theorem slices_CompactFunc_LLint_Lint.one {α κ : Type} [Inhabited α] [DecidableEq κ] (key : α → κ) (enc : α → Value) (hO : OneCell enc) (zr : α) (hzr : enc zr = .slice none 0 0) (g : Nat) (cb : Array Value) (eg : ∀ args w, (callFunc g args).run Try.prog w = .ok (.enter g args) w) (blk off cap : Nat) (d : Array α) (w : World) (hH : Holds enc w blk off d) (hsz : d.size ≤ 9223372036854775807) (hcap : d.size ≤ cap)
    (hq : ∀ (q : Nat) (dk : Array α), dk.size = d.size → ∀ x y : α, Calls Try.prog g (#[enc x, enc y] ++ cb) (putRow enc (Sort.ahead w q) blk off dk) fun e w' => e = .returned (.bool (decide (key x = key y))) ∧ Drawn0 (putRow enc (Sort.ahead w q) blk off dk) w') :
    Calls Try.prog 68 #[.slice (some ⟨blk, off, none⟩) d.size cap, .func (.func g) #[] cb] w fun e w' => e = .returned (.slice (some ⟨blk, off, none⟩) (compK key d d.size).length cap) ∧ ∃ q, w' = putRow enc (Sort.ahead w q) blk off (compK key d d.size ++ List.replicate (d.size - (compK key d d.size).length) zr).toArray := by
  have hcl0 := hO.cells
  simp only [Value.cells] at hcl0
  have hst := hO.store Try.prog
  have hq1 : ∀ (q : Nat) (x y : α), Calls Try.prog g (#[enc x, enc y] ++ cb) (w.drewN q) fun e w' => e = .returned (.bool (decide (key x = key y))) ∧ Drawn0 (w.drewN q) w' := fun q x y => by
    have h := hq q d rfl x y
    rw [putRow_self enc (Sort.ahead w q) blk off d (holds_ahead enc w q blk off d hH)] at h
    exact h
  have same : ∀ q, (∀ j, j < d.size → keepsK key d j = true) → (compK key d d.size).length = d.size ∧ w.drewN q = putRow enc (Sort.ahead w q) blk off (compK key d d.size ++ List.replicate (d.size - (compK key d d.size).length) zr).toArray := by
    intro q hall
    have e : compK key d d.size = d.toList := by rw [compK_all d _ hall, range_map_get]
    rw [e]
    refine ⟨by simp, ?_⟩
    simp only [Array.length_toList, Nat.sub_self, List.replicate_zero, List.append_nil, Array.toArray_toList]
    exact (putRow_self enc (Sort.ahead w q) blk off d (holds_ahead enc w q blk off d hH)).symm
  have HS := Aside0.mk same
  have HQ := Aside0.mk hq
  have HQ1 := Aside0.mk hq1
  clear same hq hq1
  by_cases h2 : d.size < 2
  · have HH := Aside0.mk hH
    clear hH
    go_enter Try.func68, Try.ntmps68
    go_wp2
    go_ret
    obtain ⟨e1, e2⟩ := HS.out 0 (fun j hj => keepsK_lt_one d j (by omega))
    exact ⟨by rw [e1]; rfl, 0, e2⟩
  · go_enter Try.func68, Try.ntmps68
    go_wp2
    go_loopg [5] d.size (fun g_ s5 wr => ∃ k q : Nat, Aside0 (1 ≤ k) ∧ Aside0 (k ≤ d.size) ∧ Aside0 (d.size - k ≤ g_) ∧ s5 = .int .i64 k ∧ Aside0 (wr = w.drewN q) ∧ Aside0 (∀ j, j < k → keepsK key d j = true))
    case atStart => exact ⟨1, 0, ⟨Nat.le_refl _⟩, ⟨by omega⟩, ⟨by omega⟩, rfl, ⟨rfl⟩, ⟨keepsK_lt_one d⟩⟩
    case round =>
      obtain ⟨k, q, hk1, hk, hg, rfl, hwr, AA⟩ := hrel
      by_cases hlt : k < d.size
      · obtain ⟨c1, f1⟩ := hH k hlt
        obtain ⟨c0, f0⟩ := hH (k - 1) (by have := hk1.out; omega)
        have c1r : wr.cell? ⟨blk, off + k, none⟩ = some (enc d[k]!) := by rw [hwr.out]; exact c1
        have c0r : wr.cell? ⟨blk, off + (k - 1), none⟩ = some (enc d[k - 1]!) := by rw [hwr.out]; exact c0
        have hcall := fun (n : Nat) => HQ1.out (q + n) d[k]! d[k - 1]!
        have hwn : ∀ n, wr.drewN n = w.drewN (q + n) := fun n => by rw [hwr.out, World.drewN_drewN]
        have hcall2 : ∀ n, Calls Try.prog g (#[enc d[k]!, enc d[k - 1]!] ++ cb) (wr.drewN n) fun e w' => e = .returned (.bool (decide (key d[k]! = key d[k - 1]!))) ∧ ∃ m, w' = (wr.drewN n).drewN m := fun n => by
          rw [hwn n]
          exact (hcall n).mono fun e w' hd => ⟨hd.1, hd.2.out⟩
        have HH := Aside0.mk hH
        have HWN := Aside0.mk hwn
        clear hH hcall hwn c1 c0 f1 f0
        generalize hx : d[k]! = x at c1r hcall2
        generalize hy : d[k - 1]! = y at c0r hcall2
        have B := Aside0.mk (And.intro hx hy)
        have hkk := hk1.out
        have hkd := hk.out
        clear hx hy
        by_cases hdup : key x = key y
        · rw [decide_eq_true hdup] at hcall2
          have hcallA := Aside0.mk hcall2
          have hdupA := Aside0.mk hdup
          clear hcall2 hdup
          go_wp2
          go_quiet ((go_at_fn g; refine Calls.quiet_of (hcallA.out _)))
          go_wp2
          clear c0r c1r
          go_loopg [5, 7] d.size (fun g_ s5 s7 wr2 => ∃ (kk k2 q2 : Nat) (dk : Array α), s5 = .int .i64 kk ∧ s7 = .int .i64 k2 ∧ Aside0 (1 ≤ k2) ∧ Aside0 (k + k2 ≤ d.size) ∧ Aside0 (d.size - (k + k2) ≤ g_) ∧ Aside0 (wr2 = putRow enc (Sort.ahead w q2) blk off dk) ∧ Aside0 (CompInvK key d (k + k2) kk dk))
          case atStart => exact ⟨k, 1, _, d, rfl, rfl, ⟨Nat.le_refl _⟩, ⟨by omega⟩, ⟨by omega⟩, ⟨(HWN.out _).trans (putRow_self enc (Sort.ahead w _) blk off d (holds_ahead enc w _ blk off d HH.out)).symm⟩, ⟨CompInvK.start AA.out (keepsK_neg (by omega) (by rw [B.out.1, B.out.2]; exact hdupA.out))⟩⟩
          case round =>
            obtain ⟨kk, k2, q2, dk, rfl, rfl, h1, hle, hg2, W2, I2⟩ := hrel
            have hkk2 := I2.out.lt
            have hds := I2.out.size
            have hHk : Holds enc wr blk off dk := by rw [W2.out]; exact holds_putRow enc _ blk off d dk (holds_ahead enc w q2 blk off d HH.out) hds
            have h1o := h1.out
            have hleo := hle.out
            by_cases hlt2 : k + k2 < d.size
            · obtain ⟨cm, _⟩ := hHk (k + k2) (by omega)
              obtain ⟨cp, _⟩ := hHk (k + k2 - 1) (by omega)
              obtain ⟨ck, fk⟩ := hHk kk (by omega)
              rw [I2.out.high (k + k2) (by omega), show off + (k + k2) = off + k + k2 by omega] at cm
              rw [I2.out.high (k + k2 - 1) (by omega), show off + (k + k2 - 1) = off + k + (k2 - 1) by omega] at cp
              have hwn2 : ∀ n, wr.drewN n = putRow enc (Sort.ahead w (q2 + n)) blk off dk := fun n => by rw [W2.out, ← ahead_ahead]; rfl
              have hcall3 : ∀ n, Calls Try.prog g (#[enc d[k + k2]!, enc d[k + k2 - 1]!] ++ cb) (wr.drewN n) fun e w' => e = .returned (.bool (decide (key d[k + k2]! = key d[k + k2 - 1]!))) ∧ ∃ m, w' = (wr.drewN n).drewN m := fun n => by
                rw [hwn2 n]
                exact (HQ.out (q2 + n) dk hds _ _).mono fun e w' hd => ⟨hd.1, hd.2.out⟩
              have HWN2 := Aside0.mk hwn2
              clear hHk hwn2
              generalize hu : d[k + k2]! = u at cm hcall3
              generalize hv : d[k + k2 - 1]! = v at cp hcall3
              generalize dk[kk]! = old at ck
              have C := Aside0.mk (And.intro hu hv)
              clear hu hv
              by_cases huv : key u = key v
              · rw [decide_eq_true huv] at hcall3
                have hcallB := Aside0.mk hcall3
                have huvA := Aside0.mk huv
                clear hcall3 huv
                go_wp2
                go_quiet ((go_at_fn g; refine Calls.quiet_of (hcallB.out _)))
                go_wp2
                go_roundg (d.size - (k + (k2 + 1)))
                case measure => have := hg2.out; omega
                case rel => exact ⟨kk, k2 + 1, _, dk, rfl, by go_num, ⟨by omega⟩, ⟨by omega⟩, ⟨Nat.le_refl _⟩, ⟨HWN2.out _⟩, ⟨I2.out.skip (keepsK_neg (by omega) (by rw [C.out.1, C.out.2]; exact huvA.out))⟩⟩
              · rw [decide_eq_false huv] at hcall3
                have hcallB := Aside0.mk hcall3
                have huvA := Aside0.mk huv
                clear hcall3 huv
                go_wp2
                go_quiet ((go_at_fn g; refine Calls.quiet_of (hcallB.out _)))
                go_wp2
                go_roundg (d.size - (k + (k2 + 1)))
                case measure => have := hg2.out; omega
                case rel =>
                  refine ⟨kk + 1, k2 + 1, _, dk.setIfInBounds kk u, by go_num, by go_num, ⟨by omega⟩, ⟨by omega⟩, ⟨Nat.le_refl _⟩, ⟨(congrArg (fun W => World.setCell W ⟨blk, off + kk, none⟩ (enc u)) (HWN2.out _)).trans (putRow_set enc _ blk off dk kk u (by omega))⟩, ⟨by have := I2.out.keep hlt2 (keepsK_pos (by rw [C.out.1, C.out.2]; exact huvA.out)); rwa [C.out.1] at this⟩⟩
            · have hend : k + k2 = d.size := by omega
              have hcl : ∀ ty, (Builtin.clear_ #[22] ty #[.slice (some ⟨blk, off + kk, none⟩) (d.size - kk) (cap - kk)]).run Try.prog wr = .ok (.tuple #[]) (wr.setCells blk (off + kk) (List.replicate (d.size - kk) (enc zr))) :=
                fun ty => Lib.run_clear_slice wr _ _ ty _ Try.underlying22 (fun w => by rw [hzr]; exact Try.zeroValue25 w) (hO.cells zr) (hO zr) blk (off + kk) _ _ (by omega) (fun j hj => by rw [show off + kk + j = off + (kk + j) by omega, (hHk (kk + j) (by omega)).1]; rfl) (fun j hj => by rw [show off + kk + j = off + (kk + j) by omega]; exact (hHk (kk + j) (by omega)).2)
              clear hHk
              go_wp2
              go_ret
              have hI := I2.out
              rw [hend] at hI
              refine ⟨by rw [hI.len]; rfl, q2, ?_⟩
              rw [hI.len, ← hI.done zr, ← putRow_setCells enc _ blk off _ dk kk (by simp; omega), ← W2.out, List.map_replicate, hzr]
        · rw [decide_eq_false hdup] at hcall2
          have hcallA := Aside0.mk hcall2
          have hdupA := Aside0.mk hdup
          clear hcall2 hdup
          go_wp2
          go_quiet ((go_at_fn g; refine Calls.quiet_of (hcallA.out _)))
          go_wp2
          go_roundg (d.size - (k + 1))
          case measure => have := hg.out; omega
          case rel =>
            refine ⟨k + 1, _, ⟨by omega⟩, ⟨by omega⟩, ⟨Nat.le_refl _⟩, by go_num, ⟨HWN.out _⟩, ⟨fun j hj => ?_⟩⟩
            by_cases e : j = k
            · subst e
              exact keepsK_pos (by rw [B.out.1, B.out.2]; exact hdupA.out)
            · exact AA.out j (by omega)
      · have hkd := hk.out
        have : k = d.size := by omega
        subst this
        have HH := Aside0.mk hH
        clear hH
        go_wp2
        go_ret
        obtain ⟨e1, e2⟩ := HS.out q AA.out
        exact ⟨by rw [e1]; rfl, q, hwr.out.trans e2⟩
theorem slices_CompactFunc_LLint_Lint.none_ (fv : Value) (w : World) : Calls Try.prog 68 #[.slice none 0 0, fv] w fun e w' => e = .returned (.slice none 0 0) ∧ w' = w := by
  go_enter Try.func68, Try.ntmps68
  go_wp2
  go_ret
  exact ⟨rfl, rfl⟩
open Go.Shelf Go.Lib Go.Sort in
theorem slices_CompactFunc_LLint_Lint.onS (w : World) (base : Nat) (ok : Nat → Prop) (v : Value) (xs : List (List Int)) (hS : Kd.S (Kd.slice 3 (Kd.int .i64)) 25 w base ok v xs) :
    Calls Try.prog 68 #[v, .func (.func 33) #[] #[]] w fun e' w' => ∃ v' : Value, e' = .returned v' ∧ w.grownBy w' v.ownBlock ∧ Kd.S (Kd.slice 3 (Kd.int .i64)) 25 w' base ok v' (compL xs) := by
  obtain ⟨f, h0, inner, ho, hr⟩ := hS
  have ho0 := ho
  rcases ho.2 with ⟨rfl, hn0⟩ | ⟨g, cap, cur, rfl, hb, hh, hn, hm, hs, ht⟩
  · refine (slices_CompactFunc_LLint_Lint.none_ _ w).mono ?_
    rintro e' w' ⟨rfl, rfl⟩
    obtain rfl : xs = [] := List.eq_nil_of_length_eq_zero (by rw [← List.length_zipIdx (l := xs) (i := 0)]; exact hn0)
    exact ⟨_, rfl, World.grownBy.refl _ _, Kd.S_nil _ _ _ _ _⟩
  · rw [List.length_zipIdx] at hn ht ho
    have hsz2 : (Kd.tag f (Kd.slice 3 (Kd.int .i64))).sz = 1 := rfl
    rw [hsz2] at hr ho hs ht ho0
    have hr2 : Reps ((Kd.tag f (Kd.slice 3 (Kd.int .i64))).M w base (fun k => ok k ∧ some k ≠ some g)) 1 xs.zipIdx inner := hr
    obtain ⟨D, hD1, hD2⟩ := elts _ _ hr2
    have hlD : D.length = xs.length := by have := congrArg List.length hD2; simpa using this
    let zr : Elt (Kd.slice 3 (Kd.int .i64)) f w base (fun k => ok k ∧ some k ≠ some g) := Elt.of (.slice none 0 0) ([], 0) ⟨_, rfl, Kd.R_nil _ _ _ _ _⟩
    haveI : Inhabited (Elt (Kd.slice 3 (Kd.int .i64)) f w base (fun k => ok k ∧ some k ≠ some g)) := ⟨zr⟩
    have hg : g < w.heap.size := (Array.getElem?_eq_some_iff.1 hh).1
    have hmove : ∀ (w' : World), w.grownBy w' (some g) → ∀ x : Elt (Kd.slice 3 (Kd.int .i64)) f w base (fun k => ok k ∧ some k ≠ some g), (Kd.tag f (Kd.slice 3 (Kd.int .i64))).M w' base (fun k => ok k ∧ some k ≠ some g) x.two [x.enc] :=
      fun w' hgr x => Kd.M_grown x.2 hgr (fun k hk => hk.2)
    have hown : w.ownsRow base 25 1 (.slice (some ⟨g, 0, none⟩) xs.length cap) xs.length (D.toArray.toList.map Elt.enc) := by
      rw [show D.toArray.toList.map Elt.enc = inner from hD1]
      exact ho
    have e1 : D.toArray.size = xs.length := by simp [hlD]
    have hmx : xs.length ≤ 9223372036854775807 := by unfold maxLen at hm; omega
    have hcon := slices_CompactFunc_LLint_Lint.one Elt.key (Elt.enc (d := Kd.slice 3 (Kd.int .i64)) (f := f) (w := w) (base := base)) Elt.one zr rfl 33 #[] (enters_of Try.func33 (by kernel_rfl) rfl) g 0 cap D.toArray w (holds_own hown) (by omega) (by omega)
      (fun q dk hdk x y => by
        have hrel := relaid_putRow Elt.enc w g q dk hg
        exact slices_Equal_Lint_int.dec _ x.key y.key x.enc y.enc ((Kd.tag f (Kd.slice 3 (Kd.int .i64))).K_of_M (hmove _ hrel.grown x)) ((Kd.tag f (Kd.slice 3 (Kd.int .i64))).K_of_M (hmove _ hrel.grown y)))
    have hv : Value.slice (some ⟨g, 0, none⟩) xs.zipIdx.length cap = Value.slice (some ⟨g, 0, none⟩) xs.length cap := by rw [List.length_zipIdx]
    rw [hv]
    rw [e1] at hcon
    refine hcon.mono ?_
    rintro e' w' ⟨rfl, q, rfl⟩
    have hsub : (compK Elt.key D.toArray xs.length).Sublist D := by
      have := compK_sub (key := Elt.key) D.toArray
      rw [e1] at this
      exact this
    have hlen := hsub.length_le
    obtain ⟨D', hD'⟩ : ∃ D' : Array (Elt (Kd.slice 3 (Kd.int .i64)) f w base (fun k => ok k ∧ some k ≠ some g)), D' = (compK Elt.key D.toArray xs.length ++ List.replicate (xs.length - (compK Elt.key D.toArray xs.length).length) zr).toArray := ⟨_, rfl⟩
    rw [← hD']
    have hps : D'.size = xs.length := by rw [hD']; simp; omega
    have hrel := relaid_putRow Elt.enc w g q D' hg
    have hown2 := own_relaid hown D' hps hrel
    have hl' : (D'.toList.map Elt.two).length = xs.length := by simp [hps]
    have hR : (Kd.tag f (Kd.slice 3 (Kd.int .i64))).R 25 (putRow Elt.enc (Sort.ahead w q) g 0 D') base ok (.slice (some ⟨g, 0, none⟩) xs.length cap) (D'.toList.map Elt.two) := by
      refine ⟨h0, D'.toList.map Elt.enc, ?_, ?_⟩
      · rw [hsz2, hl']; exact hown2
      · rw [hsz2]; exact reps_elts D'.toList (hmove _ hrel.grown)
    have hT := Kd.R_take hR (m := (compK Elt.key D.toArray xs.length).length) (by rw [hl']; omega)
    have htk : (D'.toList.map Elt.two).take (compK Elt.key D.toArray xs.length).length = (compK Elt.key D.toArray xs.length).map Elt.two := by
      rw [hD', ← List.map_take]
      simp
    rw [htk] at hT
    have hnd : (((compK Elt.key D.toArray xs.length).map Elt.two).map Prod.snd).Nodup := by
      have h1 := (hsub.map Elt.two).map Prod.snd
      rw [hD2] at h1
      exact List.Pairwise.sublist h1 (zip_snd_nodup xs)
    have h4 := S_of_tags hT hnd
    have hkeys : ((compK Elt.key D.toArray xs.length).map Elt.two).map Prod.fst = compL xs := by
      rw [List.map_map]
      have h5 := compK_keys (key := Elt.key) D.toArray xs.length (by omega)
      have h6 : (D.toArray.toList.take xs.length).map Elt.key = xs := by
        rw [show D.toArray.toList.take xs.length = D by rw [← hlD]; simp]
        have := congrArg (List.map Prod.fst) hD2
        rw [List.map_map, List.zipIdx_map_fst] at this
        exact this
      rw [h6] at h5
      exact h5
    rw [hkeys] at h4
    exact ⟨_, rfl, hrel.grown, h4⟩
/-! ### impl_SortPackets: function 44 -/
def impl_SortPackets.l0 : Nat → List (List Int) → List (List Int) → Int → Int → Option ((List (List Int)))
  | 0, _, _, _, _ => none
  | k + 1, x3, x6, x7, x8 => if x8 < x7 then (if 0 ≤ x8 then (if x8 < (x6.length : Int) then ((slices_Clone_Lint_int.f (rd_L1 x6 x8)).bind fun t205 => (if x3.length < 5864062014805 then (impl_SortPackets.l0 k (x3 ++ [t205]) x6 x7 (wrap64 (x8 + 1))) else (none))) else (none)) else (none)) else (if x3.length < 4611686018427387904 then (some (sortP x3)) else (none))
def impl_SortPackets.f (k : Nat) (l0 : List (List Int)) : Option ((List (List Int))) := impl_SortPackets.l0 k ([] : List (List Int)) l0 (l0.length : Int) 0
set_option maxHeartbeats 8000000 in
set_option maxRecDepth 100000 in
theorem impl_SortPackets.calls (k : Nat) (A0 : Option Addr) (c0 : Nat) (l0 : List (List Int)) (r : List (List Int)) (w : World) (hr0 : Kd.C (Kd.slice 3 (Kd.int .i64)) w A0 l0.length l0) (hc0 : l0.length ≤ c0) (h : impl_SortPackets.f k l0 = some r) :
    Calls Try.prog 44 #[.slice A0 l0.length c0] w fun e w' => ∃ v0_ : Value, e = .returned (v0_) ∧ Kd.S (Kd.slice 3 (Kd.int .i64)) 25 w' w.heap.size (fun _ => True) v0_ r ∧ Below w.heap.size w w' := by
  have HR0 := Aside0.mk hr0
  have HC0 := Aside0.mk hc0
  clear hr0 hc0
  have HB := Aside0.mk (Below.refl w.heap.size w)
  have H : (impl_SortPackets.l0 k ([] : List (List Int)) l0 (l0.length : Int) 0) = some r := h
  clear h
  have H' := Aside0.mk H
  clear H
  go_enter Try.func44, Try.ntmps44
  go_wp2
  go_loopg [3, 8] k (fun kq v3 v8 w' => ∃ (x3_1 : List (List Int)) (x8_1 : Int), v8 = .int .i64 x8_1 ∧ Aside0 (impl_SortPackets.l0 kq x3_1 l0 (l0.length : Int) x8_1 = some r) ∧ Aside0 (kq ≤ k) ∧ Aside0 (Kd.S (Kd.slice 3 (Kd.int .i64)) 25 w' w.heap.size (fun _ => True) v3 x3_1) ∧ Aside0 (Below w.heap.size w w'))
  case atStart => exact ⟨(([] : List (List Int))), (0), (by first | rfl | (simp; done) | (simp [*]; done)), H', ⟨Nat.le_refl _⟩, ⟨by first | exact Kd.S_nil _ _ _ _ _ | exact Kd.N_nil _ _ _ _ _ | exact Kd.V_nil _ _ _ _ _ | exact Kd.Q_nil _ _ _ _ _ | exact Kd.R_nil _ _ _ _ _⟩, ⟨by repeat (first | (with_reducible first | exact HB.out | apply below_alloc | apply pw_below_drewN | apply below_drew1) | exact HB.out)⟩⟩
  case round =>
    clear H'
    obtain ⟨x3_1, x8_1, rfl, HA, HK1, HO_3, HB⟩ := hrel
    cases gk with
    | zero => exact absurd HA.out (by simp [impl_SortPackets.l0])
    | succ k1 =>
      have H := HA.out
      clear HA
      simp only [impl_SortPackets.l0] at H
      by_cases c2 : x8_1 < (l0.length : Int)
      · rw [if_pos c2] at H
        have c2b0 : decide (x8_1 < (l0.length : Int)) = true := decide_eq_true c2
        clear c2
        by_cases c3 : 0 ≤ x8_1
        · rw [if_pos c3] at H
          have c3b0 : decide (0 ≤ x8_1) = true := decide_eq_true c3
          clear c3
          by_cases c4 : x8_1 < (l0.length : Int)
          · rw [if_pos c4] at H
            have c4b0 : decide (x8_1 < (l0.length : Int)) = true := decide_eq_true c4
            clear c4
            replace H := Option.bind_eq_some_iff.mp H
            obtain ⟨t205, A50, H⟩ := H
            replace H : (if x3_1.length < 5864062014805 then (impl_SortPackets.l0 k1 (x3_1 ++ [t205]) l0 (l0.length : Int) (wrap64 (x8_1 + 1))) else (none)) = some r := H
            have A5 := Aside0.mk A50
            clear A50
            by_cases c6 : x3_1.length < 5864062014805
            · rw [if_pos c6] at H
              have LMc6 := Aside0.mk c6
              clear c6
              obtain ⟨y208, hy208⟩ : ∃ y_ : List (List Int), y_ = (x3_1 ++ [t205]) := ⟨_, rfl⟩
              replace H : (impl_SortPackets.l0 k1 y208 l0 (l0.length : Int) (wrap64 (x8_1 + 1))) = some r := by first | (rw [hy208]; with_reducible exact H) | (have H2_ := (Option.bind_some _ _).symm.trans H; rw [hy208]; with_reducible exact H2_) | (have H2_ := (Option.bind_some _ _).symm.trans H; with_reducible exact H2_) | with_reducible exact H | (rw [hy208]; exact H) | exact H
              have Ny208 := Aside0.mk hy208
              clear hy208
              have H' := Aside0.mk H
              clear H
              have p204 : 0 ≤ (x8_1 : Int) := of_decide_eq_true (by first | (with_reducible assumption) | assumption)
              have q204 : x8_1 < (l0.length : Int) := of_decide_eq_true (by first | (with_reducible assumption) | assumption)
              obtain ⟨ad204, A204_0, c204_0, e204, hx204_0, hl204_0, hi204_0⟩ := at_L1 HR0.out x8_1 p204 q204
              cases e204
              replace hx204_0 := (HB.out.cell (World.block_lt_of_cell? w _ hx204_0)).trans hx204_0
              have HR204_0 := Aside0.mk hi204_0
              have HC204_0 := Aside0.mk hl204_0
              clear hi204_0 hl204_0
              replace p204 := eq_true p204
              replace q204 := eq_true q204
              go_wp2_with (first | ((with_reducible refine gate_callee (f := 35) rfl ?_); refine goesL_ (some 14) rfl rfl Try.func35 (by kernel_rfl) rfl #[.slice A204_0 (rd_L1 l0 x8_1).length c204_0] rfl (by (try simp only [List.map_toArray, List.map_cons, List.map_nil]); first | done | rfl | (simp only [List.length_drop, List.length_take]; rfl)) ?_; (with_reducible refine (slices_Clone_Lint_int.calls _ _ (rd_L1 l0 x8_1) t205 _ ?side1 ?side2 A5.out).mono ?_); (case side1 => repeat (first | exact (Kd.C_below HR204_0.out HB.out) | (with_reducible refine Kd.C_alloc ?_ _) | (with_reducible refine Kd.C_drewN ?_ _) | (with_reducible refine Kd.C_drew ?_))); (case side2 => exact HC204_0.out); rintro e w7 ⟨v206, rfl, ho0, hb⟩; refine ⟨_, rfl, ?_⟩; have n0_ := Aside0.mk (Kd.S_elder' (by (with_reducible repeat (first | apply Kd.S_alloc | apply Kd.S_drewN | apply Kd.S_drew)); exact HO_3.out) (Kd.R_base ho0) hb); have n1_ := Aside0.mk (Kd.R_lower ho0 (below_size (by repeat (first | (with_reducible first | exact HB.out | apply below_alloc | apply pw_below_drewN | apply below_drew1) | exact HB.out)))); have n2_ := Aside0.mk (below_step (by repeat (first | (with_reducible first | exact HB.out | apply below_alloc | apply pw_below_drewN | apply below_drew1) | exact HB.out)) hb); clear HO_3; clear HB; have HO_3 := n0_; have HO207 := n1_; have HB := n2_; clear n0_ n1_ n2_; (try clear hb); (try clear hb2); (try clear hk); (try clear hi); (try clear ho0); obtain ⟨Ao9, co9, eo9⟩ := Kd.R_slice HO207.out; subst eo9) | ((with_reducible refine gate_builtin (b := .append) (xs := #[.tmp 12, .tmp 15]) rfl ?_); at_builtin; refine Kd.S_append (Kd.slice 3 (Kd.int .i64)) (w0 := w) w.heap.size rfl (.tmp 12) (.tmp 15) 22 25 (.slice none 0 0) 24 rfl Try.underlying22 info25 rfl (by decide) (by omega) u3 x3_1 t205 [.slice Ao9 t205.length co9] (fun _ => True) (fun k_ => some k_ = (.slice Ao9 t205.length co9 : Value).ownBlock) rfl rfl ?aP (fun k_ hk_ => ((Kd.R_mono (ok' := fun k_ => ((fun _ => True)) k_ ∧ some k_ ≠ (u3 : Value).ownBlock) (Kd.R_apart' (HO207.out) (Kd.S_typed HO_3.out) (by decide)) (fun k_ hk => ⟨trivial, hk.2⟩))).1 k_ hk_.symm) ?aF ?aO ?aB ?aS ?aL ?_; (case aP => exact Kd.M_row (Kd.R_mono (Kd.R_tight rfl (Kd.R_mono (ok' := fun k_ => ((fun _ => True)) k_ ∧ some k_ ≠ (u3 : Value).ownBlock) (Kd.R_apart' (HO207.out) (Kd.S_typed HO_3.out) (by decide)) (fun k_ hk => ⟨trivial, hk.2⟩))) (fun _ h_ => h_))); (case aB => exact (by repeat (first | (with_reducible first | exact HB.out | apply below_alloc | apply pw_below_drewN | apply below_drew1) | exact HB.out))); (case aF => exact (fun _ _ => trivial)); (case aO => exact (by (with_reducible repeat (first | apply Kd.S_alloc | apply Kd.S_drewN | apply Kd.S_drew)); exact Kd.S_mono HO_3.out (fun k_ hk => ⟨trivial, fun e_ => hk.2 e_⟩))); (case aS => exact (below_size (by repeat (first | (with_reducible first | exact HB.out | apply below_alloc | apply pw_below_drewN | apply below_drew1) | exact HB.out)))); (case aL => have := LMc6.out; omega); intro v209 w8 ho hb hg hat; rw [← Ny208.out] at ho; have n0_ := Aside0.mk (hb); have n1_ := Aside0.mk (ho); clear HB; clear HO_3; clear HO207; have HB := n0_; have HO210 := n1_; clear n0_ n1_; clear ho hb hg hat))
              go_roundg k1
              case measure => have := HK1.out; omega
              case rel => exact ⟨(y208), (wrap64 (x8_1 + 1)), (by first | rfl | (simp; done) | (simp [*]; done)), H', ⟨by have := HK1.out; omega⟩, ⟨by (with_reducible repeat (first | apply Kd.S_alloc | apply Kd.S_drewN | apply Kd.S_drew)); exact HO210.out⟩, ⟨by repeat (first | (with_reducible first | exact HB.out | apply below_alloc | apply pw_below_drewN | apply below_drew1) | exact HB.out)⟩⟩
            · rw [if_neg c6] at H
              exact absurd H (by simp)
          · rw [if_neg c4] at H
            exact absurd H (by simp)
        · rw [if_neg c3] at H
          exact absurd H (by simp)
      · rw [if_neg c2] at H
        have c2b0 : decide (x8_1 < (l0.length : Int)) = false := decide_eq_false c2
        clear c2
        by_cases c9 : x3_1.length < 4611686018427387904
        · rw [if_pos c9] at H
          obtain rfl := Option.some.inj H
          have LM9 := Aside0.mk c9
          clear H c9
          go_wp2_with (first | (go_at_call 66; refine (slices_SortFunc_LLint_Lint.onS _ w.heap.size (fun _ => True) u3 x3_1 HO_3.out LM9.out).mono ?_; rintro e w9 ⟨rfl, hg, hS⟩; have HB9 := Aside0.mk (pw_below_grown HB.out _ (below_size HB.out) hg (Kd.S_base HO_3.out)); have HO9 := Aside0.mk hS; clear hg hS HB HO_3) | (go_at_call 68; refine (slices_CompactFunc_LLint_Lint.onS _ w.heap.size (fun _ => True) u3 (sortL x3_1) HO9.out).mono ?_; rintro e w10 ⟨v10, rfl, hg, hS⟩; have HB10 := Aside0.mk (pw_below_grown HB9.out _ (below_size HB9.out) hg (Kd.S_base HO9.out)); have HO10 := Aside0.mk hS; clear hg hS HB9 HO9))
          go_ret
          exact ⟨_, rfl, HO10.out, HB10.out⟩
        · rw [if_neg c9] at H
          exact absurd H (by simp)
end Go.Proofs.Ytobncomimkmoeaa.F
-- SORTED BY CONTRACTS
end
section
/- Laid by a program of this claim's own. What the Go function does, as a Lean function, and the proof that the Go code does just that; Lean checks it. -/
namespace Go.Proofs.Ytobncomimkmoeaa.F
open Go.RowKit Go.Proofs.YtobncomimkmoeaaW.PrintWords Go.Proofs.YtobncomimkmoeaaW.PrintLast Go.Proofs.YtobncomimkmoeaaW.PrintMore
attribute [local go_sem] max2_int min2_int max_two min_two max_three min_three max_four min_four   -- for this text's walks alone
set_option linter.unusedVariables false
set_option linter.unusedSimpArgs false
/-! ### impl_CardOf: function 64 -/
def impl_CardOf.f (a0 : Int) : Option (Int) := if a0 < 0 then (if (wrap64 ((-1) - a0)) ≥ 12 then (some (-1)) else (some (wrap64 ((-1) - a0)))) else (if a0 ≥ 12 then (some (-1)) else (some a0))
set_option maxHeartbeats 8000000 in
set_option maxRecDepth 100000 in
theorem impl_CardOf.calls (a0 : Int) (r : Int) (w : World) (h : impl_CardOf.f a0 = some r) :
    Calls Try.prog 64 #[.int .i64 a0] w fun e w' => e = .returned (.int .i64 r) ∧ Drawn0 w w' := by
  have H : (if a0 < 0 then (if (wrap64 ((-1) - a0)) ≥ 12 then (some (-1)) else (some (wrap64 ((-1) - a0)))) else (if a0 ≥ 12 then (some (-1)) else (some a0))) = some r := h
  clear h
  by_cases c2 : a0 < 0
  · rw [if_pos c2] at H
    have c2b0 : decide (a0 < 0) = true := decide_eq_true c2
    clear c2
    by_cases c3 : (wrap64 ((-1) - a0)) ≥ 12
    · rw [if_pos c3] at H
      have c3b0 : decide (12 ≤ (wrap64 ((-1) - a0))) = true := decide_eq_true c3
      clear c3
      obtain rfl := Option.some.inj H
      go_enter Try.func64, Try.ntmps64
      go_wp2
      go_ret
      exact ⟨by first | rfl | (simp; done) | (simp [*]; done), by repeat (first | exact Drawn0.refl _ | apply Drawn0.step)⟩
    · rw [if_neg c3] at H
      have c3b0 : decide (12 ≤ (wrap64 ((-1) - a0))) = false := decide_eq_false c3
      clear c3
      obtain rfl := Option.some.inj H
      go_enter Try.func64, Try.ntmps64
      go_wp2
      go_ret
      exact ⟨by first | rfl | (simp; done) | (simp [*]; done), by repeat (first | exact Drawn0.refl _ | apply Drawn0.step)⟩
  · rw [if_neg c2] at H
    have c2b0 : decide (a0 < 0) = false := decide_eq_false c2
    clear c2
    by_cases c4 : a0 ≥ 12
    · rw [if_pos c4] at H
      have c4b0 : decide (12 ≤ a0) = true := decide_eq_true c4
      clear c4
      obtain rfl := Option.some.inj H
      go_enter Try.func64, Try.ntmps64
      go_wp2
      go_ret
      exact ⟨by first | rfl | (simp; done) | (simp [*]; done), by repeat (first | exact Drawn0.refl _ | apply Drawn0.step)⟩
    · rw [if_neg c4] at H
      have c4b0 : decide (12 ≤ a0) = false := decide_eq_false c4
      clear c4
      obtain rfl := Option.some.inj H
      go_enter Try.func64, Try.ntmps64
      go_wp2
      go_ret
      exact ⟨by first | rfl | (simp; done) | (simp [*]; done), by repeat (first | exact Drawn0.refl _ | apply Drawn0.step)⟩
end Go.Proofs.Ytobncomimkmoeaa.F
end
section
/- Laid by a program of this claim's own. What the Go function does, as a Lean function, and the proof that the Go code does just that; Lean checks it. -/
namespace Go.Proofs.Ytobncomimkmoeaa.F
open Go.RowKit Go.Proofs.YtobncomimkmoeaaW.PrintWords Go.Proofs.YtobncomimkmoeaaW.PrintLast Go.Proofs.YtobncomimkmoeaaW.PrintMore
attribute [local go_sem] max2_int min2_int max_two min_two max_three min_three max_four min_four   -- for this text's walks alone
set_option linter.unusedVariables false
set_option linter.unusedSimpArgs false
/-! ### impl_PacketOk: function 42 -/
def impl_PacketOk.l0 : Nat → List Int → List Bool → Int → Option (Bool)
  | 0, _, _, _ => none
  | k + 1, l, met, x => if x < (l.length : Int) then (if 0 ≤ x then ((impl_CardOf.f (rd l x)).bind fun c => (if c < 0 then (some false) else (if c < 12 then (if met.getD c.toNat false = true then (some false) else (impl_PacketOk.l0 k l (met.set c.toNat true) (wrap64 (x + 1)))) else (none)))) else (none)) else (some true)
def impl_PacketOk.f (k : Nat) (l0 : List Int) : Option (Bool) := impl_PacketOk.l0 k l0 (List.replicate 12 false) 0
set_option maxHeartbeats 8000000 in
set_option maxRecDepth 100000 in
theorem impl_PacketOk.calls (k : Nat) (A0 : Option Addr) (c0 : Nat) (l0 : List Int) (r : Bool) (w : World) (hr0 : Kd.C (Kd.int .i64) w A0 l0.length l0) (hc0 : l0.length ≤ c0) (h : impl_PacketOk.f k l0 = some r) :
    Calls Try.prog 42 #[.slice A0 l0.length c0] w fun e w' => e = .returned (.bool r) ∧ Below w.heap.size w w' := by
  have HR0 := Aside0.mk hr0
  have HC0 := Aside0.mk hc0
  clear hr0 hc0
  have H' := Aside0.mk h
  clear h
  go_enter Try.func42, Try.ntmps42
  go_wp2
  go_loopg [9] k (fun kq v9 w' => ∃ (x9 : Int) (met : List Bool), v9 = .int .i64 x9 ∧ Aside0 (impl_PacketOk.l0 kq l0 met x9 = some r) ∧ Aside0 (kq ≤ k) ∧ Aside0 (met.length = 12) ∧ Aside0 (Whole w' w.heap.size 71 (boolRow met)) ∧ Aside0 (Below w.heap.size w w'))
  case atStart => exact ⟨0, List.replicate 12 false, rfl, H', ⟨Nat.le_refl _⟩, ⟨rfl⟩, ⟨Whole.new w 71 _⟩, ⟨(Below.refl _ _).alloc (Nat.le_refl _) _⟩⟩
  case round =>
    clear H'
    obtain ⟨x9, met, rfl, HA, HK1, HL, HW, HB⟩ := hrel
    cases gk with
    | zero => exact absurd HA.out (by simp [impl_PacketOk.l0])
    | succ k1 =>
      have H := HA.out
      clear HA
      simp only [impl_PacketOk.l0] at H
      by_cases c4 : x9 < (l0.length : Int)
      · rw [if_pos c4] at H
        have c4b0 : decide (x9 < (l0.length : Int)) = true := decide_eq_true c4
        by_cases c5 : 0 ≤ x9
        · rw [if_pos c5] at H
          have c5b0 : decide (0 ≤ x9) = true := decide_eq_true c5
          obtain ⟨ad, ead, hx0⟩ := Kd.at_int (Kd.C_below HR0.out HB.out) x9 c5 c4
          cases ead
          replace c4 := eq_true c4
          replace c5 := eq_true c5
          replace H := Option.bind_eq_some_iff.mp H
          obtain ⟨c, A7, H⟩ := H
          have A8 := Aside0.mk A7
          clear A7
          by_cases c6 : c < 0
          · rw [if_pos c6] at H
            have c6b0 : decide (c < 0) = true := decide_eq_true c6
            clear c6
            obtain rfl := Option.some.inj H
            go_wp2_with (go_at_call 64; (with_reducible refine (impl_CardOf.calls (rd l0 x9) c _ A8.out).mono ?_); rintro e w' ⟨rfl, ⟨nd, rfl⟩⟩)
            go_ret
            exact ⟨rfl, by repeat (first | (with_reducible first | exact HB.out | apply below_alloc | apply pw_below_drewN | apply below_drew1) | exact HB.out)⟩
          · rw [if_neg c6] at H
            have c6b0 : decide (c < 0) = false := decide_eq_false c6
            have c6b1 : decide (0 ≤ c) = true := decide_eq_true (by omega)
            by_cases c7 : c < 12
            · rw [if_pos c7] at H
              have c7b0 : decide (c < 12) = true := decide_eq_true c7
              have hcl : c.toNat < met.length := by have := HL.out; omega
              have hcell := HW.out.cell c.toNat
              rw [boolRow_at met c.toNat hcl] at hcell
              have hfr := HW.out.free c.toNat
              have p7 := eq_true (show 0 ≤ c by omega)
              have q7 := eq_true c7
              clear c6 c7
              by_cases c8 : met.getD c.toNat false = true
              · rw [if_pos c8] at H
                rw [c8] at hcell
                obtain rfl := Option.some.inj H
                go_wp2_with (go_at_call 64; (with_reducible refine (impl_CardOf.calls (rd l0 x9) c _ A8.out).mono ?_); rintro e w' ⟨rfl, ⟨nd, rfl⟩⟩)
                go_ret
                exact ⟨rfl, by repeat (first | (with_reducible first | exact HB.out | apply below_alloc | apply pw_below_drewN | apply below_drew1) | exact HB.out)⟩
              · rw [if_neg c8] at H
                replace c8 := Bool.eq_false_iff.mpr c8
                rw [c8] at hcell
                have H' := Aside0.mk H
                clear H
                go_wp2_with (go_at_call 64; (with_reducible refine (impl_CardOf.calls (rd l0 x9) c _ A8.out).mono ?_); rintro e w' ⟨rfl, ⟨nd, rfl⟩⟩)
                go_roundg k1
                case measure => have := HK1.out; omega
                case rel => exact ⟨wrap64 (x9 + 1), met.set c.toNat true, rfl, H', ⟨by have := HK1.out; omega⟩, ⟨by rw [List.length_set]; exact HL.out⟩, ⟨by first | (rw [← boolRow_set]; exact (HW.out.put c.toNat (.bool true)).drewN _) | (rw [← boolRow_set]; exact (HW.out.drewN _).put c.toNat (.bool true))⟩, ⟨by first | exact (pw_below_drewN HB.out _).setCell (Nat.le_refl _) _ | exact pw_below_drewN (HB.out.setCell (Nat.le_refl _) _) _⟩⟩
            · rw [if_neg c7] at H
              exact absurd H (by simp)
        · rw [if_neg c5] at H
          exact absurd H (by simp)
      · rw [if_neg c4] at H
        have c4b0 : decide (x9 < (l0.length : Int)) = false := decide_eq_false c4
        clear c4
        obtain rfl := Option.some.inj H
        go_wp2
        go_ret
        exact ⟨rfl, by repeat (first | (with_reducible first | exact HB.out | apply below_alloc | apply pw_below_drewN | apply below_drew1) | exact HB.out)⟩
end Go.Proofs.Ytobncomimkmoeaa.F
end
section
/- Laid by a program of this claim's own. What the Go function does, as a Lean function, and the proof that the Go code does just that; Lean checks it. -/
namespace Go.Proofs.Ytobncomimkmoeaa.F
open Go.RowKit Go.Proofs.YtobncomimkmoeaaW.PrintWords Go.Proofs.YtobncomimkmoeaaW.PrintLast Go.Proofs.YtobncomimkmoeaaW.PrintMore
attribute [local go_sem] max2_int min2_int max_two min_two max_three min_three max_four min_four   -- for this text's walks alone
set_option linter.unusedVariables false
set_option linter.unusedSimpArgs false
/-! ### slices_Grow_Lint_int__nil: function 108 -/
def slices_Grow_Lint_int__nil.f (a1 : Int) : Option (List Int) := if 0 ≤ a1 then (if a1 < 17592186044416 then some [] else none) else none
set_option maxHeartbeats 8000000 in
set_option maxRecDepth 100000 in
theorem slices_Grow_Lint_int__nil.calls (a1 : Int) (r : List Int) (w : World) (h : slices_Grow_Lint_int__nil.f a1 = some r) :
    Calls Try.prog 108 #[.slice none 0 0, .int .i64 a1] w fun e w' => ∃ v0_ : Value, e = .returned (v0_) ∧ Kd.R (Kd.int .i64) 3 w' w.heap.size (fun _ => True) v0_ r ∧ Below w.heap.size w w' := by
  have HB := Aside0.mk (Below.refl w.heap.size w)
  unfold slices_Grow_Lint_int__nil.f at h
  by_cases c1 : 0 ≤ a1
  · rw [if_pos c1] at h
    by_cases c2 : a1 < 17592186044416
    · rw [if_pos c2] at h
      obtain rfl := Option.some.inj h
      have c3 : decide (a1 < 0) = false := decide_eq_false (by omega)
      by_cases c4 : 0 < a1
      · have c5 : decide (0 < a1) = true := decide_eq_true c4
        have c6 : decide (0 ≤ a1) = true := decide_eq_true c1
        obtain ⟨y281, hy281⟩ : ∃ y_ : List Int, y_ = (([] : List Int) ++ List.replicate (a1 : Int).toNat 0) := ⟨_, rfl⟩
        have hc7 : 0 ≤ (y281.length : Int) := Int.natCast_nonneg _
        have c7b0 := eq_true hc7
        have c7b1 : decide (0 ≤ (y281.length : Int)) = true := decide_eq_true hc7
        have Ny281 := Aside0.mk hy281
        have LM := Aside0.mk c2
        clear hy281 hc7 h
        go_enter Try.func108, Try.ntmps108
        go_wp2_with (first | (at_builtin; refine Kd.R_append_zeros (Kd.int .i64) (w0 := w) w.heap.size rfl (.tmp 20) (.tmp 21) 25 3 3 (.int .i64 0) 8 rfl Try.underlying25 Try.underlying3 info3 rfl (by decide) (by omega) (.slice none 0 0) ([] : List Int) 0 (a1 : Int) (fun _ => True) rfl rfl rfl ?aF ?aO c1 ?aB ?aS ?aL ?_; (case aB => exact (by repeat (first | (with_reducible first | exact HB.out | apply below_alloc | apply pw_below_drewN | apply below_drew1) | exact HB.out))); (case aF => exact (fun _ _ => trivial)); (case aO => exact ((Kd.R_nil _ _ _ _ (fun _ => True)))); (case aS => exact (below_size (by repeat (first | (with_reducible first | exact HB.out | apply below_alloc | apply pw_below_drewN | apply below_drew1) | exact HB.out)))); (case aL => have := LM.out; simp; omega); intro v282 w8 ho hb hg hat; rw [← Ny281.out] at ho; have n0_ := Aside0.mk (hb); have n1_ := Aside0.mk (ho); clear HB; have HB := n0_; have HO283 := n1_; clear n0_ n1_; clear ho hb hg hat; obtain ⟨Ao9, co9, eo9⟩ := Kd.R_slice HO283.out; subst eo9; obtain ⟨i010, hi010, _, hsz10, _⟩ := info_parts info3; have hcut10 := cut_to (P := Try.prog) 25 3 .i64 Try.underlying25 hi010 Ao9 y281.length co9 0 (by omega) (Int.natCast_nonneg _) (Kd.R_reads' HO283.out).2.1; have hr10 := Kd.R_take (m := 0) HO283.out (Nat.zero_le _); clear hi010 hsz10 HO283; have HO286 := Aside0.mk hr10; clear hr10))
        go_ret
        exact ⟨_, by first | rfl | (simp [errW_none, errW_some] <;> rfl) | (simp [*, errW_none, errW_some] <;> rfl), by (with_reducible repeat (first | apply Kd.R_alloc | apply Kd.R_drewN | apply Kd.R_drew)); exact HO286.out, by repeat (first | (with_reducible first | exact HB.out | apply below_alloc | apply pw_below_drewN | apply below_drew1) | exact HB.out)⟩
      · obtain rfl : a1 = 0 := by omega
        clear c1 c2 c4 h c3
        go_enter Try.func108, Try.ntmps108
        go_wp2
        go_ret
        exact ⟨_, rfl, Kd.R_nil _ _ _ _ _, HB.out⟩
    · rw [if_neg c2] at h
      cases h
  · rw [if_neg c1] at h
    cases h
/-! ### slices_Concat_Lint_int: function 90 -/
mutual
def slices_Concat_Lint_int.l0 : Nat → List (List Int) → Int → List (List Int) → Int → Int → Option (List Int)
  | 0, _, _, _, _, _ => none
  | k + 1, x0, x3, x9, x10, x11 => if x11 < x10 then (if 0 ≤ x11 then (if x11 < (x9.length : Int) then (if (wrap64 (x3 + ((rd_L1 x9 x11).length : Int))) < 0 then (none) else (slices_Concat_Lint_int.l0 k x0 (wrap64 (x3 + ((rd_L1 x9 x11).length : Int))) x9 x10 (wrap64 (x11 + 1)))) else (none)) else (none)) else ((slices_Grow_Lint_int__nil.f x3).bind fun t439 => (slices_Concat_Lint_int.l1 k t439 x0 (x0.length : Int) 0))
def slices_Concat_Lint_int.l1 : Nat → List Int → List (List Int) → Int → Int → Option (List Int)
  | 0, _, _, _, _ => none
  | k + 1, x6, x25, x26, x27 => if x27 < x26 then (if 0 ≤ x27 then (if x27 < (x25.length : Int) then (if x6.length + (rd_L1 x25 x27).length < 17592186044416 then (slices_Concat_Lint_int.l1 k (x6 ++ (rd_L1 x25 x27)) x25 x26 (wrap64 (x27 + 1))) else (none)) else (none)) else (none)) else (some x6)
end
def slices_Concat_Lint_int.f (k : Nat) (l0 : List (List Int)) : Option (List Int) := slices_Concat_Lint_int.l0 k l0 0 l0 (l0.length : Int) 0
set_option maxHeartbeats 8000000 in
set_option maxRecDepth 100000 in
theorem slices_Concat_Lint_int.calls (k : Nat) (A0 : Option Addr) (c0 : Nat) (l0 : List (List Int)) (r : List Int) (w : World) (hr0 : Kd.C (Kd.slice 3 (Kd.int .i64)) w A0 l0.length l0) (hc0 : l0.length ≤ c0) (h : slices_Concat_Lint_int.f k l0 = some r) :
    Calls Try.prog 90 #[.slice A0 l0.length c0] w fun e w' => ∃ v0_ : Value, e = .returned (v0_) ∧ Kd.R (Kd.int .i64) 3 w' w.heap.size (fun _ => True) v0_ r ∧ Below w.heap.size w w' := by
  have HR0 := Aside0.mk hr0
  have HC0 := Aside0.mk hc0
  clear hr0 hc0
  have HB := Aside0.mk (Below.refl w.heap.size w)
  have H : (slices_Concat_Lint_int.l0 k l0 0 l0 (l0.length : Int) 0) = some r := h
  clear h
  have H' := Aside0.mk H
  clear H
  go_enter Try.func90, Try.ntmps90
  go_wp2
  go_loopg [3, 11] k (fun kq v3 v11 w' => ∃ (x3_1 : Int) (x11_1 : Int), v3 = .int .i64 x3_1 ∧ v11 = .int .i64 x11_1 ∧ Aside0 (slices_Concat_Lint_int.l0 kq l0 x3_1 l0 (l0.length : Int) x11_1 = some r) ∧ Aside0 (kq ≤ k) ∧ Aside0 (Below w.heap.size w w'))
  case atStart => exact ⟨(0), (0), (by first | rfl | (simp; done) | (simp [*]; done)), (by first | rfl | (simp; done) | (simp [*]; done)), H', ⟨Nat.le_refl _⟩, ⟨by repeat (first | (with_reducible first | exact HB.out | apply below_alloc | apply pw_below_drewN | apply below_drew1) | exact HB.out)⟩⟩
  case round =>
    clear H'
    obtain ⟨x3_1, x11_1, rfl, rfl, HA, HK1, HB⟩ := hrel
    cases gk with
    | zero => exact absurd HA.out (by simp [slices_Concat_Lint_int.l0])
    | succ k1 =>
      have H := HA.out
      clear HA
      simp only [slices_Concat_Lint_int.l0] at H
      by_cases c2 : x11_1 < (l0.length : Int)
      · rw [if_pos c2] at H
        have c2b0 : decide (x11_1 < (l0.length : Int)) = true := decide_eq_true c2
        clear c2
        by_cases c3 : 0 ≤ x11_1
        · rw [if_pos c3] at H
          have c3b0 : decide (0 ≤ x11_1) = true := decide_eq_true c3
          clear c3
          by_cases c4 : x11_1 < (l0.length : Int)
          · rw [if_pos c4] at H
            have c4b0 : decide (x11_1 < (l0.length : Int)) = true := decide_eq_true c4
            clear c4
            by_cases c5 : (wrap64 (x3_1 + ((rd_L1 l0 x11_1).length : Int))) < 0
            · rw [if_pos c5] at H
              exact absurd H (by simp)
            · rw [if_neg c5] at H
              have c5b0 : decide ((wrap64 (x3_1 + ((rd_L1 l0 x11_1).length : Int))) < 0) = false := decide_eq_false c5
              clear c5
              have H' := Aside0.mk H
              clear H
              have p438 : 0 ≤ (x11_1 : Int) := of_decide_eq_true (by first | (with_reducible assumption) | assumption)
              have q438 : x11_1 < (l0.length : Int) := of_decide_eq_true (by first | (with_reducible assumption) | assumption)
              obtain ⟨ad438, A438_0, c438_0, e438, hx438_0, hl438_0, hi438_0⟩ := at_L1 HR0.out x11_1 p438 q438
              cases e438
              replace hx438_0 := (HB.out.cell (World.block_lt_of_cell? w _ hx438_0)).trans hx438_0
              have HR438_0 := Aside0.mk hi438_0
              have HC438_0 := Aside0.mk hl438_0
              clear hi438_0 hl438_0
              replace p438 := eq_true p438
              replace q438 := eq_true q438
              go_wp2
              go_roundg k1
              case measure => have := HK1.out; omega
              case rel => exact ⟨(wrap64 (x3_1 + ((rd_L1 l0 x11_1).length : Int))), (wrap64 (x11_1 + 1)), (by first | rfl | (simp; done) | (simp [*]; done)), (by first | rfl | (simp; done) | (simp [*]; done)), H', ⟨by have := HK1.out; omega⟩, ⟨by repeat (first | (with_reducible first | exact HB.out | apply below_alloc | apply pw_below_drewN | apply below_drew1) | exact HB.out)⟩⟩
          · rw [if_neg c4] at H
            exact absurd H (by simp)
        · rw [if_neg c3] at H
          exact absurd H (by simp)
      · rw [if_neg c2] at H
        have c2b0 : decide (x11_1 < (l0.length : Int)) = false := decide_eq_false c2
        clear c2
        replace H := Option.bind_eq_some_iff.mp H
        obtain ⟨t439, A60, H⟩ := H
        replace H : (slices_Concat_Lint_int.l1 k1 t439 l0 (l0.length : Int) 0) = some r := H
        have A6 := Aside0.mk A60
        clear A60
        have H' := Aside0.mk H
        clear H
        go_wp2_with (first | ((with_reducible refine gate_callee (f := 108) rfl ?_); refine goesL_ (some 24) rfl rfl Try.func108 (by kernel_rfl) rfl #[.slice none 0 0, .int .i64 x3_1] rfl (by (try simp only [List.map_toArray, List.map_cons, List.map_nil]); first | done | rfl | (simp only [List.length_drop, List.length_take]; rfl)) ?_; (with_reducible refine (slices_Grow_Lint_int__nil.calls x3_1 t439 _ A6.out).mono ?_); rintro e w7 ⟨v440, rfl, ho0, hb⟩; refine ⟨_, rfl, ?_⟩; have n0_ := Aside0.mk (Kd.R_lower ho0 (below_size (by repeat (first | (with_reducible first | exact HB.out | apply below_alloc | apply pw_below_drewN | apply below_drew1) | exact HB.out)))); have n1_ := Aside0.mk (below_step (by repeat (first | (with_reducible first | exact HB.out | apply below_alloc | apply pw_below_drewN | apply below_drew1) | exact HB.out)) hb); clear HB; have HO441 := n0_; have HB := n1_; clear n0_ n1_; (try clear hb); (try clear hb2); (try clear hk); (try clear hi); (try clear ho0)))
        go_loopg [6, 27] k1 (fun kq v6 v27 w' => ∃ (x6_2 : List Int) (x27_2 : Int), v27 = .int .i64 x27_2 ∧ Aside0 (slices_Concat_Lint_int.l1 kq x6_2 l0 (l0.length : Int) x27_2 = some r) ∧ Aside0 (kq ≤ k1) ∧ Aside0 (Kd.R (Kd.int .i64) 3 w' w.heap.size (fun _ => True) v6 x6_2) ∧ Aside0 (Below w.heap.size w w'))
        case atStart => exact ⟨(t439), (0), (by first | rfl | (simp; done) | (simp [*]; done)), H', ⟨Nat.le_refl _⟩, ⟨by (with_reducible repeat (first | apply Kd.R_alloc | apply Kd.R_drewN | apply Kd.R_drew)); exact HO441.out⟩, ⟨by repeat (first | (with_reducible first | exact HB.out | apply below_alloc | apply pw_below_drewN | apply below_drew1) | exact HB.out)⟩⟩
        case round =>
          clear H'
          try clear c2
          try clear c2b0
          try clear p2
          try clear c3
          try clear c3b0
          try clear c4
          try clear c4b0
          try clear p4
          try clear q4
          try clear hx4
          try clear c5
          try clear c5b0
          try clear p6
          try clear hx438_0
          try clear p438
          try clear q438
          obtain ⟨x6_2, x27_2, rfl, HA, HK2, HO_6, HB⟩ := hrel
          cases gk with
          | zero => exact absurd HA.out (by simp [slices_Concat_Lint_int.l1])
          | succ k2 =>
            have H := HA.out
            clear HA
            simp only [slices_Concat_Lint_int.l1] at H
            by_cases c8 : x27_2 < (l0.length : Int)
            · rw [if_pos c8] at H
              have c8b0 : decide (x27_2 < (l0.length : Int)) = true := decide_eq_true c8
              clear c8
              by_cases c9 : 0 ≤ x27_2
              · rw [if_pos c9] at H
                have c9b0 : decide (0 ≤ x27_2) = true := decide_eq_true c9
                clear c9
                by_cases c10 : x27_2 < (l0.length : Int)
                · rw [if_pos c10] at H
                  have c10b0 : decide (x27_2 < (l0.length : Int)) = true := decide_eq_true c10
                  clear c10
                  by_cases c11 : x6_2.length + (rd_L1 l0 x27_2).length < 17592186044416
                  · rw [if_pos c11] at H
                    have LMc11 := Aside0.mk c11
                    clear c11
                    obtain ⟨y443, hy443⟩ : ∃ y_ : List Int, y_ = (x6_2 ++ (rd_L1 l0 x27_2)) := ⟨_, rfl⟩
                    replace H : (slices_Concat_Lint_int.l1 k2 y443 l0 (l0.length : Int) (wrap64 (x27_2 + 1))) = some r := by first | (rw [hy443]; with_reducible exact H) | (have H2_ := (Option.bind_some _ _).symm.trans H; rw [hy443]; with_reducible exact H2_) | (have H2_ := (Option.bind_some _ _).symm.trans H; with_reducible exact H2_) | with_reducible exact H | (rw [hy443]; exact H) | exact H
                    have Ny443 := Aside0.mk hy443
                    clear hy443
                    have H' := Aside0.mk H
                    clear H
                    have p442 : 0 ≤ (x27_2 : Int) := of_decide_eq_true (by first | (with_reducible assumption) | assumption)
                    have q442 : x27_2 < (l0.length : Int) := of_decide_eq_true (by first | (with_reducible assumption) | assumption)
                    obtain ⟨ad442, A442_0, c442_0, e442, hx442_0, hl442_0, hi442_0⟩ := at_L1 HR0.out x27_2 p442 q442
                    cases e442
                    replace hx442_0 := (HB.out.cell (World.block_lt_of_cell? w _ hx442_0)).trans hx442_0
                    have HR442_0 := Aside0.mk hi442_0
                    have HC442_0 := Aside0.mk hl442_0
                    clear hi442_0 hl442_0
                    replace p442 := eq_true p442
                    replace q442 := eq_true q442
                    go_wp2_with (first | ((with_reducible refine gate_builtin (b := .append) (xs := #[.tmp 31, .tmp 32]) rfl ?_); at_builtin; refine Kd.R_append_rows (Kd.int .i64) (w0 := w) w.heap.size rfl (.tmp 31) (.tmp 32) 25 3 (.int .i64 0) 8 rfl Try.underlying25 info3 rfl (by decide) (by omega) u6 x6_2 (rd_L1 l0 x27_2) _ _ _ (fun _ => True) (fun _ => False) rfl rfl ?aO ?aR (fun _ _ h => h) (fun _ h => h.elim) ?aF ?aB ?aS ?aL ?_; (case aR => repeat (first | exact (Kd.C_below HR442_0.out HB.out) | (with_reducible refine Kd.C_alloc ?_ _) | (with_reducible refine Kd.C_drewN ?_ _) | (with_reducible refine Kd.C_drew ?_))); (case aB => exact (by repeat (first | (with_reducible first | exact HB.out | apply below_alloc | apply pw_below_drewN | apply below_drew1) | exact HB.out))); (case aF => exact (fun _ _ => trivial)); (case aO => exact (by (with_reducible repeat (first | apply Kd.R_alloc | apply Kd.R_drewN | apply Kd.R_drew)); exact HO_6.out)); (case aS => exact (below_size (by repeat (first | (with_reducible first | exact HB.out | apply below_alloc | apply pw_below_drewN | apply below_drew1) | exact HB.out)))); (case aL => have := LMc11.out; omega); intro v444 w12 ho hb hg hat; rw [← Ny443.out] at ho; have n0_ := Aside0.mk (hb); have n1_ := Aside0.mk (ho); clear HB; clear HO_6; have HB := n0_; have HO445 := n1_; clear n0_ n1_; clear ho hb hg hat))
                    go_roundg k2
                    case measure => have := HK1.out; have := HK2.out; omega
                    case rel => exact ⟨(y443), (wrap64 (x27_2 + 1)), (by first | rfl | (simp; done) | (simp [*]; done)), H', ⟨by have := HK1.out; have := HK2.out; omega⟩, ⟨by (with_reducible repeat (first | apply Kd.R_alloc | apply Kd.R_drewN | apply Kd.R_drew)); exact HO445.out⟩, ⟨by repeat (first | (with_reducible first | exact HB.out | apply below_alloc | apply pw_below_drewN | apply below_drew1) | exact HB.out)⟩⟩
                  · rw [if_neg c11] at H
                    exact absurd H (by simp)
                · rw [if_neg c10] at H
                  exact absurd H (by simp)
              · rw [if_neg c9] at H
                exact absurd H (by simp)
            · rw [if_neg c8] at H
              have c8b0 : decide (x27_2 < (l0.length : Int)) = false := decide_eq_false c8
              clear c8
              obtain rfl := Option.some.inj H
              go_wp2
              go_ret
              exact ⟨_, by first | rfl | (simp [errW_none, errW_some] <;> rfl) | (simp [*, errW_none, errW_some] <;> rfl), by (with_reducible repeat (first | apply Kd.R_alloc | apply Kd.R_drewN | apply Kd.R_drew)); exact HO_6.out, by repeat (first | (with_reducible first | exact HB.out | apply below_alloc | apply pw_below_drewN | apply below_drew1) | exact HB.out)⟩
end Go.Proofs.Ytobncomimkmoeaa.F
end
section
/- Laid by a program of this claim's own. What the Go function does, as a Lean function, and the proof that the Go code does just that; Lean checks it. -/
namespace Go.Proofs.Ytobncomimkmoeaa.F
open Go.RowKit Go.Proofs.YtobncomimkmoeaaW.PrintWords Go.Proofs.YtobncomimkmoeaaW.PrintLast Go.Proofs.YtobncomimkmoeaaW.PrintMore
attribute [local go_sem] max2_int min2_int max_two min_two max_three min_three max_four min_four   -- for this text's walks alone
set_option linter.unusedVariables false
set_option linter.unusedSimpArgs false
/-! ### slices_Reverse_Lint_int: function 114 -/
def slices_Reverse_Lint_int.l0 : Nat → List Int → Int → Int → Option (List Int)
  | 0, _, _, _ => none
  | k + 1, x0, x2, x3 => if x2 < x3 then (if 0 ≤ x3 then (if x3 < (x0.length : Int) then (if 0 ≤ x2 then (if x2 < (x0.length : Int) then (slices_Reverse_Lint_int.l0 k ((x0.set (x2 : Int).toNat (rd x0 x3)).set (x3 : Int).toNat (rd x0 x2)) (wrap64 (x2 + 1)) (wrap64 (x3 - 1))) else (none)) else (none)) else (none)) else (none)) else (some x0)
def slices_Reverse_Lint_int.f (k : Nat) (l0 : List Int) : Option (List Int) := slices_Reverse_Lint_int.l0 k l0 0 (wrap64 ((l0.length : Int) - 1))
def slices_Reverse_Lint_int.T3 : Bool × List (List Nat × List Nat) := (true, [([], []), ([], []), ([], []), ([], []), ([], []), ([], []), ([4, 5], [4, 5]), ([6], [6]), ([], []), ([], []), ([8, 9], [8, 9]), ([10], [10]), ([0, 1, 0, 1, 4, 5, 6, 7, 11], [0, 1]), ([12, 7, 0, 1, 4, 5, 6, 7, 11], [7, 12]), ([2, 3, 0, 1, 2, 3, 4, 5, 6, 7, 8, 9, 10, 11, 12, 13], [2, 3]), ([14, 11, 13, 0, 1, 2, 3, 4, 5, 6, 7, 8, 9, 10, 11, 12, 13], [11, 14])])
def slices_Reverse_Lint_int.B3 : List Nat := [0, 0, 0, 0, 0, 0, 48, 112, 0, 0, 768, 1792, 4083, 8179, 16383, 32767]
theorem slices_Reverse_Lint_int.tab3 : rtab .any (opsOf Try.f114 3) = slices_Reverse_Lint_int.T3 := by kernel_rfl
theorem slices_Reverse_Lint_int.bits3 : waitsOk slices_Reverse_Lint_int.T3.2 slices_Reverse_Lint_int.B3 = true := by kernel_rfl
set_option maxHeartbeats 8000000 in
set_option maxRecDepth 100000 in
theorem slices_Reverse_Lint_int.calls (k : Nat) (P0_ : Nat → Prop) (u9000_ : Value) (l0 : List Int) (r : List Int) (w0 w : World) (hB : Below w0.heap.size w0 w) (ho0 : Kd.R (Kd.int .i64) 3 w w0.heap.size P0_ u9000_ l0) (h : slices_Reverse_Lint_int.f k l0 = some r) :
    Calls Try.prog 114 #[u9000_] w fun e w' => e = .returned (.tuple #[]) ∧ Kd.R (Kd.int .i64) 3 w' w0.heap.size (fun k_ => (P0_ k_ ∨ w.heap.size ≤ k_)) u9000_ r ∧ Below w0.heap.size w0 w' ∧ Kept w w' (fun k_ => P0_ k_) := by
  have HO0 := Aside0.mk (show Kd.R (Kd.int .i64) 3 w w0.heap.size (fun k_ => (P0_ k_ ∨ w.heap.size ≤ k_)) u9000_ l0 from Kd.R_mono ho0 (fun k_ hk => (.inl hk)))
  have HK := Aside0.mk (Kept.refl w (fun k_ => P0_ k_))
  have HW0 := Aside0.mk hB.size
  have HB := Aside0.mk hB
  clear hB
  have H : (slices_Reverse_Lint_int.l0 k l0 0 (wrap64 ((l0.length : Int) - 1))) = some r := h
  clear h
  have H' := Aside0.mk H
  clear H
  obtain ⟨Ao2, co2, eo2⟩ := Kd.R_slice HO0.out
  subst eo2
  go_enter Try.func114, Try.ntmps114
  go_wp2
  go_loopg [2, 3] k (fun kq v2 v3 w' => ∃ (x0_1 : List Int) (x2_1 : Int) (x3_1 : Int), v2 = .int .i64 x2_1 ∧ v3 = .int .i64 x3_1 ∧ Aside0 (slices_Reverse_Lint_int.l0 kq x0_1 x2_1 x3_1 = some r) ∧ Aside0 (kq ≤ k) ∧ Aside0 (Kd.R (Kd.int .i64) 3 w' w0.heap.size (fun k_ => (P0_ k_ ∨ w.heap.size ≤ k_)) (.slice Ao2 l0.length co2) x0_1) ∧ Aside0 (Kept w w' (fun k_ => P0_ k_)) ∧ Aside0 (Below w0.heap.size w0 w'))
  case atStart => exact ⟨(l0), (0), (wrap64 ((l0.length : Int) - 1)), (by first | rfl | (simp; done) | (simp [*]; done)), (by first | rfl | (simp; done) | (simp [*]; done)), H', ⟨Nat.le_refl _⟩, ⟨by (with_reducible repeat (first | apply Kd.R_alloc | apply Kd.R_drewN | apply Kd.R_drew)); exact HO0.out⟩, ⟨by repeat (first | (with_reducible first | exact HK.out | apply Kept.alloc | apply Kept.drewN | apply Kept.drew) | exact HK.out)⟩, ⟨by repeat (first | (with_reducible first | exact HB.out | apply below_alloc | apply pw_below_drewN | apply below_drew1) | exact HB.out)⟩⟩
  case round =>
    clear H'
    try clear c1
    try clear p2
    obtain ⟨x0_1, x2_1, x3_1, rfl, rfl, HA, HK1, HO_0, HK, HB⟩ := hrel
    have hl0_1 := (Kd.R_reads' HO_0.out).1
    rw [hl0_1] at HO_0
    (try simp only [hl0_1])
    cases gk with
    | zero => exact absurd HA.out (by simp [slices_Reverse_Lint_int.l0])
    | succ k1 =>
      have H := HA.out
      clear HA
      simp only [slices_Reverse_Lint_int.l0] at H
      by_cases c3 : x2_1 < x3_1
      · rw [if_pos c3] at H
        have c3b0 : decide (x2_1 < x3_1) = true := decide_eq_true c3
        clear c3
        by_cases c4 : 0 ≤ x3_1
        · rw [if_pos c4] at H
          have c4b0 : decide (0 ≤ x3_1) = true := decide_eq_true c4
          clear c4
          by_cases c5 : x3_1 < (x0_1.length : Int)
          · rw [if_pos c5] at H
            have c5b0 : decide (x3_1 < (x0_1.length : Int)) = true := decide_eq_true c5
            clear c5
            by_cases c6 : 0 ≤ x2_1
            · rw [if_pos c6] at H
              have c6b0 : decide (0 ≤ x2_1) = true := decide_eq_true c6
              clear c6
              by_cases c7 : x2_1 < (x0_1.length : Int)
              · rw [if_pos c7] at H
                have c7b0 : decide (x2_1 < (x0_1.length : Int)) = true := decide_eq_true c7
                clear c7
                obtain ⟨y448, hy448⟩ : ∃ y_ : List Int, y_ = (x0_1.set (x2_1 : Int).toNat (rd x0_1 x3_1)) := ⟨_, rfl⟩
                replace H : (slices_Reverse_Lint_int.l0 k1 (y448.set (x3_1 : Int).toNat (rd x0_1 x2_1)) (wrap64 (x2_1 + 1)) (wrap64 (x3_1 - 1))) = some r := by first | (rw [hy448]; with_reducible exact H) | (have H2_ := (Option.bind_some _ _).symm.trans H; rw [hy448]; with_reducible exact H2_) | (have H2_ := (Option.bind_some _ _).symm.trans H; with_reducible exact H2_) | with_reducible exact H | (rw [hy448]; exact H) | exact H
                have Ny448 := Aside0.mk hy448
                clear hy448
                obtain ⟨y449, hy449⟩ : ∃ y_ : List Int, y_ = (y448.set (x3_1 : Int).toNat (rd x0_1 x2_1)) := ⟨_, rfl⟩
                replace H : (slices_Reverse_Lint_int.l0 k1 y449 (wrap64 (x2_1 + 1)) (wrap64 (x3_1 - 1))) = some r := by first | (rw [hy449]; with_reducible exact H) | (have H2_ := (Option.bind_some _ _).symm.trans H; rw [hy449]; with_reducible exact H2_) | (have H2_ := (Option.bind_some _ _).symm.trans H; with_reducible exact H2_) | with_reducible exact H | (rw [hy449]; exact H) | exact H
                have Ny449 := Aside0.mk hy449
                clear hy449
                have H' := Aside0.mk H
                clear H
                try go_wp2
                have n0_ := Aside0.mk (Kd.R_drew HO_0.out)
                have n1_ := Aside0.mk (Kept.drew HK.out)
                have n2_ := Aside0.mk (below_drew1 HB.out)
                clear HO_0
                clear HK
                clear HB
                have HO_0 := n0_
                have HK := n1_
                have HB := n2_
                clear n0_ n1_ n2_
                have p446 : 0 ≤ (x3_1 : Int) := of_decide_eq_true (by first | (with_reducible assumption) | assumption)
                have q446 : x3_1 < (x0_1.length : Int) := of_decide_eq_true (by first | (with_reducible assumption) | assumption)
                obtain ⟨ad446, e446, hx446_0⟩ := Kd.at_int (Kd.R_reads' HO_0.out).2.2 x3_1 p446 q446
                cases e446
                replace p446 := eq_true p446
                replace q446 := eq_true q446
                have p447 : 0 ≤ (x2_1 : Int) := of_decide_eq_true (by first | (with_reducible assumption) | assumption)
                have q447 : x2_1 < (x0_1.length : Int) := of_decide_eq_true (by first | (with_reducible assumption) | assumption)
                obtain ⟨ad447, e447, hx447_0⟩ := Kd.at_int (Kd.R_reads' HO_0.out).2.2 x2_1 p447 q447
                obtain rfl : ad446 = ad447 := (by injection e447)
                replace p447 := eq_true p447
                replace q447 := eq_true q447
                have p8 : 0 ≤ (x2_1 : Int) := of_decide_eq_true (by first | (with_reducible assumption) | assumption)
                have q8 : (x2_1 : Int) < ((x0_1.length : Int) : Int) := of_decide_eq_true (by first | (with_reducible assumption) | assumption)
                obtain ⟨go8, co8, eo8, gb8, gl8, cl8, HG8⟩ := Kd.R_form HO_0.out (by omega)
                (first | cases eo8 | (injection eo8 with ea_ en_ ec_; (first | subst ea_ | (injection ea_ with ea_; subst ea_)); subst ec_; clear en_))
                have GB8 := Aside0.mk gb8
                have GG8 := Aside0.mk HG8
                clear gb8 gl8 HG8
                have HMgo8 := Aside0.mk (show (P0_ go8 ∨ w.heap.size ≤ go8) from (HO_0.out.1 _ rfl))
                (first | simp only [add_plain] at hx446_0 | skip)
                (first | simp only [add_plain] at hx447_0 | skip)
                obtain ⟨hx8_0, hf8_0⟩ := Kd.R_celln 0 HO_0.out (x2_1 : Int) p8 q8
                replace p8 := eq_true p8
                replace q8 := eq_true q8
                have HP11 := Kd.R_putn HO_0.out (x2_1 : Int) (rd x0_1 x3_1)
                rw [← Ny448.out] at HP11
                have HQ11 := Aside0.mk HP11
                clear HP11
                have p9 : 0 ≤ (x3_1 : Int) := of_decide_eq_true (by first | (with_reducible assumption) | assumption)
                have q9 : (x3_1 : Int) < ((x0_1.length : Int) : Int) := of_decide_eq_true (by first | (with_reducible assumption) | assumption)
                obtain ⟨hx9_0, hf9_0⟩ := Kd.R_celln 0 HQ11.out (x3_1 : Int) p9 q9
                replace p9 := eq_true p9
                replace q9 := eq_true q9
                have HP12 := Kd.R_putn HQ11.out (x3_1 : Int) (rd x0_1 x2_1)
                rw [← Ny449.out] at HP12
                have HQ12 := Aside0.mk HP12
                clear HP12
                refine start_ (n := 16) (S := fun w' => w'.cell? ⟨go8, (x3_1).toNat, none⟩ = some (.int .i64 (rd x0_1 x3_1)) ∧ w'.cell? ⟨go8, (x2_1).toNat, none⟩ = some (.int .i64 (rd x0_1 x2_1))) (ds := [13, 15]) #[false, false, false, false, false, false, false, false, false, false, false, false, false, false, false, false] (by kernel_rfl) rfl rfl ⟨hx446_0, hx447_0⟩ (fun hHeld => ?_); refine with_tabW slices_Reverse_Lint_int.tab3 slices_Reverse_Lint_int.bits3 (fun HT_ HW_ => ?_)
                generalize wr.drew = w10 at HO_0 HK HB GG8 HQ11 HQ12 hf8_0 hf9_0 hx446_0 hx447_0 hx8_0 hx9_0 hHeld ⊢
                refine pure_ (i := 0) (N := some 14) (v := ?_) (a' := ?_) #[true, false, false, false, false, false, false, false, false, false, false, false, false, false, false, false] rfl rfl (any_of HT_.out (by kernel_rfl)) (fun _ _ _ h => h) (Or.inl ⟨by rfl, ?_⟩) ?_ ?_
                rotate_left
                · intro w'
                  go_simp
                  with_reducible rfl
                rotate_left
                · simp only [Act.put, List.setIfInBounds_toArray, List.set_cons_zero, List.set_cons_succ, i64_w, i32_w]
                  rfl
                refine pure_ (i := 1) (N := some 15) (v := ?_) (a' := ?_) #[true, true, false, false, false, false, false, false, false, false, false, false, false, false, false, false] rfl rfl (any_of HT_.out (by kernel_rfl)) (fun _ _ _ h => h) (Or.inl ⟨by rfl, ?_⟩) ?_ ?_
                rotate_left
                · intro w'
                  go_simp
                  with_reducible rfl
                rotate_left
                · simp only [Act.put, List.setIfInBounds_toArray, List.set_cons_zero, List.set_cons_succ, i64_w, i32_w]
                  rfl
                refine pure_ (i := 2) (N := some 16) (v := ?_) (a' := ?_) #[true, true, true, false, false, false, false, false, false, false, false, false, false, false, false, false] rfl rfl (any_of HT_.out (by kernel_rfl)) (fun _ _ _ h => h) (Or.inl ⟨by rfl, ?_⟩) ?_ ?_
                rotate_left
                · intro w'
                  go_simp
                  with_reducible rfl
                rotate_left
                · simp only [Act.put, List.setIfInBounds_toArray, List.set_cons_zero, List.set_cons_succ, i64_w, i32_w]
                  rfl
                refine pure_ (i := 3) (N := some 17) (v := ?_) (a' := ?_) #[true, true, true, true, false, false, false, false, false, false, false, false, false, false, false, false] rfl rfl (any_of HT_.out (by kernel_rfl)) (fun _ _ _ h => h) (Or.inl ⟨by rfl, ?_⟩) ?_ ?_
                rotate_left
                · intro w'
                  go_simp
                  with_reducible rfl
                rotate_left
                · simp only [Act.put, List.setIfInBounds_toArray, List.set_cons_zero, List.set_cons_succ, i64_w, i32_w]
                  rfl
                refine pure_ (i := 4) (N := some 18) (v := ?_) (a' := ?_) #[true, true, true, true, true, false, false, false, false, false, false, false, false, false, false, false] rfl rfl (any_of HT_.out (by kernel_rfl)) (fun _ _ _ h => h) (Or.inl ⟨by rfl, ?_⟩) ?_ ?_
                rotate_left
                · intro w'
                  go_simp
                  with_reducible rfl
                rotate_left
                · simp only [Act.put, List.setIfInBounds_toArray, List.set_cons_zero, List.set_cons_succ, i64_w, i32_w]
                  rfl
                refine pure_ (i := 5) (N := some 19) (v := ?_) (a' := ?_) #[true, true, true, true, true, true, false, false, false, false, false, false, false, false, false, false] rfl rfl (any_of HT_.out (by kernel_rfl)) (fun _ _ _ h => h) (Or.inl ⟨by rfl, ?_⟩) ?_ ?_
                rotate_left
                · intro w'
                  go_simp
                  with_reducible rfl
                rotate_left
                · simp only [Act.put, List.setIfInBounds_toArray, List.set_cons_zero, List.set_cons_succ, i64_w, i32_w]
                  rfl
                refine pure_ (i := 6) (N := some 20) (v := ?_) (a' := ?_) #[true, true, true, true, true, true, true, false, false, false, false, false, false, false, false, false] rfl rfl (any_of HT_.out (by kernel_rfl)) (fun _ _ _ h => h) (Or.inl ⟨by rfl, ?_⟩) ?_ ?_
                rotate_left
                · intro w'
                  go_simp
                  with_reducible rfl
                rotate_left
                · simp only [Act.put, List.setIfInBounds_toArray, List.set_cons_zero, List.set_cons_succ, i64_w, i32_w]
                  rfl
                refine pure_ (i := 8) (N := some 22) (v := ?_) (a' := ?_) #[true, true, true, true, true, true, true, false, true, false, false, false, false, false, false, false] rfl rfl (any_of HT_.out (by kernel_rfl)) (fun _ _ _ h => h) (Or.inl ⟨by rfl, ?_⟩) ?_ ?_
                rotate_left
                · intro w'
                  go_simp
                  with_reducible rfl
                rotate_left
                · simp only [Act.put, List.setIfInBounds_toArray, List.set_cons_zero, List.set_cons_succ, i64_w, i32_w]
                  rfl
                refine pure_ (i := 9) (N := some 23) (v := ?_) (a' := ?_) #[true, true, true, true, true, true, true, false, true, true, false, false, false, false, false, false] rfl rfl (any_of HT_.out (by kernel_rfl)) (fun _ _ _ h => h) (Or.inl ⟨by rfl, ?_⟩) ?_ ?_
                rotate_left
                · intro w'
                  go_simp
                  with_reducible rfl
                rotate_left
                · simp only [Act.put, List.setIfInBounds_toArray, List.set_cons_zero, List.set_cons_succ, i64_w, i32_w]
                  rfl
                refine pure_ (i := 10) (N := some 24) (v := ?_) (a' := ?_) #[true, true, true, true, true, true, true, false, true, true, true, false, false, false, false, false] rfl rfl (any_of HT_.out (by kernel_rfl)) (fun _ _ _ h => h) (Or.inl ⟨by rfl, ?_⟩) ?_ ?_
                rotate_left
                · intro w'
                  go_simp
                  with_reducible rfl
                rotate_left
                · simp only [Act.put, List.setIfInBounds_toArray, List.set_cons_zero, List.set_cons_succ, i64_w, i32_w]
                  rfl
                refine take_ (i := 7) (N := some 21) (v := ?_) (a' := ?_) #[true, true, true, true, true, true, true, true, true, true, true, false, false, false, false, false] rfl rfl (take_ofW HT_.out HW_.out (by kernel_rfl)) (fun _ _ _ h => h) (Or.inl ⟨by rfl, ?_⟩) hHeld ?_ ?_
                rotate_left
                · rintro w' ⟨s0, s1⟩
                  go_simp
                  with_reducible rfl
                rotate_left
                · simp only [Act.put, List.setIfInBounds_toArray, List.set_cons_zero, List.set_cons_succ, i64_w, i32_w]
                  rfl
                refine take_ (i := 11) (N := some 25) (v := ?_) (a' := ?_) #[true, true, true, true, true, true, true, true, true, true, true, true, false, false, false, false] rfl rfl (take_ofW HT_.out HW_.out (by kernel_rfl)) (fun _ _ _ h => h) (Or.inl ⟨by rfl, ?_⟩) hHeld ?_ ?_
                rotate_left
                · rintro w' ⟨s0, s1⟩
                  go_simp
                  with_reducible rfl
                rotate_left
                · simp only [Act.put, List.setIfInBounds_toArray, List.set_cons_zero, List.set_cons_succ, i64_w, i32_w]
                  rfl
                refine pure_ (i := 12) (N := some 26) (v := ?_) (a' := ?_) #[true, true, true, true, true, true, true, true, true, true, true, true, true, false, false, false] rfl rfl (any_of HT_.out (by kernel_rfl)) (fun _ _ _ h => h) (Or.inl ⟨by rfl, ?_⟩) ?_ ?_
                rotate_left
                · intro w'
                  go_simp
                  with_reducible rfl
                rotate_left
                · simp only [Act.put, List.setIfInBounds_toArray, List.set_cons_zero, List.set_cons_succ, i64_w, i32_w]
                  rfl
                refine last_ (i := 13) (N := none) #[true, true, true, true, true, true, true, true, true, true, true, true, true, true, false, false] rfl rfl (one_of HT_.out (by kernel_rfl)) (by decide) (fun K hK => ?_)
                refine skip_ (w1 := ?_) (by rfl) rfl ?_ ?_
                rotate_left
                · go_simp
                  rfl
                refine hK.out _ _ ?_
                clear hK K
                refine pure_ (i := 14) (N := some 27) (v := ?_) (a' := ?_) #[true, true, true, true, true, true, true, true, true, true, true, true, true, true, true, false] rfl rfl (any_of HT_.out (by kernel_rfl)) (fun _ _ _ h => h) (Or.inl ⟨by rfl, ?_⟩) ?_ ?_
                rotate_left
                · intro w'
                  go_simp
                  with_reducible rfl
                rotate_left
                · simp only [Act.put, List.setIfInBounds_toArray, List.set_cons_zero, List.set_cons_succ, i64_w, i32_w]
                  rfl
                refine last_ (i := 15) (N := none) #[true, true, true, true, true, true, true, true, true, true, true, true, true, true, true, true] rfl rfl (one_of HT_.out (by kernel_rfl)) (by decide) (fun K hK => ?_)
                refine skip_ (w1 := ?_) (by rfl) rfl ?_ ?_
                rotate_left
                · go_simp
                  rfl
                refine hK.out _ _ ?_
                clear hK K
                refine done_ (done_of HT_.out (by kernel_rfl)) ?_
                try go_wp2
                (try simp only [← hl0_1])
                go_roundg k1
                case measure => have := HK1.out; omega
                case rel => exact ⟨(y449), (wrap64 (x2_1 + 1)), (wrap64 (x3_1 - 1)), (by first | rfl | (simp; done) | (simp [*]; done)), (by first | rfl | (simp; done) | (simp [*]; done)), H', ⟨by have := HK1.out; omega⟩, ⟨by (try simp only [hl0_1]); (with_reducible repeat (first | apply Kd.R_alloc | apply Kd.R_drewN | apply Kd.R_drew)); exact HQ12.out⟩, ⟨by repeat (first | (with_reducible first | exact HK.out | apply Kept.alloc | apply Kept.drewN | apply Kept.drew | refine Kept.setCell ?_ HMgo8.out _ | refine Kept.setCell ?_ HMgo8.out _) | exact HK.out)⟩, ⟨by repeat (first | (with_reducible first | exact HB.out | apply below_alloc | apply pw_below_drewN | apply below_drew1 | refine below_set ?_ GB8.out | refine below_set ?_ GB8.out) | exact HB.out)⟩⟩
              · rw [if_neg c7] at H
                exact absurd H (by simp)
            · rw [if_neg c6] at H
              exact absurd H (by simp)
          · rw [if_neg c5] at H
            exact absurd H (by simp)
        · rw [if_neg c4] at H
          exact absurd H (by simp)
      · rw [if_neg c3] at H
        have c3b0 : decide (x2_1 < x3_1) = false := decide_eq_false c3
        clear c3
        obtain rfl := Option.some.inj H
        go_wp2
        first | go_end0 | ((try simp only [Exit.inBlock, Exit.then]); refine bodyPost_ret (results_none rfl _ _ _) rfl ?_)
        exact ⟨by first | rfl | (simp [errW_none, errW_some] <;> rfl) | (simp [*, errW_none, errW_some] <;> rfl), (by first | exact (by (with_reducible repeat (first | apply Kd.R_alloc | apply Kd.R_drewN | apply Kd.R_drew)); exact HO_0.out) | (simp only [hl0_1]; exact (by (with_reducible repeat (first | apply Kd.R_alloc | apply Kd.R_drewN | apply Kd.R_drew)); exact HO_0.out))), by repeat (first | (with_reducible first | exact HB.out | apply below_alloc | apply pw_below_drewN | apply below_drew1) | exact HB.out), by repeat (first | (with_reducible first | exact HK.out | apply Kept.alloc | apply Kept.drewN | apply Kept.drew) | exact HK.out)⟩
end Go.Proofs.Ytobncomimkmoeaa.F
end
