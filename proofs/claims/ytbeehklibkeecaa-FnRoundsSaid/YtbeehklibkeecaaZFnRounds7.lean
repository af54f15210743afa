import Derived.Test.YtbeehklibkeecaaZFnRounds4
import Derived.Test.YtbeehklibkeecaaZFnRounds6
import Derived.Maps.OwnSet
import Derived.Maps.Views
section
/- Laid by a program of this claim's own. What the Go function does, as a Lean function, and the proof that the Go code does just that; Lean checks it. -/
namespace Go.Proofs.Ytbeehklibkeecaa.F
open Go.RowKit Go.Proofs.YtbeehklibkeecaaW.PrintWords Go.Proofs.YtbeehklibkeecaaW.PrintLast Go.Proofs.YtbeehklibkeecaaW.PrintMore
attribute [local go_sem] max2_int min2_int max_two min_two max_three min_three max_four min_four   -- for this text's walks alone
set_option linter.unusedVariables false
set_option linter.unusedSimpArgs false
/-! ### impl_FixedIndex: function 14 -/
def impl_FixedIndex.f (k : Nat) (a0 : Int) (a1 : Int) (a2 : Int) : Option (Int) := (impl_rounds.f k a0 a1 a2).bind fun bt251 => (some bt251.2)
set_option maxHeartbeats 8000000 in
set_option maxRecDepth 100000 in
theorem impl_FixedIndex.calls (k : Nat) (a0 : Int) (a1 : Int) (a2 : Int) (r : Int) (w : World) (h : impl_FixedIndex.f k a0 a1 a2 = some r) :
    Calls Try.prog 14 #[.int .i64 a0, .int .i64 a1, .int .i64 a2] w fun e w' => e = .returned (.int .i64 r) ∧ Below w.heap.size w w' := by
  have HB := Aside0.mk (Below.refl w.heap.size w)
  have H : ((impl_rounds.f k a0 a1 a2).bind fun bt251 => (some bt251.2)) = some r := h
  clear h
  replace H := Option.bind_eq_some_iff.mp H
  obtain ⟨⟨t251, t252⟩, A40, H⟩ := H
  replace H : (some t252) = some r := H
  have A4 := Aside0.mk A40
  clear A40
  obtain rfl := Option.some.inj H
  go_enter Try.func14, Try.ntmps14
  go_wp2_with (first | ((with_reducible refine gate_callee (f := 42) rfl ?_); refine goesL_ (some 13) rfl rfl Try.func42 (by kernel_rfl) rfl #[.int .i64 a0, .int .i64 a1, .int .i64 a2] rfl (by (try simp only [List.map_toArray, List.map_cons, List.map_nil]); first | done | rfl | (simp only [List.length_drop, List.length_take]; rfl)) ?_; (with_reducible refine (impl_rounds.calls k a0 a1 a2 t251 t252 _ A4.out).mono ?_); rintro e w5 ⟨rfl, hb⟩; refine ⟨_, rfl, ?_⟩; have n0_ := Aside0.mk (below_step (by repeat (first | (with_reducible first | exact HB.out | apply below_alloc | apply pw_below_drewN | apply below_drew1) | exact HB.out)) hb); clear HB; have HB := n0_; clear n0_; (try clear hb); (try clear hb2); (try clear hk); (try clear hi)))
  go_ret
  exact ⟨by first | rfl | (simp [errW_none, errW_some] <;> rfl) | (simp [*, errW_none, errW_some] <;> rfl), by repeat (first | (with_reducible first | exact HB.out | apply below_alloc | apply pw_below_drewN | apply below_drew1) | exact HB.out)⟩
end Go.Proofs.Ytbeehklibkeecaa.F
end
section
/- Laid by a program of this claim's own. What the Go function does, as a Lean function, and the proof that the Go code does just that; Lean checks it. -/
namespace Go.Proofs.Ytbeehklibkeecaa.F
open Go.RowKit Go.Proofs.YtbeehklibkeecaaW.PrintWords Go.Proofs.YtbeehklibkeecaaW.PrintLast Go.Proofs.YtbeehklibkeecaaW.PrintMore
attribute [local go_sem] max2_int min2_int max_two min_two max_three min_three max_four min_four   -- for this text's walks alone
set_option linter.unusedVariables false
set_option linter.unusedSimpArgs false
/-! ### slices_Clone_Lint_int: function 77 -/
def slices_Clone_Lint_int.f (l0 : List Int) : Option (List Int) := if l0.length < 17592186044416 then some l0 else none
set_option maxHeartbeats 8000000 in
set_option maxRecDepth 100000 in
theorem slices_Clone_Lint_int.calls_some (ad : Addr) (c0 : Nat) (l0 : List Int) (w : World) (hr0 : Kd.C (Kd.int .i64) w (some ad) l0.length l0) (hc0 : l0.length ≤ c0) (hl : l0.length < 17592186044416) :
    Calls Try.prog 77 #[.slice (some ad) l0.length c0] w fun e w' => ∃ v0_ : Value, e = .returned (v0_) ∧ Kd.R (Kd.int .i64) 3 w' w.heap.size (fun _ => True) v0_ l0 ∧ Below w.heap.size w w' := by
  have HR0 := Aside0.mk hr0
  have HC0 := Aside0.mk hc0
  clear hr0 hc0
  have HB := Aside0.mk (Below.refl w.heap.size w)
  have LMc2 := Aside0.mk hl
  clear hl
  have hnil := fun (W : World) (n : Nat) => eql_some_nil (P := Try.prog) 24 3 Try.underlying24 ad n c0 W
  go_enter Try.func77, Try.ntmps77
  go_wp2_with (first | ((with_reducible refine gate_dst (N := 5) rfl ?_); refine Kd.R_lit (Kd.int .i64) _ 3 ?hg (N := 5) ?hd (xs := ([] : List Int)) (inner := []) (ok := fun _ => True) (okp := fun _ => True) ?hr ?hp (fun _ hk => hk) trivial (Below.refl _ _) (Nat.le_refl _) (by simp) ?_; (case hd => rfl); (case hg => rfl); (case hr => first | (go_simp; done) | (go_simp; rfl)); (case hp => exact (Reps.none _ _)); intro v382 w3 ho4 hb hg_ hnew_; clear hg_ hnew_; have n0_ := Aside0.mk (Kd.R_lower ho4 (below_size (by repeat (first | (with_reducible first | exact HB.out | apply below_alloc | apply pw_below_drewN | apply below_drew1) | exact HB.out)))); have n1_ := Aside0.mk (below_step (by repeat (first | (with_reducible first | exact HB.out | apply below_alloc | apply pw_below_drewN | apply below_drew1) | exact HB.out)) hb); clear HB; have HO383 := n0_; have HB := n1_; clear n0_ n1_; clear hb ho4) | ((with_reducible refine gate_builtin (b := .append) (xs := #[.tmp 5, .tmp 6]) rfl ?_); at_builtin; refine Kd.R_append_rows (Kd.int .i64) (w0 := w) w.heap.size rfl (.tmp 5) (.tmp 6) 24 3 (.int .i64 0) 8 rfl Try.underlying24 info3 rfl (by decide) (by omega) v382 [] l0 _ _ _ (fun _ => True) (fun _ => False) rfl rfl ?aO ?aR (fun _ _ h => h) (fun _ h => h.elim) ?aF ?aB ?aS ?aL ?_; (case aR => repeat (first | exact (Kd.C_below HR0.out HB.out) | (with_reducible refine Kd.C_alloc ?_ _) | (with_reducible refine Kd.C_drewN ?_ _) | (with_reducible refine Kd.C_drew ?_))); (case aB => exact (by repeat (first | (with_reducible first | exact HB.out | apply below_alloc | apply pw_below_drewN | apply below_drew1) | exact HB.out))); (case aF => exact (fun _ _ => trivial)); (case aO => exact (by (with_reducible repeat (first | apply Kd.R_alloc | apply Kd.R_drewN | apply Kd.R_drew)); exact HO383.out)); (case aS => exact (below_size (by repeat (first | (with_reducible first | exact HB.out | apply below_alloc | apply pw_below_drewN | apply below_drew1) | exact HB.out)))); (case aL => have := LMc2.out; simp; omega); intro v385 w5 ho hb hg hat; rw [List.nil_append] at ho; have n0_ := Aside0.mk (hb); have n1_ := Aside0.mk (ho); clear HB; clear HO383; have HB := n0_; have HO386 := n1_; clear n0_ n1_; clear ho hb hg hat))
  go_ret
  exact ⟨_, by first | rfl | (simp [errW_none, errW_some] <;> rfl) | (simp [*, errW_none, errW_some] <;> rfl), by (with_reducible repeat (first | apply Kd.R_alloc | apply Kd.R_drewN | apply Kd.R_drew)); exact HO386.out, by repeat (first | (with_reducible first | exact HB.out | apply below_alloc | apply pw_below_drewN | apply below_drew1) | exact HB.out)⟩
theorem slices_Clone_Lint_int.calls (A0 : Option Addr) (c0 : Nat) (l0 : List Int) (r : List Int) (w : World) (hr0 : Kd.C (Kd.int .i64) w A0 l0.length l0) (hc0 : l0.length ≤ c0) (h : slices_Clone_Lint_int.f l0 = some r) :
    Calls Try.prog 77 #[.slice A0 l0.length c0] w fun e w' => ∃ v0_ : Value, e = .returned (v0_) ∧ Kd.R (Kd.int .i64) 3 w' w.heap.size (fun _ => True) v0_ r ∧ Below w.heap.size w w' := by
  unfold slices_Clone_Lint_int.f at h
  by_cases hl : l0.length < 17592186044416
  · rw [if_pos hl] at h
    obtain rfl := Option.some.inj h
    cases A0 with
    | some ad => exact slices_Clone_Lint_int.calls_some ad c0 l0 w hr0 hc0 hl
    | none =>
      obtain ⟨e1, _⟩ := C_none hr0
      subst e1
      have HB := Aside0.mk (Below.refl w.heap.size w)
      have hnil := fun (W : World) (n : Nat) => eql_none_nil (P := Try.prog) 24 3 Try.underlying24 n c0 W
      clear hr0 hc0 hl h
      go_enter Try.func77, Try.ntmps77
      go_wp2
      go_ret
      exact ⟨_, rfl, Kd.R_nil _ _ _ _ _, HB.out⟩
  · rw [if_neg hl] at h
    cases h
end Go.Proofs.Ytbeehklibkeecaa.F
end
section
/- Laid by a program of this claim's own. What the Go function does, as a Lean function, and the proof that the Go code does just that; Lean checks it. -/
namespace Go.Proofs.Ytbeehklibkeecaa.F
open Go.RowKit Go.Proofs.YtbeehklibkeecaaW.PrintWords Go.Proofs.YtbeehklibkeecaaW.PrintLast Go.Proofs.YtbeehklibkeecaaW.PrintMore
attribute [local go_sem] max2_int min2_int max_two min_two max_three min_three max_four min_four   -- for this text's walks alone
set_option linter.unusedVariables false
set_option linter.unusedSimpArgs false
/-! ### impl_shortest: function 45 -/
-- IMPORT Derived.Maps.OwnSet
-- IMPORT Derived.Maps.Views
/-- How a map's element reads that is kept as it stands. -/
def rawElem (v : Value) : Option (DataW Value × List MemPlace) := some (.held v, [])
/-- The map that holds these, the first one put in last. -/
def mapR : List (Int × Value) → DataW Value
  | [] => .map []
  | p :: r => (mapR r).put (.int .i64 p.1) (.held p.2)
theorem mapR_is : ∀ r, Go.Maps.IsMap (mapR r)
  | [] => ⟨[], rfl⟩
  | p :: r => by
    obtain ⟨es, he⟩ := mapR_is r
    unfold mapR
    rw [he]
    exact ⟨_, rfl⟩
theorem mapR_has (x : Int) : ∀ r, Go.Maps.has (mapR r) (.int .i64 x) = r.any (fun p => p.1 == x)
  | [] => rfl
  | p :: r => by
    unfold mapR
    by_cases h : p.1 = x
    · subst h
      rw [Go.Maps.has_put_same (mapR_is r) (show WideAt.IsKeyLit (.int .i64 p.1) from trivial)]
      simp
    · rw [Go.Maps.has_put_other (fun e => h (by cases e; rfl)), mapR_has x r]
      simp [h]
theorem mapR_at (x : Int) (v : Value) (z : DataW Value) : ∀ r, (r.map Prod.fst).Nodup → (x, v) ∈ r → (mapR r).atKey (.int .i64 x) z = .held v
  | [], _, h => absurd h (by simp)
  | p :: r, hn, h => by
    unfold mapR
    rw [List.map_cons, List.nodup_cons] at hn
    rcases List.mem_cons.1 h with h | h
    · subst h
      exact Go.Maps.atKey_put_same (mapR_is r) (show WideAt.IsKeyLit (.int .i64 x) from trivial) _ _
    · rw [Go.Maps.atKey_put_other (fun e => hn.1 (by cases e; exact List.mem_map.2 ⟨_, h, rfl⟩))]
      exact mapR_at x v z r hn.2 h
/-- A row of the call's own that begins anywhere in its block: what is left of a queue. -/
def QRow (w : World) (base e : Nat) (v : Value) (xs : List Value) : Prop :=
  ∃ g off cap cur, v = .slice (some ⟨g, off, none⟩) xs.length cap ∧ base ≤ g ∧ w.heap[g]? = some (.cells cur e (0, 0)) ∧ xs.length ≤ cap ∧ off + cap ≤ cur.size ∧ cap ≤ maxLen ∧ (cur.toList.drop off).take xs.length = xs
theorem QRow.kept {w w' : World} {base e : Nat} {v : Value} {xs : List Value} {row : Option Nat} (h : QRow w base e v xs) (hg : w.grownBy w' row) (hne : v.ownBlock ≠ row) : QRow w' base e v xs := by
  obtain ⟨g, off, cap, cur, rfl, hb, hh, h1⟩ := h
  exact ⟨g, off, cap, cur, rfl, hb, (hg.block g (Array.getElem?_eq_some_iff.1 hh).1 hne).trans hh, h1⟩
theorem QRow.below {w w' : World} {base e : Nat} {v : Value} {xs : List Value} (h : QRow w base e v xs) (hb : Below w.heap.size w w') : QRow w' base e v xs := by
  obtain ⟨g, off, cap, cur, rfl, h0, hh, h1⟩ := h
  exact ⟨g, off, cap, cur, rfl, h0, (hb.block g (Array.getElem?_eq_some_iff.1 hh).1).trans hh, h1⟩
theorem QRow.lt {w : World} {base e : Nat} {v : Value} {xs : List Value} (h : QRow w base e v xs) : ∃ g, v.ownBlock = some g ∧ base ≤ g ∧ g < w.heap.size := by
  obtain ⟨g, off, cap, cur, rfl, h0, hh, h1⟩ := h
  exact ⟨g, rfl, h0, (Array.getElem?_eq_some_iff.1 hh).1⟩
theorem QRow.cell {w : World} {base e : Nat} {v : Value} {xs : List Value} (h : QRow w base e v xs) : ∃ ad cap, v = .slice (some ad) xs.length cap ∧ ∀ j u, xs[j]? = some u → w.cell? (ad.add j) = some u := by
  obtain ⟨g, off, cap, cur, rfl, h0, hh, h1, h2, h3, h4⟩ := h
  refine ⟨_, _, rfl, fun j u hu => ?_⟩
  rw [Addr.add_lit, cell_of_row w g (off + j) cur e (0, 0) hh]
  rw [← h4, List.getElem?_take] at hu
  split at hu
  · rw [List.getElem?_drop] at hu
    simpa using hu
  · cases hu
theorem QRow.tail {P : Program} {w : World} {base e T : Nat} {i : TypeInfo} {v x : Value} {xs : List Value} (hT : P.underlying T = some (.slice e)) (hi : P.info? e = some i) (hs : i.size = 1) (h : QRow w base e v (x :: xs)) :
    ∃ v', (Instr.slice T v (some (.int .i64 1)) none none).run P w = .ok v' w ∧ QRow w base e v' xs ∧ v'.ownBlock = v.ownBlock := by
  obtain ⟨g, off, cap, cur, rfl, h0, hh, h1, h2, h3, h4⟩ := h
  have h1' : xs.length + 1 ≤ cap := h1
  have e1 : (cur.toList.drop off).take (xs.length + 1) = x :: xs := h4
  have e2 : (cur.toList.drop (off + 1)).take xs.length = xs := by
    have := congrArg (List.drop 1) e1
    rw [List.drop_take] at this
    simpa [List.drop_drop, Nat.add_comm] using this
  by_cases hc : cap = 1
  · subst hc
    obtain rfl : xs = [] := List.eq_nil_of_length_eq_zero (by omega)
    refine ⟨.slice (some ⟨g, off, none⟩) 0 0, ?_, ⟨g, off, 0, cur, rfl, h0, hh, by simp, by omega, by omega, by simp⟩, rfl⟩
    simp [Instr.slice, run_underlying hT, Instr.sliceBounds, Instr.sliceBound, asIntOf, sizeOf, typeInfo, hi, hs, Result.andThen]
  · refine ⟨.slice (some ⟨g, off + 1, none⟩) xs.length (cap - 1), ?_, ⟨g, off + 1, cap - 1, cur, rfl, h0, hh, by omega, by omega, by omega, e2⟩, rfl⟩
    have h9 : cap ≠ 1 := hc
    simp [Instr.slice, run_underlying hT, Instr.sliceBounds, sizeOf, typeInfo, hi, hs, h9, Addr.add_lit, Instr.sliceBound, asIntOf, Result.andThen, show (1 : Int) ≤ (xs.length : Int) + 1 by omega]
theorem QRow.append {P : Program} {w : World} {base e T ty : Nat} {i : TypeInfo} {z v u : Value} {xs : List Value} (hT : P.underlying T = some (.slice e)) (hi : P.info? e = some i) (hz : i.zero = some z) (hs : i.size = 1) (hby : i.bytes = 8) (hzs : z.cells.size = 1)
    (h : QRow w base e v xs) (hbase : base ≤ w.heap.size) (ad : Addr) (hu : w.cell? ad = some u) (h1c : u.oneCell' = true) (hlen : xs.length < 4096) :
    ∃ v' w', (Builtin.append_ #[T, T] ty #[v, .slice (some ad) 1 1]).run P w = .ok v' w' ∧ QRow w' base e v' (xs ++ [u]) ∧ w.grownBy w' v.ownBlock ∧ (v'.ownBlock = v.ownBlock ∨ ∃ g, v'.ownBlock = some g ∧ w.heap.size ≤ g) := by
  have hq := h
  obtain ⟨ad0, c0, ev, hcell⟩ := hq.cell
  obtain ⟨g, off, cap, cur, rfl, h0, hh, h1, h2, h3, h4⟩ := h
  simp only [Value.slice.injEq, Option.some.injEq] at ev
  obtain ⟨rfl, _, rfl⟩ := ev
  have hnews : ∀ j y, ([u] : List Value)[j]? = some y → w.cell? (ad.add j) = some y := by
    intro j y hy
    cases j with
    | zero => rw [Addr.add_zero']; simpa using hy ▸ hu
    | succ j => simp at hy
  by_cases hr : xs.length + 1 ≤ cap
  · have hrun := run_append_room_cells (P := P) w T ty e i hT hi g off xs.length cap ad 1 1 [u] (by simp [hs]) hnews (by simpa using h1c) hr
      (fun j hj => by
        obtain rfl : j = 0 := by simpa using hj
        rw [cell_of_row w g _ cur e (0, 0) hh, hs]
        rw [Array.getElem?_eq_getElem (by omega)]
        rfl)
      (fun j hj => by simp [World.frozen?, hh])
    refine ⟨_, _, hrun, ?_, ?_, .inl rfl⟩
    · refine ⟨g, off, cap, cur.setIfInBounds (off + xs.length) u, by simp, h0, ?_, by simpa using hr, by simpa using h2, h3, ?_⟩
      · simp [World.setCells, World.setCell, hh, hs, Array.getElem?_modify]
      · simp only [Array.toList_setIfInBounds, List.length_append, List.length_singleton]
        rw [List.drop_set]
        rw [if_neg (by omega), show off + xs.length - off = xs.length by omega]
        apply List.ext_getElem?
        intro j
        rw [List.getElem?_take, List.getElem?_set]
        have hcur : ∀ j, j < xs.length → (cur.toList.drop off)[j]? = xs[j]? := by
          intro j hj
          have := congrArg (fun l => l[j]?) h4
          simp only [List.getElem?_take, if_pos hj] at this
          exact this
        by_cases hj : j < xs.length
        · rw [if_pos (by omega), if_neg (by omega), hcur j hj, List.getElem?_append_left hj]
        · by_cases hj2 : j = xs.length
          · subst hj2
            rw [if_pos (by omega), if_pos rfl, if_pos (by simp; omega)]
            simp
          · rw [if_neg (by omega), List.getElem?_eq_none (by simp; omega)]
    · refine ⟨rfl, rfl, rfl, by simp [World.setCells, World.setCell], fun k hk hne => ?_⟩
      have hne' : g ≠ k := fun e_ => hne (by subst e_; rfl)
      simp [World.setCells, World.setCell, Array.getElem?_modify, hne']
  · obtain ⟨v', w', hrun, r1, r2⟩ := run_append_arg_grows (P := P) w T ty e i z 1 8 hT hi hz hs hby hzs (by omega) ⟨g, off, none⟩ xs.length cap xs (by omega) hcell ad 1 1 [u] (by simp) hnews (by omega) (by unfold maxLen; omega) (by omega)
    refine ⟨v', w', hrun, ?_, ⟨r2.os, r2.tape, r2.output, r2.size, fun k hk _ => r2.block k hk (by simp)⟩, ?_⟩
    · rcases r1.2 with ⟨_, hx⟩ | ⟨g', cap', cur', rfl, hg', hh', hn', hc', hsz', ht'⟩
      · omega
      · exact ⟨g', 0, cap', cur', by simp, Nat.le_trans hbase hg', hh', by simpa using hn', by omega, hc', by simpa using ht'⟩
    · rcases r1.2 with ⟨_, hx⟩ | ⟨g', cap', cur', rfl, hg', _⟩
      · omega
      · exact .inr ⟨g', rfl, hg'⟩
/-- What stands at a key of such a map, at the operation. -/
theorem wpList_lookup_raw {P : Program} (w : World) {ops : Array Oper} {rest : List Oper} {o : Oper} {a : Act} {Q : Exit → Act → World → Prop}
    (hg : o.guard = none) (m x : Operand) (t : TypeId) (hop : o.op = Op.lookup t m x false)
    (k e : TypeId) (K : Go.Maps.Keyed P k) (ht : P.underlying t = some (.map k e)) (hz : (zeroValue e).run P w = .ok (.slice none 0 0) w) (b n : Nat) (D : DataW Value)
    (hm : a.eval m = .map (some b)) (hown : w.ownsMap P k rawElem b n D) (key : Value) (kl : Lit) (hx : a.eval x = key) (hkey : keyOf P k key = some kl) (v : Value) (hat : ∀ z, D.atKey kl z = .held v)
    (hK : wpList P ops Q rest (a.put o.dst v) w) :
    wpList P ops Q (o :: rest) a w := by
  refine wpList_plain hg fun K' hK' => ?_
  obtain ⟨v', ps, hrun, hv⟩ := hown.lookup K ht hz (zd := .held (.slice none 0 0)) (zp := []) rfl hkey
  rw [hat] at hv
  have e1 : v' = v := by
    have := congrArg (Option.map Prod.fst) hv
    simpa [rawElem] using this
  subst e1
  unfold Oper.wp
  simp [execOp, hop, hm, hx, hrun, Result.andThen]
  exact hK' _ _ hK
theorem wpList_insert_raw {P : Program} (w : World) {ops : Array Oper} {rest : List Oper} {o : Oper} {a : Act} {Q : Exit → Act → World → Prop}
    (hg : o.guard = none) (m x v : Operand) (t : TypeId) (hop : o.op = Op.insert t m x v)
    (k e : TypeId) (K : Go.Maps.Keyed P k) (ht : P.underlying t = some (.map k e)) (b n : Nat) (D : DataW Value)
    (hm : a.eval m = .map (some b)) (hown : w.ownsMap P k rawElem b n D) (hn : n < maxLen) (key val : Value) (kl : Lit) (hx : a.eval x = key) (hv : a.eval v = val) (hkey : keyOf P k key = some kl)
    (hK : ∀ w', w'.ownsMap P k rawElem b (n + 1) (D.put kl (.held val)) → w.grownBy w' (some b) → wpList P ops Q rest (a.put o.dst undef) w') :
    wpList P ops Q (o :: rest) a w := by
  refine wpList_plain hg fun K' hK' => ?_
  obtain ⟨w', hrun, r1, r2⟩ := hown.update K ht hn hkey (val := val) (d := .held val) (ps := []) rfl
  unfold Oper.wp
  simp [execOp, hop, hm, hx, hv, hrun, Result.andThen]
  exact hK' _ _ (hK w' r1 r2)
/-- One number more at a queue's end, at the operation. -/
theorem wpList_append_q {P : Program} (w : World) {ops : Array Oper} {rest : List Oper} {o : Oper} {a : Act} {Q : Exit → Act → World → Prop} (hgd : o.guard = none) (s x : Operand) (T : TypeId)
    (ho : o.op = .call { callee := .builtin .append, args := #[s, x], argTypes := #[T, T] })
    {base e : Nat} {z : Value} (hT : P.underlying T = some (.slice e)) (hinfo : (P.info? e).map (fun i => (i.zero, i.size, i.bytes)) = some (some z, 1, 8)) (hzs : z.cells.size = 1)
    {v u : Value} {xs : List Value} (hs : a.eval s = v) (h : QRow w base e v xs) (hbase : base ≤ w.heap.size) (hx : a.eval x = .slice (some ⟨w.heap.size, 0, none⟩) 1 1) (h1c : u.oneCell' = true) (hlen : xs.length < 4096)
    (hK : ∀ v' w', QRow w' base e v' (xs ++ [u]) → w.grownBy w' v.ownBlock → (v'.ownBlock = v.ownBlock ∨ ∃ g, v'.ownBlock = some g ∧ w.heap.size ≤ g) → wpList P ops Q rest (a.put o.dst v') w') :
    wpList P ops Q (o :: rest) a (w.alloc (.cells #[u] e)) := by
  refine wpList_plain hgd fun K hK' => ?_
  cases hi : P.info? e with
  | none => rw [hi] at hinfo; cases hinfo
  | some i =>
    rw [hi] at hinfo
    simp only [Option.map_some, Option.some.injEq, Prod.mk.injEq] at hinfo
    obtain ⟨hz, hsz, hby⟩ := hinfo
    have hg0 := World.grownBy_alloc w (.cells #[u] e) none
    have h' : QRow (w.alloc (.cells #[u] e)) base e v xs := QRow.kept h hg0 (by obtain ⟨g, hg, _⟩ := QRow.lt h; rw [hg]; simp)
    have hu : (w.alloc (.cells #[u] e)).cell? ⟨w.heap.size, 0, none⟩ = some u := (cell_of_row _ _ 0 #[u] e (0, 0) (heap_alloc_new w _)).trans rfl
    obtain ⟨v', w', hrun, r1, r2, r3⟩ := QRow.append (P := P) (ty := o.type) hT hi hz hsz hby hzs h' (Nat.le_trans hbase hg0.size) _ hu h1c hlen
    unfold Oper.wp
    simp [execOp, ho, resolve, invoke, builtin, hs, hx, hrun, Result.andThen]
    refine hK' _ _ (hK v' w' r1 ⟨r2.os.trans hg0.os, r2.tape.trans hg0.tape, r2.output.trans hg0.output, Nat.le_trans hg0.size r2.size, fun k hk hne => (r2.block k (Nat.lt_of_lt_of_le hk hg0.size) hne).trans (hg0.block k hk (by simp))⟩ ?_)
    rcases r3 with r3 | ⟨g, r3, r4⟩
    · exact .inl r3
    · exact .inr ⟨g, r3, Nat.le_trans hg0.size r4⟩
/-- The places that were met and their lists, as the map's values hold them. -/
def MV (w : World) (base e : Nat) (ok : Nat → Prop) : List (Int × Value) → List (Int × List Int) → Prop
  | [], [] => True
  | p :: m, q :: l => p.1 = q.1 ∧ Kd.R (Kd.int .i64) e w base ok p.2 q.2 ∧ MV w base e ok m l
  | _, _ => False
theorem MV.fst {w : World} {base e : Nat} {ok : Nat → Prop} : ∀ {m : List (Int × Value)} {l : List (Int × List Int)}, MV w base e ok m l → m.map Prod.fst = l.map Prod.fst
  | [], [], _ => rfl
  | p :: m, q :: l, h => by rw [List.map_cons, List.map_cons, h.1, MV.fst h.2.2]
  | [], _ :: _, h => h.elim
  | _ :: _, [], h => h.elim
theorem MV.step {w w1 : World} {base e : Nat} {ok ok' : Nat → Prop} (hm : ∀ k, ok k → k < w.heap.size → w1.heap[k]? = w.heap[k]?) (hok : ∀ k, ok k → base ≤ k → k < w.heap.size → ok' k) :
    ∀ {m : List (Int × Value)} {l : List (Int × List Int)}, MV w base e ok m l → MV w1 base e ok' m l
  | [], [], _ => trivial
  | p :: m, q :: l, h => ⟨h.1, Kd.R_mono (Kd.R_step (Kd.R_bound h.2.1) (fun k hk hlt => hm k hk.1 hlt)) (fun k hk => hok k hk.1 hk.2.1 hk.2.2.1), MV.step hm hok h.2.2⟩
  | [], _ :: _, h => h.elim
  | _ :: _, [], h => h.elim
theorem MV.snoc {w : World} {base e : Nat} {ok : Nat → Prop} (p : Int × Value) (q : Int × List Int) (h1 : p.1 = q.1) (h2 : Kd.R (Kd.int .i64) e w base ok p.2 q.2) : ∀ {m : List (Int × Value)} {l : List (Int × List Int)}, MV w base e ok m l → MV w base e ok (m ++ [p]) (l ++ [q])
  | [], [], _ => ⟨h1, h2, trivial⟩
  | p' :: m, q' :: l, h => ⟨h.1, h.2.1, MV.snoc p q h1 h2 h.2.2⟩
  | [], _ :: _, h => h.elim
  | _ :: _, [], h => h.elim
theorem MV.mem {w : World} {base e : Nat} {ok : Nat → Prop} (q : Int × List Int) : ∀ {m : List (Int × Value)} {l : List (Int × List Int)}, MV w base e ok m l → q ∈ l → ∃ v, (q.1, v) ∈ m ∧ Kd.R (Kd.int .i64) e w base ok v q.2
  | [], [], _, hq => absurd hq (by simp)
  | p :: m, q' :: l, h, hq => by
    rcases List.mem_cons.1 hq with rfl | hq
    · exact ⟨p.2, by rw [← h.1]; simp, h.2.1⟩
    · obtain ⟨v, h1, h2⟩ := MV.mem q h.2.2 hq
      exact ⟨v, List.mem_cons_of_mem _ h1, h2⟩
  | [], _ :: _, h, _ => h.elim
  | _ :: _, [], h, _ => h.elim
/-- All that is told of the map, the queue, and what was met. -/
structure ShRel (P : Program) (k T e : Nat) (base B : Nat) (w : World) (qv : Value) (vis : List (Int × List Int)) (att : Nat) : Prop where
  map : ∃ mv : List (Int × Value), w.ownsMap P k rawElem B vis.length (mapR mv.reverse) ∧ MV w base e (fun i => some i ≠ qv.ownBlock ∧ i ≠ B) mv vis
  queue : QRow w base e qv ((vis.drop att).map fun p => Value.int .i64 p.1)
  qB : qv.ownBlock ≠ some B
  nodup : (vis.map Prod.fst).Nodup
  bB : base ≤ B
  len : vis.length ≤ 1000
theorem grow_trans {w w1 w2 : World} {row : Option Nat} (h1 : w.grownBy w1 none) (h2 : w1.grownBy w2 row) (hrow : ∀ k, row = some k → w.heap.size ≤ k) : w.grownBy w2 none :=
  ⟨h2.os.trans h1.os, h2.tape.trans h1.tape, h2.output.trans h1.output, Nat.le_trans h1.size h2.size, fun k hk _ => (h2.block k (Nat.lt_of_lt_of_le hk h1.size) (fun e => by have := hrow k e.symm; omega)).trans (h1.block k hk (by simp))⟩
section
variable {P : Program} {k T e base B : Nat} {w w' : World} {qv : Value} {vis : List (Int × List Int)} {att : Nat}
theorem ShRel.grow (h : ShRel P k T e base B w qv vis att) (hg : w.grownBy w' none) : ShRel P k T e base B w' qv vis att := by
  obtain ⟨mv, hown, hmv⟩ := h.map
  exact ⟨⟨mv, hown.kept hg (by simp), MV.step (fun i _ hlt => hg.block i hlt (by simp)) (fun i hi _ _ => hi) hmv⟩, QRow.kept h.queue hg (by obtain ⟨g, hg, _⟩ := QRow.lt h.queue; rw [hg]; simp), h.qB, h.nodup, h.bB, h.len⟩
theorem ShRel.below (h : ShRel P k T e base B w qv vis att) (hb : Below w.heap.size w w') : ShRel P k T e base B w' qv vis att := ShRel.grow h (grown_of_below hb none)
/-- A place that is new, its list, the queue's new end. -/
theorem ShRel.add {w3 w4 w5 w6 : World} {mv : List (Int × Value)} {y : Int} {l : List Int} {v3 v4 v6 : Value} (h : ShRel P k T e base B w qv vis att)
    (hmv : MV w base e (fun i => some i ≠ qv.ownBlock ∧ i ≠ B) mv vis) (hB : B < w.heap.size) (hbw : base ≤ w.heap.size)
    (hg3 : w.grownBy w3 none) (hg4 : w3.grownBy w4 v3.ownBlock) (h3 : ∀ i, v3.ownBlock = some i → w.heap.size ≤ i)
    (hR : Kd.R (Kd.int .i64) e w4 w.heap.size (fun _ => True) v4 l)
    (hg5 : w4.grownBy w5 (some B)) (hown5 : w5.ownsMap P k rawElem B (vis.length + 1) ((mapR mv.reverse).put (.int .i64 y) (.held v4)))
    (hq6 : QRow w6 base e v6 (((vis.drop att).map fun p => Value.int .i64 p.1) ++ [.int .i64 y])) (hg6 : w5.grownBy w6 qv.ownBlock) (hat6 : v6.ownBlock = qv.ownBlock ∨ ∃ g, v6.ownBlock = some g ∧ w5.heap.size ≤ g)
    (hny : vis.any (fun q => q.1 == y) = false) (hatt : att < vis.length) (hlen : vis.length < 1000) : ShRel P k T e base B w6 v6 (vis ++ [(y, l)]) att := by
  obtain ⟨gq, hgq, hbq, hltq⟩ := QRow.lt h.queue
  have hg4' : w.grownBy w4 none := grow_trans hg3 hg4 h3
  have hne6 : ∀ i, (some i ≠ qv.ownBlock ∧ i ≠ B) → i < w5.heap.size → (some i ≠ v6.ownBlock ∧ i ≠ B) := by
    intro i hi hlt
    refine ⟨fun e => ?_, hi.2⟩
    rcases hat6 with hat | ⟨g, hat, hge⟩
    · exact hi.1 (e.trans hat)
    · rw [hat] at e
      injection e with e
      omega
  have hs5 : w.heap.size ≤ w5.heap.size := Nat.le_trans hg4'.size hg5.size
  refine ⟨⟨mv ++ [(y, v4)], ?_, ?_⟩, ?_, ?_, ?_, h.bB, by simp; omega⟩
  · have h9 := hown5.kept hg6 (by intro e; exact h.qB e.symm)
    simpa [mapR] using h9
  · refine MV.snoc (y, v4) (y, l) rfl ?_ ?_
    · refine Kd.R_mono (Kd.R_step (Kd.R_bound (Kd.R_step (Kd.R_mono (Kd.R_bound hR) (ok' := fun i => w.heap.size ≤ i) (fun i hi => hi.2.1)) (fun i hi hlt => hg5.block i hlt (fun e => by injection e with e; omega)))) (w1 := w6) ?_) ?_ |> fun z => Kd.R_lower z hbw
      · intro i hi hlt
        exact hg6.block i hlt (fun e => by rw [hgq] at e; injection e with e; have := hi.1; omega)
      · intro i hi
        exact hne6 i ⟨fun e => by rw [hgq] at e; injection e with e; have := hi.1; omega, by have := hi.1; omega⟩ hi.2.2.1
    · have m4 : MV w4 base e (fun i => (some i ≠ qv.ownBlock ∧ i ≠ B) ∧ i < w.heap.size) mv vis := MV.step (fun i _ hlt => hg4'.block i hlt (by simp)) (fun i hi _ hlt => ⟨hi, hlt⟩) hmv
      have m5 : MV w5 base e (fun i => (some i ≠ qv.ownBlock ∧ i ≠ B) ∧ i < w5.heap.size) mv vis := MV.step (fun i hi hlt => hg5.block i hlt (fun e => by injection e with e; exact hi.1.2 e)) (fun i hi _ hlt => ⟨hi.1, Nat.lt_of_lt_of_le hlt hg5.size⟩) m4
      exact MV.step (fun i hi hlt => hg6.block i hlt hi.1.1) (fun i hi _ _ => hne6 i hi.1 hi.2) m5
  · rw [List.drop_append_of_le_length (by omega), List.map_append]
    exact hq6
  · intro e
    rcases hat6 with hat | ⟨g, hat, hge⟩
    · exact h.qB (hat ▸ e)
    · rw [hat] at e
      injection e with e
      omega
  · rw [List.map_append, List.nodup_append]
    refine ⟨h.nodup, by simp, fun a ha b hb hab => ?_⟩
    subst hab
    simp only [List.map_cons, List.map_nil, List.mem_singleton] at hb
    subst hb
    obtain ⟨q, hq, he⟩ := List.mem_map.1 ha
    have := List.any_eq_false.1 hny q hq
    simp [he] at this
theorem ShRel.next {v' : Value} {p : Int × List Int} {tl : List (Int × List Int)} (h : ShRel P k T e base B w qv vis att) (hd : vis.drop att = p :: tl) (hq : QRow w base e v' (tl.map fun p => Value.int .i64 p.1)) (hv : v'.ownBlock = qv.ownBlock) : ShRel P k T e base B w v' vis (att + 1) := by
  obtain ⟨mv, hown, hmv⟩ := h.map
  have e1 : vis.drop (att + 1) = tl := by rw [← List.drop_drop, hd]; rfl
  refine ⟨⟨mv, hown, by rw [hv]; exact hmv⟩, by rw [e1]; exact hq, by rw [hv]; exact h.qB, h.nodup, h.bB, h.len⟩
end
mutual
def impl_shortest.l0 (stp : Int → Int → Option Int) (go_ c : Int) : Nat → List (Int × List Int) → Nat → Option (List Int × Bool)
  | 0, _, _ => none
  | k + 1, vis, att => match vis.drop att with
    | [] => some ([], false)
    | p :: _ => if p.1 = go_ then (slices_Clone_Lint_int.f p.2).bind (fun r => some (r, true)) else impl_shortest.l1 stp go_ c k vis att p 0
def impl_shortest.l1 (stp : Int → Int → Option Int) (go_ c : Int) : Nat → List (Int × List Int) → Nat → Int × List Int → Int → Option (List Int × Bool)
  | 0, _, _, _, _ => none
  | k + 1, vis, att, p, ch => if ch < c then ((stp p.1 ch).bind fun y => if -1000 ≤ y ∧ y ≤ 1000 then (if vis.any (fun q => q.1 == y) = true then impl_shortest.l1 stp go_ c k vis att p (wrap64 (ch + 1)) else if vis.length < 1000 then ((slices_Clone_Lint_int.f p.2).bind fun cl => if cl.length < 4096 then impl_shortest.l1 stp go_ c k (vis ++ [(y, cl ++ [ch])]) att p (wrap64 (ch + 1)) else none) else none) else none) else impl_shortest.l0 stp go_ c k vis (att + 1)
end
def impl_shortest.f (stp : Int → Int → Option Int) (k : Nat) (a0 a1 a2 : Int) : Option (List Int × Bool) := if -1000 ≤ a0 ∧ a0 ≤ 1000 then impl_shortest.l0 stp a1 a2 k [(a0, [])] 0 else none
theorem wf_small {x : Int} (h : -1000 ≤ x ∧ x ≤ 1000) : (Lit.int .i64 x).wf = true := by
  have a : IntKind.i64.min = -9223372036854775808 := by kernel_rfl
  have b : IntKind.i64.max = 9223372036854775807 := by kernel_rfl
  simp only [Lit.wf, Bool.and_eq_true, decide_eq_true_eq]
  omega
theorem ShRel.start {P : Program} {k T e base B : Nat} {w1 : World} {a0 : Int} (hown : w1.ownsMap P k rawElem B 1 ((DataW.map []).put (.int .i64 a0) (.held (.slice none 0 0)))) (hbB : base ≤ B) (hbase : base ≤ w1.heap.size) :
    ShRel P k T e base B (w1.alloc (.cells #[.int .i64 a0] e)) (.slice (some ⟨w1.heap.size, 0, none⟩) 1 1) [(a0, [])] 0 :=
  ⟨⟨[(a0, .slice none 0 0)], hown.alloc _, rfl, Kd.R_nil _ _ _ _ _, trivial⟩, ⟨w1.heap.size, 0, 1, #[.int .i64 a0], rfl, hbase, heap_alloc_new w1 _, Nat.le_refl _, Nat.le_refl _, by unfold maxLen; omega, rfl⟩,
    by intro e_; injection e_ with e_; change w1.heap.size = B at e_; have := hown.lt; omega, by simp, hbB, by simp⟩
set_option maxHeartbeats 16000000 in
set_option maxRecDepth 100000 in
theorem impl_shortest.calls (stp : Int → Int → Option Int) (g : Nat) (lb : Array Value) (eg : ∀ args w, (callFunc g args).run Try.prog w = .ok (.enter g args) w) (k : Nat) (a0 a1 a2 : Int) (r1 : List Int) (r2 : Bool) (w : World)
    (hp : ∀ (W : World) (x y z : Int), Below w.heap.size w W → stp x y = some z → Calls Try.prog g (#[.int .i64 x, .int .i64 y] ++ lb) W fun e w' => e = .returned (.int .i64 z) ∧ Below W.heap.size W w')
    (h : impl_shortest.f stp k a0 a1 a2 = some (r1, r2)) :
    Calls Try.prog 45 #[.int .i64 a0, .int .i64 a1, .int .i64 a2, .func (.func g) #[] lb] w fun e w' => ∃ v0_ : Value, e = .returned (.tuple #[v0_, .bool r2]) ∧ Kd.R (Kd.int .i64) 3 w' w.heap.size (fun _ => True) v0_ r1 ∧ Below w.heap.size w w' := by
  unfold impl_shortest.f at h
  by_cases hw0 : -1000 ≤ a0 ∧ a0 ≤ 1000
  rotate_left
  · rw [if_neg hw0] at h
    cases h
  rw [if_pos hw0] at h
  have H0 := Aside0.mk h
  have HP := Aside0.mk hp
  have WF0 := Aside0.mk hw0
  have hzE : ∀ W : World, (zeroValue 24).run Try.prog W = .ok (.slice none 0 0) W := fun W => by kernel_rfl
  have ZE := Aside0.mk hzE
  have hmm := @run_makeMap Try.prog
  obtain ⟨iI, hiI, hzI, hsI, hbI⟩ := info_parts info3
  have II := Aside0.mk hiI
  have SI := Aside0.mk hsI
  clear h hp hw0 hzE hiI hzI hsI hbI
  go_enter Try.func45, Try.ntmps45
  go_wp2_with (refine wpList_insert_raw _ ?hg (.tmp 16) (.tmp 17) (.const (.slice none 0 0)) 76 ?hop 3 24 (Go.Maps.int_keyed Try.underlying3) Try.underlying76 w.heap.size 0 (.map []) ?hm ?hown (by unfold maxLen; omega) (.int .i64 a0) (.slice none 0 0) (.int .i64 a0) ?hx ?hv (Go.Maps.keyOf_int_mk Try.underlying3 (wf_small WF0.out)) ?_; (case hop => rfl); (case hg => rfl); (case hm => rfl); (case hx => rfl); (case hv => rfl); (case hown => exact World.ownsMap_made _ _ _ _); intro w1 hown1 hg1; have HB1 := Aside0.mk (pw_below_grown (below_alloc (Below.refl w.heap.size w) (.map #[] 0)) (some w.heap.size) (by simp) hg1 (fun k hk => by cases hk; exact Nat.le_refl _)); have OWN1 := Aside0.mk hown1; clear hown1 hg1)
  go_loopg [11] k (fun kq v11 w' => ∃ (vis : List (Int × List Int)) (att : Nat), Aside0 (impl_shortest.l0 stp a1 a2 kq vis att = some (r1, r2)) ∧ Aside0 (kq ≤ k) ∧ Aside0 (∀ q ∈ vis, -1000 ≤ q.1 ∧ q.1 ≤ 1000) ∧ Aside0 (ShRel Try.prog 3 24 3 w.heap.size w.heap.size w' v11 vis att) ∧ Aside0 (Below w.heap.size w w'))
  case atStart => exact ⟨[(a0, [])], 0, H0, ⟨Nat.le_refl _⟩, ⟨fun q hq => by obtain rfl := List.mem_singleton.1 hq; exact WF0.out⟩, ⟨ShRel.start OWN1.out (Nat.le_refl _) HB1.out.size⟩, ⟨below_alloc HB1.out _⟩⟩
  case round =>
    clear H0 HB1 OWN1
    obtain ⟨vis, att, HA, HK, HW, HS, HB⟩ := hrel
    cases gk with
    | zero => exact absurd HA.out (by simp [impl_shortest.l0])
    | succ k2 =>
      have H := HA.out
      clear HA
      have hq := HS.out.queue
      cases hd : vis.drop att with
      | nil =>
        simp only [impl_shortest.l0, hd, Option.some.injEq, Prod.mk.injEq] at H
        obtain ⟨rfl, rfl⟩ := H
        rw [hd] at hq
        obtain ⟨ad, cap, ev, _⟩ := QRow.cell hq
        simp only [List.map_nil, List.length_nil] at ev
        subst ev
        clear hq hd
        go_wp2
        go_ret2
        exact ⟨_, rfl, Kd.R_nil _ _ _ _ _, HB.out⟩
      | cons p tl =>
        obtain ⟨x, wy⟩ := p
        have hpm : (x, wy) ∈ vis := List.mem_of_mem_drop (by rw [hd]; simp)
        rw [hd] at hq
        obtain ⟨ad, cap, ev, hcell⟩ := QRow.cell hq
        have hc0 : wr.cell? ad = some (.int .i64 x) := by have h9 := hcell 0 (.int .i64 x) rfl; rw [Addr.add_zero'] at h9; exact h9
        obtain ⟨n, hn⟩ : ∃ n, n = (((x, wy) :: tl).map fun q => Value.int .i64 q.1).length := ⟨_, rfl⟩
        rw [← hn] at ev
        have hn0 : 0 < n := by rw [hn]; simp
        have n1 : decide (0 < (n : Int)) = true := decide_eq_true (by omega)
        have n2 : decide (0 < n) = true := decide_eq_true hn0
        have HPW := Aside0.mk (HW.out _ hpm)
        have HN := Aside0.mk hn
        subst ev
        have HD := Aside0.mk hd
        have HPM := Aside0.mk hpm
        replace hn0 := eq_true hn0
        simp only [impl_shortest.l0, hd] at H
        clear hq hcell hn hd hpm
        by_cases c1 : x = a1
        · subst c1
          rw [if_pos rfl] at H
          obtain ⟨r, hcl, H⟩ := Option.bind_eq_some_iff.mp H
          simp only [Option.some.injEq, Prod.mk.injEq] at H
          obtain ⟨rfl, rfl⟩ := H
          have HCL := Aside0.mk hcl
          have c1b : (x == x) = true := beq_self_eq_true x
          obtain ⟨mv, hown, hmv⟩ := HS.out.map
          obtain ⟨vx, hmem, hRx⟩ := MV.mem (x, wy) hmv HPM.out
          obtain ⟨A, cx, rfl⟩ := Kd.R_slice hRx
          have HAT := Aside0.mk (fun z => mapR_at x (.slice A wy.length cx) z mv.reverse (by rw [List.map_reverse]; exact (List.reverse_perm _).nodup_iff.2 (by rw [MV.fst hmv]; exact HS.out.nodup)) (List.mem_reverse.2 hmem))
          have HOWN := Aside0.mk hown
          have HRX := Aside0.mk hRx
          clear hcl hown hmv hmem hRx
          go_wp2_with (first
            | (at_lookup; refine wpList_lookup_raw _ rfl _ _ 76 rfl 3 24 (Go.Maps.int_keyed Try.underlying3) Try.underlying76 (ZE.out _) w.heap.size vis.length _ rfl HOWN.out _ _ rfl (Go.Maps.keyOf_int_mk Try.underlying3 (wf_small HPW.out)) _ HAT.out ?_)
            | (go_at_call 77; (with_reducible refine (slices_Clone_Lint_int.calls A cx wy r _ (Kd.R_reads' HRX.out).2.2 (Kd.R_reads' HRX.out).2.1 HCL.out).mono ?_); rintro e w2 ⟨v2, rfl, ho, hb⟩; have HO2 := Aside0.mk (Kd.R_lower ho (below_size HB.out)); have HB2 := Aside0.mk (below_step HB.out hb); clear ho hb))
          go_ret2
          exact ⟨_, rfl, HO2.out, HB2.out⟩
        · rw [if_neg c1] at H
          have c1b : (x == a1) = false := beq_eq_false_iff_ne.mpr c1
          have H' := Aside0.mk H
          clear c1 H
          go_wp2
          go_loopg [11, 12] k2 (fun kq v11 v12 w' => ∃ (vs : List (Int × List Int)) (ch : Int), v12 = .int .i64 ch ∧ Aside0 (impl_shortest.l1 stp a1 a2 kq vs att (x, wy) ch = some (r1, r2)) ∧ Aside0 (kq ≤ k2) ∧ Aside0 (∃ tl, vs.drop att = (x, wy) :: tl) ∧ Aside0 (∀ q ∈ vs, -1000 ≤ q.1 ∧ q.1 ≤ 1000) ∧ Aside0 (ShRel Try.prog 3 24 3 w.heap.size w.heap.size w' v11 vs att) ∧ Aside0 (Below w.heap.size w w'))
          case atStart => exact ⟨vis, 0, rfl, H', ⟨Nat.le_refl _⟩, ⟨tl, HD.out⟩, HW, HS, HB⟩
          case round =>
            clear H' HS HB HW HD HN HPM hc0 n1 n2 hn0
            obtain ⟨vs, ch, rfl, HA, HK3, HD, HW, HS, HB⟩ := hrel
            cases gk with
            | zero => exact absurd HA.out (by simp [impl_shortest.l1])
            | succ k3 =>
              have H := HA.out
              clear HA
              simp only [impl_shortest.l1] at H
              obtain ⟨tl2, hd⟩ := HD.out
              have hq := HS.out.queue
              have hpm : (x, wy) ∈ vs := List.mem_of_mem_drop (by rw [hd]; simp)
              have hatt : att < vs.length := by
                rcases Nat.lt_or_ge att vs.length with h9 | h9
                · exact h9
                · rw [List.drop_eq_nil_of_le h9] at hd; cases hd
              rw [hd] at hq
              by_cases c2 : ch < a2
              · rw [if_pos c2] at H
                have c2b : decide (ch < a2) = true := decide_eq_true c2
                obtain ⟨y, hy, H⟩ := Option.bind_eq_some_iff.mp H
                by_cases c3 : -1000 ≤ y ∧ y ≤ 1000
                rotate_left
                · rw [if_neg c3] at H
                  cases H
                rw [if_pos c3] at H
                obtain ⟨ad2, cap2, ev, hcell⟩ := QRow.cell hq
                have hc0 : wr.cell? ad2 = some (.int .i64 x) := by have h9 := hcell 0 (.int .i64 x) rfl; rw [Addr.add_zero'] at h9; exact h9
                obtain ⟨n, hn⟩ : ∃ n, n = (((x, wy) :: tl2).map fun q => Value.int .i64 q.1).length := ⟨_, rfl⟩
                rw [← hn] at ev
                have hn0 : 0 < n := by rw [hn]; simp
                have n1 : decide (0 < (n : Int)) = true := decide_eq_true (by omega)
                have n2 : decide (0 < n) = true := decide_eq_true hn0
                subst ev
                obtain ⟨mv, hown, hmv⟩ := HS.out.map
                obtain ⟨vx, hmem, hRx⟩ := MV.mem (x, wy) hmv hpm
                obtain ⟨A, cx, rfl⟩ := Kd.R_slice hRx
                have HAT := Aside0.mk (fun z => mapR_at x (.slice A wy.length cx) z mv.reverse (by rw [List.map_reverse]; exact (List.reverse_perm _).nodup_iff.2 (by rw [MV.fst hmv]; exact HS.out.nodup)) (List.mem_reverse.2 hmem))
                have HHAS := Aside0.mk (show Go.Maps.has (mapR mv.reverse) (.int .i64 y) = vs.any (fun q => q.1 == y) by rw [mapR_has, List.any_reverse]; have h9 := congrArg (fun l => l.any (fun z => z == y)) (MV.fst hmv); simp only [List.any_map] at h9; exact h9)
                have HOWN := Aside0.mk hown
                have HMV := Aside0.mk hmv
                have HRX := Aside0.mk hRx
                have HSTP := Aside0.mk hy
                have HYW := Aside0.mk c3
                have HD2 := Aside0.mk hd
                have HATT := Aside0.mk hatt
                have HQ := Aside0.mk hq
                have HN := Aside0.mk hn
                have HPS := Aside0.mk (grown_of_below (Below.refl wr.heap.size wr) none)
                replace hn0 := eq_true hn0
                clear hy c3 hq hcell hn hd hpm hatt hown hmv hmem hRx c2
                cases hm : vs.any (fun q => q.1 == y) with
                | true =>
                  rw [hm, if_pos rfl] at H
                  have H' := Aside0.mk H
                  have HM := Aside0.mk hm
                  clear H hm
                  go_wp2_with (first
                    | (go_at_fn g; refine (HP.out wr x ch y HB.out HSTP.out).mono ?_; rintro e w2 ⟨rfl, hb⟩; have S2 := Aside0.mk (ShRel.below HS.out hb); have G2 := Aside0.mk (grown_of_below hb none); have OWN2 := Aside0.mk (HOWN.out.kept G2.out (by simp)); have HB2 := Aside0.mk (below_step HB.out hb); clear hb hc0)
                    | (at_lookup; refine wpList_lookup_own_ok _ rfl _ _ 76 rfl 3 24 (Go.Maps.int_keyed Try.underlying3) Try.underlying76 rawElem (ZE.out _) (.held (.slice none 0 0)) [] rfl w.heap.size vs.length _ rfl OWN2.out _ _ rfl (Go.Maps.keyOf_int_mk Try.underlying3 (wf_small HYW.out)) ?_; intro v0 ps0 hv0; rw [HHAS.out, HM.out]; clear hv0))
                  go_roundg k3
                  case measure => have := HK.out; have := HK3.out; omega
                  case rel => exact ⟨vs, wrap64 (ch + 1), rfl, H', ⟨by have := HK.out; have := HK3.out; omega⟩, ⟨_, HD2.out⟩, HW, S2, HB2⟩
                | false =>
                  rw [hm, if_neg (by decide)] at H
                  by_cases c4 : vs.length < 1000
                  rotate_left
                  · rw [if_neg c4] at H
                    cases H
                  rw [if_pos c4] at H
                  obtain ⟨cl, hcl, H⟩ := Option.bind_eq_some_iff.mp H
                  by_cases c5 : cl.length < 4096
                  rotate_left
                  · rw [if_neg c5] at H
                    cases H
                  rw [if_pos c5] at H
                  have H' := Aside0.mk H
                  have HM := Aside0.mk hm
                  have HCL := Aside0.mk hcl
                  have C4 := Aside0.mk c4
                  have C5 := Aside0.mk c5
                  have HXW := Aside0.mk (HW.out _ (List.mem_of_mem_drop (show (x, wy) ∈ vs.drop att by rw [HD2.out]; simp)))
                  clear H hm hcl c4 c5
                  go_wp2_with (first
                    | (go_at_fn g; refine (HP.out wr x ch y HB.out HSTP.out).mono ?_; rintro e w2 ⟨rfl, hb⟩; have S2 := Aside0.mk (ShRel.below HS.out hb); have G2 := Aside0.mk (grown_of_below hb none); have OWN2 := Aside0.mk (HOWN.out.kept G2.out (by simp)); have HB2 := Aside0.mk (below_step HB.out hb); have MV2 := Aside0.mk (MV.step (fun i _ hlt => G2.out.block i hlt (by simp)) (fun i hi _ _ => hi) HMV.out); have RX2 := Aside0.mk (Kd.R_below HRX.out hb); have hc2 : w2.cell? ad2 = some (.int .i64 x) := pw_cell_below hb hc0; clear hb hc0)
                    | (at_lookup; refine wpList_lookup_own_ok _ rfl _ _ 76 rfl 3 24 (Go.Maps.int_keyed Try.underlying3) Try.underlying76 rawElem (ZE.out _) (.held (.slice none 0 0)) [] rfl w.heap.size vs.length _ rfl OWN2.out _ _ rfl (Go.Maps.keyOf_int_mk Try.underlying3 (wf_small HYW.out)) ?_; intro v0 ps0 hv0; rw [HHAS.out, HM.out]; clear hv0)
                    | (at_lookup; refine wpList_lookup_raw _ rfl _ _ 76 rfl 3 24 (Go.Maps.int_keyed Try.underlying3) Try.underlying76 (ZE.out _) w.heap.size vs.length _ rfl OWN2.out _ _ rfl (Go.Maps.keyOf_int_mk Try.underlying3 (wf_small HXW.out)) _ HAT.out ?_)
                    | (go_at_call 77; (with_reducible refine (slices_Clone_Lint_int.calls A cx wy cl _ (Kd.R_reads' RX2.out).2.2 (Kd.R_reads' RX2.out).2.1 HCL.out).mono ?_); rintro e w3 ⟨v3, rfl, ho, hb⟩; have HO3 := Aside0.mk ho; have G3 := Aside0.mk (grown_of_below hb none); have OWN3 := Aside0.mk (OWN2.out.kept G3.out (by simp)); have HB3 := Aside0.mk (below_step HB2.out hb); have B23 := Aside0.mk hb; clear ho hb hc2)
                    | (at_builtin; refine Kd.R_append (Kd.int .i64) (w0 := w2) w2.heap.size rfl (.tmp 61) (.tmp 63) 24 3 (.int .i64 0) 8 rfl Try.underlying24 info3 rfl (by decide) (by omega) v3 cl ch [.int .i64 ch] (fun _ => True) (fun _ => False) rfl rfl ?aP (fun _ hk => hk.elim) ?aF ?aO ?aB ?aS ?aL ?_; (case aP => exact rfl); (case aB => exact B23.out); (case aF => exact fun _ _ => trivial); (case aO => exact HO3.out); (case aS => exact B23.out.size); (case aL => have h9 := C5.out; omega); intro v4 w4 hr4 hb4 hg4 hat4; have HR4 := Aside0.mk hr4; have HG4 := Aside0.mk hg4; have OWN4 := Aside0.mk (OWN3.out.kept hg4 (fun e_ => by have h8 := Kd.R_base HO3.out _ e_.symm; have h9 := OWN2.out.lt; omega)); have HB4 := Aside0.mk (pw_below_grown HB3.out _ (below_size HB3.out) hg4 (fun i hi => Nat.le_trans (below_size HB2.out) (Kd.R_base HO3.out i hi))); clear hr4 hb4 hg4 hat4)
                    | (at_mapUpdate; refine wpList_mapUpdate_own _ rfl _ _ _ 76 rfl 3 24 (Go.Maps.int_keyed Try.underlying3) Try.underlying76 rawElem w.heap.size vs.length _ rfl OWN4.out (by have h9 := C4.out; unfold maxLen; omega) _ _ _ rfl rfl (Go.Maps.keyOf_int_mk Try.underlying3 (wf_small HYW.out)) (.held v4) [] rfl ?_; intro w5 hown5 hg5; have OWN5 := Aside0.mk hown5; have HG5 := Aside0.mk hg5; have HB5 := Aside0.mk (pw_below_grown HB4.out _ (below_size HB4.out) hg5 (fun i hi => by cases hi; exact Nat.le_refl _)); have Q5 := Aside0.mk (QRow.kept (QRow.kept (QRow.below (QRow.below HQ.out (by first | exact (show Below wr.heap.size wr w2 from ⟨G2.out.os, G2.out.tape, G2.out.output, G2.out.size, fun i hi => G2.out.block i hi (by simp)⟩))) B23.out) HG4.out (fun e_ => by obtain ⟨gq, hgq, _, hltq⟩ := QRow.lt S2.out.queue; rw [hgq] at e_; have h8 := Kd.R_base HO3.out _ e_.symm; omega)) hg5 S2.out.qB); clear hown5 hg5)
                    | (at_builtin; refine wpList_append_q _ rfl (.tmp 65) (.tmp 67) 24 rfl Try.underlying24 info3 rfl rfl (v := .slice (some ad2) n cap2) (u := .int .i64 y) Q5.out (below_size HB5.out) rfl rfl (by have h9 := C4.out; have h8 := congrArg List.length HD2.out; rw [List.length_drop] at h8; simp at h8 ⊢; omega) ?_; intro v6 w6 hq6 hg6 hat6; have Q6 := Aside0.mk hq6; have HG6 := Aside0.mk hg6; have HA6 := Aside0.mk hat6; have HB6 := Aside0.mk (pw_below_grown HB5.out _ (below_size HB5.out) hg6 (fun i hi => by obtain ⟨gq, hgq, hbq, _⟩ := QRow.lt S2.out.queue; rw [hgq] at hi; injection hi with hi; omega)); clear hq6 hg6 hat6))
                  go_roundg k3
                  case measure => have := HK.out; have := HK3.out; omega
                  case rel =>
                    refine ⟨vs ++ [(y, cl ++ [ch])], wrap64 (ch + 1), rfl, H', ⟨by have := HK.out; have := HK3.out; omega⟩, ⟨tl2 ++ [(y, cl ++ [ch])], by rw [List.drop_append_of_le_length (by have := HATT.out; omega), HD2.out]; rfl⟩, ⟨fun q hq => ?_⟩, ⟨ShRel.add S2.out MV2.out OWN2.out.lt (below_size HB2.out) G3.out HG4.out (Kd.R_base HO3.out) HR4.out HG5.out OWN5.out (by rw [HD2.out]; exact Q6.out) HG6.out HA6.out HM.out HATT.out C4.out⟩, HB6⟩
                    rcases List.mem_append.1 hq with hq | hq
                    · exact HW.out q hq
                    · obtain rfl := List.mem_singleton.1 hq
                      exact HYW.out
              · rw [if_neg c2] at H
                have c2b : decide (ch < a2) = false := decide_eq_false c2
                obtain ⟨v', hrun, hq', hv'⟩ := QRow.tail (P := Try.prog) Try.underlying24 II.out SI.out hq
                have HQ' := Aside0.mk hq'
                have HV' := Aside0.mk hv'
                have HD2 := Aside0.mk hd
                have H' := Aside0.mk H
                clear hq hq' hv' hd H c2 hpm hatt
                go_wp2
                go_roundg k3
                case measure => have := HK.out; have := HK3.out; omega
                case rel => exact ⟨vs, att + 1, H', ⟨by have := HK.out; have := HK3.out; omega⟩, HW, ⟨ShRel.next HS.out HD2.out HQ'.out HV'.out⟩, HB⟩
end Go.Proofs.Ytbeehklibkeecaa.F
end
section
/- Laid by a program of this claim's own. What the Go function does, as a Lean function, and the proof that the Go code does just that; Lean checks it. -/
namespace Go.Proofs.Ytbeehklibkeecaa.F
open Go.RowKit Go.Proofs.YtbeehklibkeecaaW.PrintWords Go.Proofs.YtbeehklibkeecaaW.PrintLast Go.Proofs.YtbeehklibkeecaaW.PrintMore
attribute [local go_sem] max2_int min2_int max_two min_two max_three min_three max_four min_four   -- for this text's walks alone
set_option linter.unusedVariables false
set_option linter.unusedSimpArgs false
/-! ### impl_PlacesFor: function 16 -/
set_option maxHeartbeats 8000000 in
set_option maxRecDepth 100000 in
theorem impl_PlacesFor.at_ (k : Nat) (a0 a1 x y z : Int) (g0 g1 : Nat) (W : World) (h0 : W.cell? ⟨g0, 0, none⟩ = some (.int .i64 a0)) (h1 : W.cell? ⟨g1, 0, none⟩ = some (.int .i64 a1)) (h : impl_IndexAfter.f k a0 a1 x y = some z) :
    Calls Try.prog 46 (#[.int .i64 x, .int .i64 y] ++ #[.pointer (some ⟨g0, 0, none⟩), .pointer (some ⟨g1, 0, none⟩)]) W fun e w' => e = .returned (.int .i64 z) ∧ Below W.heap.size W w' := by
  have H := Aside0.mk h
  clear h
  show Calls Try.prog 46 #[.int .i64 x, .int .i64 y, .pointer (some ⟨g0, 0, none⟩), .pointer (some ⟨g1, 0, none⟩)] W _
  go_enter Try.func46, Try.ntmps46
  go_wp2_with (go_at_call 23; (with_reducible refine (impl_IndexAfter.calls k a0 a1 x y z _ H.out).mono ?_); rintro e w' ⟨rfl, hb⟩; have HB := Aside0.mk hb; clear hb)
  go_ret
  exact ⟨rfl, HB.out⟩
def impl_PlacesFor.f (k : Nat) (a0 a1 a2 a3 : Int) : Option (List Int × Bool) := (impl_PilesOk.f a0 a1).bind fun b => if b = true then (if a2 < 0 then some ([], false) else if a0 ≤ a2 then some ([], false) else if a3 < 0 then some ([], false) else if a0 ≤ a3 then some ([], false) else impl_shortest.f (fun x y => impl_IndexAfter.f k a0 a1 x y) k a2 a3 a1) else some ([], false)
set_option maxHeartbeats 16000000 in
set_option maxRecDepth 100000 in
theorem impl_PlacesFor.calls_0 (a0 a1 a2 a3 : Int) (w : World) (hok : impl_PilesOk.f a0 a1 = some false) :
    Calls Try.prog 16 #[.int .i64 a0, .int .i64 a1, .int .i64 a2, .int .i64 a3] w fun e w' => ∃ v0_ : Value, e = .returned (.tuple #[v0_, .bool false]) ∧ Kd.R (Kd.int .i64) 3 w' w.heap.size (fun _ => True) v0_ [] ∧ Below w.heap.size w w' := by
  have HOK := Aside0.mk hok
  clear hok
  go_enter Try.func16, Try.ntmps16
  go_wp2_with (first
    | ((with_reducible refine gate_dst (N := 4) rfl ?_); (try (refine gate_guard (by rfl) ?_; dsimp only)); refine box_event ?hg (N := 4) ?hd (cs := #[.int .i64 a0]) (t := 3) ?hr ?_; (case hd => rfl); (case hg => rfl); (case hr => first | (go_simp; done) | (go_simp; rfl)); intro gb0 hg wb0 hbox hb; have BK0 := Aside0.mk (show Whole wb0 gb0 3 #[.int .i64 a0] from hbox); have BB0 := Aside0.mk hb; have cx0 : wb0.cell? ⟨gb0, 0, none⟩ = some (.int .i64 a0) := (Whole.cell BK0.out 0).trans rfl; clear hb hbox hg)
    | ((with_reducible refine gate_dst (N := 5) rfl ?_); (try (refine gate_guard (by rfl) ?_; dsimp only)); refine box_event ?hg (N := 5) ?hd (cs := #[.int .i64 a1]) (t := 3) ?hr ?_; (case hd => rfl); (case hg => rfl); (case hr => first | (go_simp; done) | (go_simp; rfl)); intro gb1 hg wb1 hbox hb; have BK1 := Aside0.mk (show Whole wb1 gb1 3 #[.int .i64 a1] from hbox); have BB1 := Aside0.mk (below_step BB0.out hb); have BS1 := Aside0.mk hb; clear cx0; have cx0 : wb1.cell? ⟨gb0, 0, none⟩ = some (.int .i64 a0) := pw_cell_below hb ((Whole.cell BK0.out 0).trans rfl); have cx1 : wb1.cell? ⟨gb1, 0, none⟩ = some (.int .i64 a1) := (Whole.cell BK1.out 0).trans rfl; clear hb hbox hg)
    | (go_at_call 22; (with_reducible refine (impl_PilesOk.calls a0 a1 false _ HOK.out).mono ?_); rintro e w5 ⟨rfl, hd⟩; have B5 := Aside0.mk (below_step BB1.out hd.below); have HD5 := Aside0.mk hd.below; have dx0 : w5.cell? ⟨gb0, 0, none⟩ = some (.int .i64 a0) := pw_cell_below hd.below cx0; have dx1 : w5.cell? ⟨gb1, 0, none⟩ = some (.int .i64 a1) := pw_cell_below hd.below cx1; clear hd cx0 cx1))
  go_ret2
  exact ⟨_, rfl, Kd.R_nil _ _ _ _ _, B5.out⟩
set_option maxHeartbeats 16000000 in
set_option maxRecDepth 100000 in
theorem impl_PlacesFor.calls_1 (a0 a1 a2 a3 : Int) (w : World) (hok : impl_PilesOk.f a0 a1 = some true) (h0 : a2 < 0) :
    Calls Try.prog 16 #[.int .i64 a0, .int .i64 a1, .int .i64 a2, .int .i64 a3] w fun e w' => ∃ v0_ : Value, e = .returned (.tuple #[v0_, .bool false]) ∧ Kd.R (Kd.int .i64) 3 w' w.heap.size (fun _ => True) v0_ [] ∧ Below w.heap.size w w' := by
  have HOK := Aside0.mk hok
  have g0 : decide (a2 < 0) = true := decide_eq_true h0
  clear hok h0
  go_enter Try.func16, Try.ntmps16
  go_wp2_with (first
    | ((with_reducible refine gate_dst (N := 4) rfl ?_); (try (refine gate_guard (by rfl) ?_; dsimp only)); refine box_event ?hg (N := 4) ?hd (cs := #[.int .i64 a0]) (t := 3) ?hr ?_; (case hd => rfl); (case hg => rfl); (case hr => first | (go_simp; done) | (go_simp; rfl)); intro gb0 hg wb0 hbox hb; have BK0 := Aside0.mk (show Whole wb0 gb0 3 #[.int .i64 a0] from hbox); have BB0 := Aside0.mk hb; have cx0 : wb0.cell? ⟨gb0, 0, none⟩ = some (.int .i64 a0) := (Whole.cell BK0.out 0).trans rfl; clear hb hbox hg)
    | ((with_reducible refine gate_dst (N := 5) rfl ?_); (try (refine gate_guard (by rfl) ?_; dsimp only)); refine box_event ?hg (N := 5) ?hd (cs := #[.int .i64 a1]) (t := 3) ?hr ?_; (case hd => rfl); (case hg => rfl); (case hr => first | (go_simp; done) | (go_simp; rfl)); intro gb1 hg wb1 hbox hb; have BK1 := Aside0.mk (show Whole wb1 gb1 3 #[.int .i64 a1] from hbox); have BB1 := Aside0.mk (below_step BB0.out hb); have BS1 := Aside0.mk hb; clear cx0; have cx0 : wb1.cell? ⟨gb0, 0, none⟩ = some (.int .i64 a0) := pw_cell_below hb ((Whole.cell BK0.out 0).trans rfl); have cx1 : wb1.cell? ⟨gb1, 0, none⟩ = some (.int .i64 a1) := (Whole.cell BK1.out 0).trans rfl; clear hb hbox hg)
    | (go_at_call 22; (with_reducible refine (impl_PilesOk.calls a0 a1 true _ HOK.out).mono ?_); rintro e w5 ⟨rfl, hd⟩; have B5 := Aside0.mk (below_step BB1.out hd.below); have HD5 := Aside0.mk hd.below; have dx0 : w5.cell? ⟨gb0, 0, none⟩ = some (.int .i64 a0) := pw_cell_below hd.below cx0; have dx1 : w5.cell? ⟨gb1, 0, none⟩ = some (.int .i64 a1) := pw_cell_below hd.below cx1; clear hd cx0 cx1))
  go_ret2
  exact ⟨_, rfl, Kd.R_nil _ _ _ _ _, B5.out⟩
set_option maxHeartbeats 16000000 in
set_option maxRecDepth 100000 in
theorem impl_PlacesFor.calls_2 (a0 a1 a2 a3 : Int) (w : World) (hok : impl_PilesOk.f a0 a1 = some true) (h0 : ¬ a2 < 0) (h1 : a0 ≤ a2) :
    Calls Try.prog 16 #[.int .i64 a0, .int .i64 a1, .int .i64 a2, .int .i64 a3] w fun e w' => ∃ v0_ : Value, e = .returned (.tuple #[v0_, .bool false]) ∧ Kd.R (Kd.int .i64) 3 w' w.heap.size (fun _ => True) v0_ [] ∧ Below w.heap.size w w' := by
  have HOK := Aside0.mk hok
  have g0 : decide (a2 < 0) = false := decide_eq_false h0
  have g1 : decide (a0 ≤ a2) = true := decide_eq_true h1
  have g1g : decide (a2 ≥ a0) = true := decide_eq_true h1
  clear hok h0 h1
  go_enter Try.func16, Try.ntmps16
  go_wp2_with (first
    | ((with_reducible refine gate_dst (N := 4) rfl ?_); (try (refine gate_guard (by rfl) ?_; dsimp only)); refine box_event ?hg (N := 4) ?hd (cs := #[.int .i64 a0]) (t := 3) ?hr ?_; (case hd => rfl); (case hg => rfl); (case hr => first | (go_simp; done) | (go_simp; rfl)); intro gb0 hg wb0 hbox hb; have BK0 := Aside0.mk (show Whole wb0 gb0 3 #[.int .i64 a0] from hbox); have BB0 := Aside0.mk hb; have cx0 : wb0.cell? ⟨gb0, 0, none⟩ = some (.int .i64 a0) := (Whole.cell BK0.out 0).trans rfl; clear hb hbox hg)
    | ((with_reducible refine gate_dst (N := 5) rfl ?_); (try (refine gate_guard (by rfl) ?_; dsimp only)); refine box_event ?hg (N := 5) ?hd (cs := #[.int .i64 a1]) (t := 3) ?hr ?_; (case hd => rfl); (case hg => rfl); (case hr => first | (go_simp; done) | (go_simp; rfl)); intro gb1 hg wb1 hbox hb; have BK1 := Aside0.mk (show Whole wb1 gb1 3 #[.int .i64 a1] from hbox); have BB1 := Aside0.mk (below_step BB0.out hb); have BS1 := Aside0.mk hb; clear cx0; have cx0 : wb1.cell? ⟨gb0, 0, none⟩ = some (.int .i64 a0) := pw_cell_below hb ((Whole.cell BK0.out 0).trans rfl); have cx1 : wb1.cell? ⟨gb1, 0, none⟩ = some (.int .i64 a1) := (Whole.cell BK1.out 0).trans rfl; clear hb hbox hg)
    | (go_at_call 22; (with_reducible refine (impl_PilesOk.calls a0 a1 true _ HOK.out).mono ?_); rintro e w5 ⟨rfl, hd⟩; have B5 := Aside0.mk (below_step BB1.out hd.below); have HD5 := Aside0.mk hd.below; have dx0 : w5.cell? ⟨gb0, 0, none⟩ = some (.int .i64 a0) := pw_cell_below hd.below cx0; have dx1 : w5.cell? ⟨gb1, 0, none⟩ = some (.int .i64 a1) := pw_cell_below hd.below cx1; clear hd cx0 cx1))
  go_ret2
  exact ⟨_, rfl, Kd.R_nil _ _ _ _ _, B5.out⟩
set_option maxHeartbeats 16000000 in
set_option maxRecDepth 100000 in
theorem impl_PlacesFor.calls_3 (a0 a1 a2 a3 : Int) (w : World) (hok : impl_PilesOk.f a0 a1 = some true) (h0 : ¬ a2 < 0) (h1 : ¬ a0 ≤ a2) (h2 : a3 < 0) :
    Calls Try.prog 16 #[.int .i64 a0, .int .i64 a1, .int .i64 a2, .int .i64 a3] w fun e w' => ∃ v0_ : Value, e = .returned (.tuple #[v0_, .bool false]) ∧ Kd.R (Kd.int .i64) 3 w' w.heap.size (fun _ => True) v0_ [] ∧ Below w.heap.size w w' := by
  have HOK := Aside0.mk hok
  have g0 : decide (a2 < 0) = false := decide_eq_false h0
  have g1 : decide (a0 ≤ a2) = false := decide_eq_false h1
  have g1g : decide (a2 ≥ a0) = false := decide_eq_false h1
  have g2 : decide (a3 < 0) = true := decide_eq_true h2
  clear hok h0 h1 h2
  go_enter Try.func16, Try.ntmps16
  go_wp2_with (first
    | ((with_reducible refine gate_dst (N := 4) rfl ?_); (try (refine gate_guard (by rfl) ?_; dsimp only)); refine box_event ?hg (N := 4) ?hd (cs := #[.int .i64 a0]) (t := 3) ?hr ?_; (case hd => rfl); (case hg => rfl); (case hr => first | (go_simp; done) | (go_simp; rfl)); intro gb0 hg wb0 hbox hb; have BK0 := Aside0.mk (show Whole wb0 gb0 3 #[.int .i64 a0] from hbox); have BB0 := Aside0.mk hb; have cx0 : wb0.cell? ⟨gb0, 0, none⟩ = some (.int .i64 a0) := (Whole.cell BK0.out 0).trans rfl; clear hb hbox hg)
    | ((with_reducible refine gate_dst (N := 5) rfl ?_); (try (refine gate_guard (by rfl) ?_; dsimp only)); refine box_event ?hg (N := 5) ?hd (cs := #[.int .i64 a1]) (t := 3) ?hr ?_; (case hd => rfl); (case hg => rfl); (case hr => first | (go_simp; done) | (go_simp; rfl)); intro gb1 hg wb1 hbox hb; have BK1 := Aside0.mk (show Whole wb1 gb1 3 #[.int .i64 a1] from hbox); have BB1 := Aside0.mk (below_step BB0.out hb); have BS1 := Aside0.mk hb; clear cx0; have cx0 : wb1.cell? ⟨gb0, 0, none⟩ = some (.int .i64 a0) := pw_cell_below hb ((Whole.cell BK0.out 0).trans rfl); have cx1 : wb1.cell? ⟨gb1, 0, none⟩ = some (.int .i64 a1) := (Whole.cell BK1.out 0).trans rfl; clear hb hbox hg)
    | (go_at_call 22; (with_reducible refine (impl_PilesOk.calls a0 a1 true _ HOK.out).mono ?_); rintro e w5 ⟨rfl, hd⟩; have B5 := Aside0.mk (below_step BB1.out hd.below); have HD5 := Aside0.mk hd.below; have dx0 : w5.cell? ⟨gb0, 0, none⟩ = some (.int .i64 a0) := pw_cell_below hd.below cx0; have dx1 : w5.cell? ⟨gb1, 0, none⟩ = some (.int .i64 a1) := pw_cell_below hd.below cx1; clear hd cx0 cx1))
  go_ret2
  exact ⟨_, rfl, Kd.R_nil _ _ _ _ _, B5.out⟩
set_option maxHeartbeats 16000000 in
set_option maxRecDepth 100000 in
theorem impl_PlacesFor.calls_4 (a0 a1 a2 a3 : Int) (w : World) (hok : impl_PilesOk.f a0 a1 = some true) (h0 : ¬ a2 < 0) (h1 : ¬ a0 ≤ a2) (h2 : ¬ a3 < 0) (h3 : a0 ≤ a3) :
    Calls Try.prog 16 #[.int .i64 a0, .int .i64 a1, .int .i64 a2, .int .i64 a3] w fun e w' => ∃ v0_ : Value, e = .returned (.tuple #[v0_, .bool false]) ∧ Kd.R (Kd.int .i64) 3 w' w.heap.size (fun _ => True) v0_ [] ∧ Below w.heap.size w w' := by
  have HOK := Aside0.mk hok
  have g0 : decide (a2 < 0) = false := decide_eq_false h0
  have g1 : decide (a0 ≤ a2) = false := decide_eq_false h1
  have g1g : decide (a2 ≥ a0) = false := decide_eq_false h1
  have g2 : decide (a3 < 0) = false := decide_eq_false h2
  have g3 : decide (a0 ≤ a3) = true := decide_eq_true h3
  have g3g : decide (a3 ≥ a0) = true := decide_eq_true h3
  clear hok h0 h1 h2 h3
  go_enter Try.func16, Try.ntmps16
  go_wp2_with (first
    | ((with_reducible refine gate_dst (N := 4) rfl ?_); (try (refine gate_guard (by rfl) ?_; dsimp only)); refine box_event ?hg (N := 4) ?hd (cs := #[.int .i64 a0]) (t := 3) ?hr ?_; (case hd => rfl); (case hg => rfl); (case hr => first | (go_simp; done) | (go_simp; rfl)); intro gb0 hg wb0 hbox hb; have BK0 := Aside0.mk (show Whole wb0 gb0 3 #[.int .i64 a0] from hbox); have BB0 := Aside0.mk hb; have cx0 : wb0.cell? ⟨gb0, 0, none⟩ = some (.int .i64 a0) := (Whole.cell BK0.out 0).trans rfl; clear hb hbox hg)
    | ((with_reducible refine gate_dst (N := 5) rfl ?_); (try (refine gate_guard (by rfl) ?_; dsimp only)); refine box_event ?hg (N := 5) ?hd (cs := #[.int .i64 a1]) (t := 3) ?hr ?_; (case hd => rfl); (case hg => rfl); (case hr => first | (go_simp; done) | (go_simp; rfl)); intro gb1 hg wb1 hbox hb; have BK1 := Aside0.mk (show Whole wb1 gb1 3 #[.int .i64 a1] from hbox); have BB1 := Aside0.mk (below_step BB0.out hb); have BS1 := Aside0.mk hb; clear cx0; have cx0 : wb1.cell? ⟨gb0, 0, none⟩ = some (.int .i64 a0) := pw_cell_below hb ((Whole.cell BK0.out 0).trans rfl); have cx1 : wb1.cell? ⟨gb1, 0, none⟩ = some (.int .i64 a1) := (Whole.cell BK1.out 0).trans rfl; clear hb hbox hg)
    | (go_at_call 22; (with_reducible refine (impl_PilesOk.calls a0 a1 true _ HOK.out).mono ?_); rintro e w5 ⟨rfl, hd⟩; have B5 := Aside0.mk (below_step BB1.out hd.below); have HD5 := Aside0.mk hd.below; have dx0 : w5.cell? ⟨gb0, 0, none⟩ = some (.int .i64 a0) := pw_cell_below hd.below cx0; have dx1 : w5.cell? ⟨gb1, 0, none⟩ = some (.int .i64 a1) := pw_cell_below hd.below cx1; clear hd cx0 cx1))
  go_ret2
  exact ⟨_, rfl, Kd.R_nil _ _ _ _ _, B5.out⟩
set_option maxHeartbeats 16000000 in
set_option maxRecDepth 100000 in
theorem impl_PlacesFor.calls_in (k : Nat) (a0 a1 a2 a3 : Int) (r1 : List Int) (r2 : Bool) (w : World) (hok : impl_PilesOk.f a0 a1 = some true) (h0 : ¬ a2 < 0) (h1 : ¬ a0 ≤ a2) (h2 : ¬ a3 < 0) (h3 : ¬ a0 ≤ a3) (h : impl_shortest.f (fun x y => impl_IndexAfter.f k a0 a1 x y) k a2 a3 a1 = some (r1, r2)) :
    Calls Try.prog 16 #[.int .i64 a0, .int .i64 a1, .int .i64 a2, .int .i64 a3] w fun e w' => ∃ v0_ : Value, e = .returned (.tuple #[v0_, .bool r2]) ∧ Kd.R (Kd.int .i64) 3 w' w.heap.size (fun _ => True) v0_ r1 ∧ Below w.heap.size w w' := by
  have HOK := Aside0.mk hok
  have HS := Aside0.mk h
  have g0 : decide (a2 < 0) = false := decide_eq_false h0
  have g1 : decide (a0 ≤ a2) = false := decide_eq_false h1
  have g1g : decide (a2 ≥ a0) = false := decide_eq_false h1
  have g2 : decide (a3 < 0) = false := decide_eq_false h2
  have g3 : decide (a0 ≤ a3) = false := decide_eq_false h3
  have g3g : decide (a3 ≥ a0) = false := decide_eq_false h3
  clear hok h h0 h1 h2 h3
  have eg : ∀ args w, (callFunc 46 args).run Try.prog w = .ok (.enter 46 args) w := enters_of (P := Try.prog) Try.func46 (by kernel_rfl) rfl
  go_enter Try.func16, Try.ntmps16
  go_wp2_with (first
    | ((with_reducible refine gate_dst (N := 4) rfl ?_); (try (refine gate_guard (by rfl) ?_; dsimp only)); refine box_event ?hg (N := 4) ?hd (cs := #[.int .i64 a0]) (t := 3) ?hr ?_; (case hd => rfl); (case hg => rfl); (case hr => first | (go_simp; done) | (go_simp; rfl)); intro gb0 hg wb0 hbox hb; have BK0 := Aside0.mk (show Whole wb0 gb0 3 #[.int .i64 a0] from hbox); have BB0 := Aside0.mk hb; have cx0 : wb0.cell? ⟨gb0, 0, none⟩ = some (.int .i64 a0) := (Whole.cell BK0.out 0).trans rfl; clear hb hbox hg)
    | ((with_reducible refine gate_dst (N := 5) rfl ?_); (try (refine gate_guard (by rfl) ?_; dsimp only)); refine box_event ?hg (N := 5) ?hd (cs := #[.int .i64 a1]) (t := 3) ?hr ?_; (case hd => rfl); (case hg => rfl); (case hr => first | (go_simp; done) | (go_simp; rfl)); intro gb1 hg wb1 hbox hb; have BK1 := Aside0.mk (show Whole wb1 gb1 3 #[.int .i64 a1] from hbox); have BB1 := Aside0.mk (below_step BB0.out hb); have BS1 := Aside0.mk hb; clear cx0; have cx0 : wb1.cell? ⟨gb0, 0, none⟩ = some (.int .i64 a0) := pw_cell_below hb ((Whole.cell BK0.out 0).trans rfl); have cx1 : wb1.cell? ⟨gb1, 0, none⟩ = some (.int .i64 a1) := (Whole.cell BK1.out 0).trans rfl; clear hb hbox hg)
    | (go_at_call 22; (with_reducible refine (impl_PilesOk.calls a0 a1 true _ HOK.out).mono ?_); rintro e w5 ⟨rfl, hd⟩; have B5 := Aside0.mk (below_step BB1.out hd.below); have HD5 := Aside0.mk hd.below; have dx0 : w5.cell? ⟨gb0, 0, none⟩ = some (.int .i64 a0) := pw_cell_below hd.below cx0; have dx1 : w5.cell? ⟨gb1, 0, none⟩ = some (.int .i64 a1) := pw_cell_below hd.below cx1; clear hd cx0 cx1)
    | (go_at_call 45; (refine (impl_shortest.calls (fun x y => impl_IndexAfter.f k a0 a1 x y) 46 #[.pointer (some ⟨gb0, 0, none⟩), .pointer (some ⟨gb1, 0, none⟩)] eg k a2 a3 a1 r1 r2 w5 (fun W x y z hb hz => impl_PlacesFor.at_ k a0 a1 x y z gb0 gb1 W (pw_cell_below hb dx0) (pw_cell_below hb dx1) hz) HS.out).mono ?_); rintro e w6 ⟨v6, rfl, ho, hb⟩; have HO := Aside0.mk (Kd.R_lower ho (below_size B5.out)); have B6 := Aside0.mk (below_step B5.out hb); clear ho hb))
  go_ret2
  exact ⟨_, rfl, HO.out, B6.out⟩
theorem impl_PlacesFor.calls (k : Nat) (a0 a1 a2 a3 : Int) (r1 : List Int) (r2 : Bool) (w : World) (h : impl_PlacesFor.f k a0 a1 a2 a3 = some (r1, r2)) :
    Calls Try.prog 16 #[.int .i64 a0, .int .i64 a1, .int .i64 a2, .int .i64 a3] w fun e w' => ∃ v0_ : Value, e = .returned (.tuple #[v0_, .bool r2]) ∧ Kd.R (Kd.int .i64) 3 w' w.heap.size (fun _ => True) v0_ r1 ∧ Below w.heap.size w w' := by
  unfold impl_PlacesFor.f at h
  obtain ⟨b, hok, h⟩ := Option.bind_eq_some_iff.mp h
  cases b with
  | false =>
    rw [if_neg (by decide)] at h
    simp only [Option.some.injEq, Prod.mk.injEq] at h
    obtain ⟨rfl, rfl⟩ := h
    exact impl_PlacesFor.calls_0 a0 a1 a2 a3 w hok
  | true =>
    rw [if_pos rfl] at h
    by_cases h0 : a2 < 0
    · rw [if_pos h0] at h
      simp only [Option.some.injEq, Prod.mk.injEq] at h
      obtain ⟨rfl, rfl⟩ := h
      exact impl_PlacesFor.calls_1 a0 a1 a2 a3 w hok h0
    rw [if_neg h0] at h
    by_cases h1 : a0 ≤ a2
    · rw [if_pos h1] at h
      simp only [Option.some.injEq, Prod.mk.injEq] at h
      obtain ⟨rfl, rfl⟩ := h
      exact impl_PlacesFor.calls_2 a0 a1 a2 a3 w hok h0 h1
    rw [if_neg h1] at h
    by_cases h2 : a3 < 0
    · rw [if_pos h2] at h
      simp only [Option.some.injEq, Prod.mk.injEq] at h
      obtain ⟨rfl, rfl⟩ := h
      exact impl_PlacesFor.calls_3 a0 a1 a2 a3 w hok h0 h1 h2
    rw [if_neg h2] at h
    by_cases h3 : a0 ≤ a3
    · rw [if_pos h3] at h
      simp only [Option.some.injEq, Prod.mk.injEq] at h
      obtain ⟨rfl, rfl⟩ := h
      exact impl_PlacesFor.calls_4 a0 a1 a2 a3 w hok h0 h1 h2 h3
    rw [if_neg h3] at h
    exact impl_PlacesFor.calls_in k a0 a1 a2 a3 r1 r2 w hok h0 h1 h2 h3 h
end Go.Proofs.Ytbeehklibkeecaa.F
end
