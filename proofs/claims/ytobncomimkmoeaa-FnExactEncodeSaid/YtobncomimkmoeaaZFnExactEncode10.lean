import Derived.Test.YtobncomimkmoeaaZFnExactEncode4
import Derived.Test.YtobncomimkmoeaaZFnExactEncode7
import Derived.Test.YtobncomimkmoeaaZFnExactEncode8
import Derived.Test.YtobncomimkmoeaaZFnExactEncode9
section
/- Laid by a program of this claim's own. What the Go function does, as a Lean function, and the proof that the Go code does just that; Lean checks it. -/
namespace Go.Proofs.Ytobncomimkmoeaa.F
open Go.RowKit Go.Proofs.YtobncomimkmoeaaW.PrintWords Go.Proofs.YtobncomimkmoeaaW.PrintLast Go.Proofs.YtobncomimkmoeaaW.PrintMore
attribute [local go_sem] max2_int min2_int max_two min_two max_three min_three max_four min_four   -- for this text's walks alone
set_option linter.unusedVariables false
set_option linter.unusedSimpArgs false
/-! ### impl_Encode: function 11 -/
set_option maxHeartbeats 8000000 in
set_option maxRecDepth 100000 in
theorem impl_Encode.at_ (x l : List Int) (A : Option Addr) (c : Nat) (A1 : Option Addr) (c1 : Nat) (B : Nat) (W : World) (hr : Kd.C (Kd.int .i64) W A x.length x) (hc : x.length ≤ c) (hr1 : Kd.C (Kd.int .i64) W A1 l.length l) (hc1 : l.length ≤ c1) (hcell : W.cell? ⟨B, 0, none⟩ = some (.slice A1 l.length c1)) :
    Calls Try.prog 32 (#[.slice A x.length c] ++ #[.pointer (some ⟨B, 0, none⟩)]) W fun e w' => e = .returned (.bool (decide (x = l))) ∧ Below W.heap.size W w' := by
  have HC := Aside0.mk (show ∀ W', Drawn0 W W' → Calls Try.prog 33 #[.slice A x.length c, .slice A1 l.length c1] W' fun e w' => e = .returned (.bool (decide (x = l))) ∧ Drawn0 W' w' from fun W' hW => ef_call W' x l A A1 c c1 (Kd.C_below hr hW.below) hc (Kd.C_below hr1 hW.below) hc1)
  clear hr hc hr1 hc1
  generalize decide (x = l) = b at HC ⊢
  show Calls Try.prog 32 #[.slice A x.length c, .pointer (some ⟨B, 0, none⟩)] W _
  go_enter Try.func32, Try.ntmps32
  go_wp2_with (go_at_call 33; refine (HC.out _ (by repeat (first | exact Drawn0.refl _ | apply Drawn0.step))).mono ?_; rintro e w' ⟨rfl, hd⟩; have HD := Aside0.mk hd; clear hd)
  go_ret
  exact ⟨rfl, HD.out.below⟩
def impl_Encode.f (k : Nat) (a0_0 : Int) (l0_1 : List (List Int)) (l0_2 : List (List Int)) (l1 : List Int) : Option (List Int × Bool) := (impl_CodeOk.f k a0_0 l0_1 l0_2).bind fun ok => if ok = true then (if idxFromL (fun s => decide (s = l1)) l0_1 0 < 0 then some ([], false) else if idxFromL (fun s => decide (s = l1)) l0_1 0 < (l0_2.length : Int) then (slices_Clone_Lint_int.f (l0_2.getD (idxFromL (fun s => decide (s = l1)) l0_1 0).toNat [])).bind fun r => some (r, true) else none) else some ([], false)
set_option maxHeartbeats 16000000 in
set_option maxRecDepth 100000 in
theorem impl_Encode.calls_bad (k : Nat) (a0_0 : Int) (A0_1 : Option Addr) (c0_1 : Nat) (l0_1 : List (List Int)) (A0_2 : Option Addr) (c0_2 : Nat) (l0_2 : List (List Int)) (A1 : Option Addr) (c1 : Nat) (l1 : List Int) (ch : Int) (w : World) (hr0_1 : Kd.C (Kd.slice 3 (Kd.int .i64)) w A0_1 l0_1.length l0_1) (hc0_1 : l0_1.length ≤ c0_1) (hr0_2 : Kd.C (Kd.slice 3 (Kd.int .i64)) w A0_2 l0_2.length l0_2) (hc0_2 : l0_2.length ≤ c0_2) (hr1 : Kd.C (Kd.int .i64) w A1 l1.length l1) (hc1 : l1.length ≤ c1) (hok : impl_CodeOk.f k a0_0 l0_1 l0_2 = some false) (hch : idxFromL (fun s => decide (s = l1)) l0_1 0 = ch) :
    Calls Try.prog 11 #[.agg #[.int .i64 a0_0, .slice A0_1 l0_1.length c0_1, .slice A0_2 l0_2.length c0_2], .slice A1 l1.length c1] w fun e w' => ∃ v0_ : Value, e = .returned (.tuple #[v0_, .bool false]) ∧ Kd.R (Kd.int .i64) 3 w' w.heap.size (fun _ => True) v0_ [] ∧ Below w.heap.size w w' := by
  have HR1 := Aside0.mk hr0_1
  have HC1 := Aside0.mk hc0_1
  have HR2 := Aside0.mk hr0_2
  have HC2 := Aside0.mk hc0_2
  have HR3 := Aside0.mk hr1
  have HC3 := Aside0.mk hc1
  have HOK := Aside0.mk hok
  have HCH := Aside0.mk hch
  clear hr0_1 hc0_1 hr0_2 hc0_2 hr1 hc1 hok hch
  have eg : ∀ args w, (callFunc 32 args).run Try.prog w = .ok (.enter 32 args) w := enters_of (P := Try.prog) Try.func32 (by kernel_rfl) rfl
  go_enter Try.func11, Try.ntmps11
  go_wp2_with (first
    | ((with_reducible refine gate_dst (N := 2) rfl ?_); (try (refine gate_guard (by rfl) ?_; dsimp only)); refine box_event ?hg (N := 2) ?hd (cs := #[.int .i64 a0_0, .slice A0_1 l0_1.length c0_1, .slice A0_2 l0_2.length c0_2]) (t := 29) ?hr ?_; (case hd => rfl); (case hg => rfl); (case hr => first | (go_simp; done) | (go_simp; rfl)); intro gb1 hg w3 hbox hb; have BK1 := Aside0.mk (show Whole w3 gb1 29 #[.int .i64 a0_0, .slice A0_1 l0_1.length c0_1, .slice A0_2 l0_2.length c0_2] from hbox); have B3 := Aside0.mk hb; have GB1 := Aside0.mk hg; clear hb hbox hg)
    | ((with_reducible refine gate_dst (N := 3) rfl ?_); (try (refine gate_guard (by rfl) ?_; dsimp only)); refine box_event ?hg (N := 3) ?hd (cs := #[.slice A1 l1.length c1]) (t := 25) ?hr ?_; (case hd => rfl); (case hg => rfl); (case hr => first | (go_simp; done) | (go_simp; rfl)); intro gb2 hg w4 hbox hb; have BK2 := Aside0.mk (show Whole w4 gb2 25 #[.slice A1 l1.length c1] from hbox); have B4 := Aside0.mk (below_step B3.out hb); have x0 : w4.cell? ⟨gb1, 0, none⟩ = some (.int .i64 a0_0) := pw_cell_below hb ((Whole.cell BK1.out 0).trans rfl); have x1 : w4.cell? ⟨gb1, 1, none⟩ = some (.slice A0_1 l0_1.length c0_1) := pw_cell_below hb ((Whole.cell BK1.out 1).trans rfl); have x2 : w4.cell? ⟨gb1, 2, none⟩ = some (.slice A0_2 l0_2.length c0_2) := pw_cell_below hb ((Whole.cell BK1.out 2).trans rfl); clear hb hbox hg B3; have x3 := Aside0.mk ((Whole.cell BK2.out 0).trans rfl : w4.cell? ⟨gb2, 0, none⟩ = some (.slice A1 l1.length c1)); have HX := Aside0.mk (And.intro x0 (And.intro x1 x2)))
    | (go_at_call 31; (refine (slices_IndexFunc_LLint_Lint.predB (fun s => decide (s = l1)) _ _ eg A0_1 c0_1 l0_1 _ (Kd.C_below HR1.out B4.out) HC1.out (fun W x A c hb hx hC hl => impl_Encode.at_ x l1 A c A1 c1 gb2 W hC hl (Kd.C_below HR3.out (below_step B4.out hb)) HC3.out (pw_cell_below hb x3.out))).mono ?_); rintro e w5 ⟨rfl, hb⟩; clear x0 x1 x2; have x0 : w5.cell? ⟨gb1, 0, none⟩ = some (.int .i64 a0_0) := pw_cell_below hb HX.out.1; have x1 : w5.cell? ⟨gb1, 1, none⟩ = some (.slice A0_1 l0_1.length c0_1) := pw_cell_below hb HX.out.2.1; have x2 : w5.cell? ⟨gb1, 2, none⟩ = some (.slice A0_2 l0_2.length c0_2) := pw_cell_below hb HX.out.2.2; have x3b := Aside0.mk (pw_cell_below hb x3.out); have B5 := Aside0.mk (below_step B4.out hb); clear hb x3 B4; have HX2 := Aside0.mk (And.intro x0 (And.intro x1 x2)); clear HX; rw [HCH.out])
    | (go_at_call 34; (with_reducible refine (impl_CodeOk.calls k a0_0 A0_1 c0_1 l0_1 A0_2 c0_2 l0_2 false _ (Kd.C_below HR1.out B5.out) HC1.out (Kd.C_below HR2.out B5.out) HC2.out HOK.out).mono ?_); rintro e w6 ⟨rfl, hb⟩; clear x0 x1 x2; have x0 : w6.cell? ⟨gb1, 0, none⟩ = some (.int .i64 a0_0) := pw_cell_below hb HX2.out.1; have x1 : w6.cell? ⟨gb1, 1, none⟩ = some (.slice A0_1 l0_1.length c0_1) := pw_cell_below hb HX2.out.2.1; have x2 : w6.cell? ⟨gb1, 2, none⟩ = some (.slice A0_2 l0_2.length c0_2) := pw_cell_below hb HX2.out.2.2; have x3c := pw_cell_below hb x3b.out; have B6 := Aside0.mk (below_step B5.out hb); clear hb x3b B5 HX2))
  go_ret2
  exact ⟨_, rfl, Kd.R_nil _ _ _ _ _, B6.out⟩
set_option maxHeartbeats 16000000 in
set_option maxRecDepth 100000 in
theorem impl_Encode.calls_no (k : Nat) (a0_0 : Int) (A0_1 : Option Addr) (c0_1 : Nat) (l0_1 : List (List Int)) (A0_2 : Option Addr) (c0_2 : Nat) (l0_2 : List (List Int)) (A1 : Option Addr) (c1 : Nat) (l1 : List Int) (ch : Int) (w : World) (hr0_1 : Kd.C (Kd.slice 3 (Kd.int .i64)) w A0_1 l0_1.length l0_1) (hc0_1 : l0_1.length ≤ c0_1) (hr0_2 : Kd.C (Kd.slice 3 (Kd.int .i64)) w A0_2 l0_2.length l0_2) (hc0_2 : l0_2.length ≤ c0_2) (hr1 : Kd.C (Kd.int .i64) w A1 l1.length l1) (hc1 : l1.length ≤ c1) (hok : impl_CodeOk.f k a0_0 l0_1 l0_2 = some true) (hch : idxFromL (fun s => decide (s = l1)) l0_1 0 = ch) (hlt : ch < 0) :
    Calls Try.prog 11 #[.agg #[.int .i64 a0_0, .slice A0_1 l0_1.length c0_1, .slice A0_2 l0_2.length c0_2], .slice A1 l1.length c1] w fun e w' => ∃ v0_ : Value, e = .returned (.tuple #[v0_, .bool false]) ∧ Kd.R (Kd.int .i64) 3 w' w.heap.size (fun _ => True) v0_ [] ∧ Below w.heap.size w w' := by
  have HR1 := Aside0.mk hr0_1
  have HC1 := Aside0.mk hc0_1
  have HR2 := Aside0.mk hr0_2
  have HC2 := Aside0.mk hc0_2
  have HR3 := Aside0.mk hr1
  have HC3 := Aside0.mk hc1
  have HOK := Aside0.mk hok
  have HCH := Aside0.mk hch
  clear hr0_1 hc0_1 hr0_2 hc0_2 hr1 hc1 hok hch
  have eg : ∀ args w, (callFunc 32 args).run Try.prog w = .ok (.enter 32 args) w := enters_of (P := Try.prog) Try.func32 (by kernel_rfl) rfl
  have hlt1 : decide (ch < 0) = true := decide_eq_true hlt
  clear hlt
  go_enter Try.func11, Try.ntmps11
  go_wp2_with (first
    | ((with_reducible refine gate_dst (N := 2) rfl ?_); (try (refine gate_guard (by rfl) ?_; dsimp only)); refine box_event ?hg (N := 2) ?hd (cs := #[.int .i64 a0_0, .slice A0_1 l0_1.length c0_1, .slice A0_2 l0_2.length c0_2]) (t := 29) ?hr ?_; (case hd => rfl); (case hg => rfl); (case hr => first | (go_simp; done) | (go_simp; rfl)); intro gb1 hg w3 hbox hb; have BK1 := Aside0.mk (show Whole w3 gb1 29 #[.int .i64 a0_0, .slice A0_1 l0_1.length c0_1, .slice A0_2 l0_2.length c0_2] from hbox); have B3 := Aside0.mk hb; have GB1 := Aside0.mk hg; clear hb hbox hg)
    | ((with_reducible refine gate_dst (N := 3) rfl ?_); (try (refine gate_guard (by rfl) ?_; dsimp only)); refine box_event ?hg (N := 3) ?hd (cs := #[.slice A1 l1.length c1]) (t := 25) ?hr ?_; (case hd => rfl); (case hg => rfl); (case hr => first | (go_simp; done) | (go_simp; rfl)); intro gb2 hg w4 hbox hb; have BK2 := Aside0.mk (show Whole w4 gb2 25 #[.slice A1 l1.length c1] from hbox); have B4 := Aside0.mk (below_step B3.out hb); have x0 : w4.cell? ⟨gb1, 0, none⟩ = some (.int .i64 a0_0) := pw_cell_below hb ((Whole.cell BK1.out 0).trans rfl); have x1 : w4.cell? ⟨gb1, 1, none⟩ = some (.slice A0_1 l0_1.length c0_1) := pw_cell_below hb ((Whole.cell BK1.out 1).trans rfl); have x2 : w4.cell? ⟨gb1, 2, none⟩ = some (.slice A0_2 l0_2.length c0_2) := pw_cell_below hb ((Whole.cell BK1.out 2).trans rfl); clear hb hbox hg B3; have x3 := Aside0.mk ((Whole.cell BK2.out 0).trans rfl : w4.cell? ⟨gb2, 0, none⟩ = some (.slice A1 l1.length c1)); have HX := Aside0.mk (And.intro x0 (And.intro x1 x2)))
    | (go_at_call 31; (refine (slices_IndexFunc_LLint_Lint.predB (fun s => decide (s = l1)) _ _ eg A0_1 c0_1 l0_1 _ (Kd.C_below HR1.out B4.out) HC1.out (fun W x A c hb hx hC hl => impl_Encode.at_ x l1 A c A1 c1 gb2 W hC hl (Kd.C_below HR3.out (below_step B4.out hb)) HC3.out (pw_cell_below hb x3.out))).mono ?_); rintro e w5 ⟨rfl, hb⟩; clear x0 x1 x2; have x0 : w5.cell? ⟨gb1, 0, none⟩ = some (.int .i64 a0_0) := pw_cell_below hb HX.out.1; have x1 : w5.cell? ⟨gb1, 1, none⟩ = some (.slice A0_1 l0_1.length c0_1) := pw_cell_below hb HX.out.2.1; have x2 : w5.cell? ⟨gb1, 2, none⟩ = some (.slice A0_2 l0_2.length c0_2) := pw_cell_below hb HX.out.2.2; have x3b := Aside0.mk (pw_cell_below hb x3.out); have B5 := Aside0.mk (below_step B4.out hb); clear hb x3 B4; have HX2 := Aside0.mk (And.intro x0 (And.intro x1 x2)); clear HX; rw [HCH.out])
    | (go_at_call 34; (with_reducible refine (impl_CodeOk.calls k a0_0 A0_1 c0_1 l0_1 A0_2 c0_2 l0_2 true _ (Kd.C_below HR1.out B5.out) HC1.out (Kd.C_below HR2.out B5.out) HC2.out HOK.out).mono ?_); rintro e w6 ⟨rfl, hb⟩; clear x0 x1 x2; have x0 : w6.cell? ⟨gb1, 0, none⟩ = some (.int .i64 a0_0) := pw_cell_below hb HX2.out.1; have x1 : w6.cell? ⟨gb1, 1, none⟩ = some (.slice A0_1 l0_1.length c0_1) := pw_cell_below hb HX2.out.2.1; have x2 : w6.cell? ⟨gb1, 2, none⟩ = some (.slice A0_2 l0_2.length c0_2) := pw_cell_below hb HX2.out.2.2; have x3c := pw_cell_below hb x3b.out; have B6 := Aside0.mk (below_step B5.out hb); clear hb x3b B5 HX2))
  go_ret2
  exact ⟨_, rfl, Kd.R_nil _ _ _ _ _, B6.out⟩
set_option maxHeartbeats 16000000 in
set_option maxRecDepth 100000 in
theorem impl_Encode.calls_in (k : Nat) (a0_0 : Int) (A0_1 : Option Addr) (c0_1 : Nat) (l0_1 : List (List Int)) (A0_2 : Option Addr) (c0_2 : Nat) (l0_2 : List (List Int)) (A1 : Option Addr) (c1 : Nat) (l1 : List Int) (ch : Int) (r1 : List Int) (w : World) (hr0_1 : Kd.C (Kd.slice 3 (Kd.int .i64)) w A0_1 l0_1.length l0_1) (hc0_1 : l0_1.length ≤ c0_1) (hr0_2 : Kd.C (Kd.slice 3 (Kd.int .i64)) w A0_2 l0_2.length l0_2) (hc0_2 : l0_2.length ≤ c0_2) (hr1 : Kd.C (Kd.int .i64) w A1 l1.length l1) (hc1 : l1.length ≤ c1) (hok : impl_CodeOk.f k a0_0 l0_1 l0_2 = some true) (hch : idxFromL (fun s => decide (s = l1)) l0_1 0 = ch) (hlt : ¬ ch < 0) (hlt2 : ch < (l0_2.length : Int)) (h : slices_Clone_Lint_int.f (l0_2.getD ch.toNat []) = some r1) :
    Calls Try.prog 11 #[.agg #[.int .i64 a0_0, .slice A0_1 l0_1.length c0_1, .slice A0_2 l0_2.length c0_2], .slice A1 l1.length c1] w fun e w' => ∃ v0_ : Value, e = .returned (.tuple #[v0_, .bool true]) ∧ Kd.R (Kd.int .i64) 3 w' w.heap.size (fun _ => True) v0_ r1 ∧ Below w.heap.size w w' := by
  have HR1 := Aside0.mk hr0_1
  have HC1 := Aside0.mk hc0_1
  have HR2 := Aside0.mk hr0_2
  have HC2 := Aside0.mk hc0_2
  have HR3 := Aside0.mk hr1
  have HC3 := Aside0.mk hc1
  have HOK := Aside0.mk hok
  have HCH := Aside0.mk hch
  clear hr0_1 hc0_1 hr0_2 hc0_2 hr1 hc1 hok hch
  have eg : ∀ args w, (callFunc 32 args).run Try.prog w = .ok (.enter 32 args) w := enters_of (P := Try.prog) Try.func32 (by kernel_rfl) rfl
  have hlt1 : decide (ch < 0) = false := decide_eq_false hlt
  have hge : 0 ≤ ch := by omega
  obtain ⟨ad, A4, c4, ead, hx0, hle, hC4⟩ := at_slice HR2.out ch hge hlt2
  cases ead
  generalize hhd : l0_2.getD ch.toNat [] = hd at hx0 hle hC4 h
  have hcl : w.cell? (ad.add ch.toNat) = some (.slice A4 hd.length c4) := hx0
  have HCL := Aside0.mk hcl
  have HRH := Aside0.mk hC4
  have HLE := Aside0.mk hle
  have HCLN := Aside0.mk h
  have hge1 : decide (0 ≤ ch) = true := decide_eq_true hge
  have hlt3 : decide (ch < (l0_2.length : Int)) = true := decide_eq_true hlt2
  replace hge := eq_true hge
  replace hlt2 := eq_true hlt2
  clear hlt hhd hx0 hcl hle hC4 h
  go_enter Try.func11, Try.ntmps11
  go_wp2_with (first
    | ((with_reducible refine gate_dst (N := 2) rfl ?_); (try (refine gate_guard (by rfl) ?_; dsimp only)); refine box_event ?hg (N := 2) ?hd (cs := #[.int .i64 a0_0, .slice A0_1 l0_1.length c0_1, .slice (some ad) l0_2.length c0_2]) (t := 29) ?hr ?_; (case hd => rfl); (case hg => rfl); (case hr => first | (go_simp; done) | (go_simp; rfl)); intro gb1 hg w3 hbox hb; have BK1 := Aside0.mk (show Whole w3 gb1 29 #[.int .i64 a0_0, .slice A0_1 l0_1.length c0_1, .slice (some ad) l0_2.length c0_2] from hbox); have B3 := Aside0.mk hb; have GB1 := Aside0.mk hg; clear hb hbox hg)
    | ((with_reducible refine gate_dst (N := 3) rfl ?_); (try (refine gate_guard (by rfl) ?_; dsimp only)); refine box_event ?hg (N := 3) ?hd (cs := #[.slice A1 l1.length c1]) (t := 25) ?hr ?_; (case hd => rfl); (case hg => rfl); (case hr => first | (go_simp; done) | (go_simp; rfl)); intro gb2 hg w4 hbox hb; have BK2 := Aside0.mk (show Whole w4 gb2 25 #[.slice A1 l1.length c1] from hbox); have B4 := Aside0.mk (below_step B3.out hb); have x0 : w4.cell? ⟨gb1, 0, none⟩ = some (.int .i64 a0_0) := pw_cell_below hb ((Whole.cell BK1.out 0).trans rfl); have x1 : w4.cell? ⟨gb1, 1, none⟩ = some (.slice A0_1 l0_1.length c0_1) := pw_cell_below hb ((Whole.cell BK1.out 1).trans rfl); have x2 : w4.cell? ⟨gb1, 2, none⟩ = some (.slice (some ad) l0_2.length c0_2) := pw_cell_below hb ((Whole.cell BK1.out 2).trans rfl); clear hb hbox hg B3; have x3 := Aside0.mk ((Whole.cell BK2.out 0).trans rfl : w4.cell? ⟨gb2, 0, none⟩ = some (.slice A1 l1.length c1)); have HX := Aside0.mk (And.intro x0 (And.intro x1 x2)))
    | (go_at_call 31; (refine (slices_IndexFunc_LLint_Lint.predB (fun s => decide (s = l1)) _ _ eg A0_1 c0_1 l0_1 _ (Kd.C_below HR1.out B4.out) HC1.out (fun W x A c hb hx hC hl => impl_Encode.at_ x l1 A c A1 c1 gb2 W hC hl (Kd.C_below HR3.out (below_step B4.out hb)) HC3.out (pw_cell_below hb x3.out))).mono ?_); rintro e w5 ⟨rfl, hb⟩; clear x0 x1 x2; have x0 : w5.cell? ⟨gb1, 0, none⟩ = some (.int .i64 a0_0) := pw_cell_below hb HX.out.1; have x1 : w5.cell? ⟨gb1, 1, none⟩ = some (.slice A0_1 l0_1.length c0_1) := pw_cell_below hb HX.out.2.1; have x2 : w5.cell? ⟨gb1, 2, none⟩ = some (.slice (some ad) l0_2.length c0_2) := pw_cell_below hb HX.out.2.2; have x3b := Aside0.mk (pw_cell_below hb x3.out); have B5 := Aside0.mk (below_step B4.out hb); clear hb x3 B4; have HX2 := Aside0.mk (And.intro x0 (And.intro x1 x2)); clear HX; rw [HCH.out])
    | (go_at_call 34; (with_reducible refine (impl_CodeOk.calls k a0_0 A0_1 c0_1 l0_1 (some ad) c0_2 l0_2 true _ (Kd.C_below HR1.out B5.out) HC1.out (Kd.C_below HR2.out B5.out) HC2.out HOK.out).mono ?_); rintro e w6 ⟨rfl, hb⟩; clear x0 x1 x2; have x0 : w6.cell? ⟨gb1, 0, none⟩ = some (.int .i64 a0_0) := pw_cell_below hb HX2.out.1; have x1 : w6.cell? ⟨gb1, 1, none⟩ = some (.slice A0_1 l0_1.length c0_1) := pw_cell_below hb HX2.out.2.1; have x2 : w6.cell? ⟨gb1, 2, none⟩ = some (.slice (some ad) l0_2.length c0_2) := pw_cell_below hb HX2.out.2.2; have x3c := pw_cell_below hb x3b.out; have B6 := Aside0.mk (below_step B5.out hb); have hcl := (B6.out.cell (World.block_lt_of_cell? w _ HCL.out)).trans HCL.out; clear hb x3b B5 HX2)
    | (go_at_call 35; (with_reducible refine (slices_Clone_Lint_int.calls A4 c4 hd r1 _ (Kd.C_below HRH.out B6.out) HLE.out HCLN.out).mono ?_); rintro e w7 ⟨v7, rfl, ho, hb⟩; have HO := Aside0.mk (Kd.R_lower ho B6.out.size); have B7 := Aside0.mk (below_step B6.out hb); clear ho hb B6))
  go_ret2
  exact ⟨_, rfl, HO.out, B7.out⟩
theorem impl_Encode.calls (k : Nat) (a0_0 : Int) (A0_1 : Option Addr) (c0_1 : Nat) (l0_1 : List (List Int)) (A0_2 : Option Addr) (c0_2 : Nat) (l0_2 : List (List Int)) (A1 : Option Addr) (c1 : Nat) (l1 : List Int) (r1 : List Int) (r2 : Bool) (w : World) (hr0_1 : Kd.C (Kd.slice 3 (Kd.int .i64)) w A0_1 l0_1.length l0_1) (hc0_1 : l0_1.length ≤ c0_1) (hr0_2 : Kd.C (Kd.slice 3 (Kd.int .i64)) w A0_2 l0_2.length l0_2) (hc0_2 : l0_2.length ≤ c0_2) (hr1 : Kd.C (Kd.int .i64) w A1 l1.length l1) (hc1 : l1.length ≤ c1) (h : impl_Encode.f k a0_0 l0_1 l0_2 l1 = some (r1, r2)) :
    Calls Try.prog 11 #[.agg #[.int .i64 a0_0, .slice A0_1 l0_1.length c0_1, .slice A0_2 l0_2.length c0_2], .slice A1 l1.length c1] w fun e w' => ∃ v0_ : Value, e = .returned (.tuple #[v0_, .bool r2]) ∧ Kd.R (Kd.int .i64) 3 w' w.heap.size (fun _ => True) v0_ r1 ∧ Below w.heap.size w w' := by
  unfold impl_Encode.f at h
  obtain ⟨ok, h1, h⟩ := Option.bind_eq_some_iff.mp h
  cases ok with
  | false =>
    rw [if_neg (by decide)] at h
    simp only [Option.some.injEq, Prod.mk.injEq] at h
    obtain ⟨rfl, rfl⟩ := h
    exact impl_Encode.calls_bad k a0_0 A0_1 c0_1 l0_1 A0_2 c0_2 l0_2 A1 c1 l1 _ w hr0_1 hc0_1 hr0_2 hc0_2 hr1 hc1 h1 rfl
  | true =>
    rw [if_pos rfl] at h
    by_cases hlt : idxFromL (fun s => decide (s = l1)) l0_1 0 < 0
    · rw [if_pos hlt] at h
      simp only [Option.some.injEq, Prod.mk.injEq] at h
      obtain ⟨rfl, rfl⟩ := h
      exact impl_Encode.calls_no k a0_0 A0_1 c0_1 l0_1 A0_2 c0_2 l0_2 A1 c1 l1 _ w hr0_1 hc0_1 hr0_2 hc0_2 hr1 hc1 h1 rfl hlt
    · rw [if_neg hlt] at h
      by_cases hlt2 : idxFromL (fun s => decide (s = l1)) l0_1 0 < (l0_2.length : Int)
      · rw [if_pos hlt2] at h
        obtain ⟨r, h2, h⟩ := Option.bind_eq_some_iff.mp h
        simp only [Option.some.injEq, Prod.mk.injEq] at h
        obtain ⟨rfl, rfl⟩ := h
        exact impl_Encode.calls_in k a0_0 A0_1 c0_1 l0_1 A0_2 c0_2 l0_2 A1 c1 l1 _ r w hr0_1 hc0_1 hr0_2 hc0_2 hr1 hc1 h1 rfl hlt hlt2 h2
      · rw [if_neg hlt2] at h
        exact absurd h (by simp)
end Go.Proofs.Ytobncomimkmoeaa.F
end
section
/- Laid by a program of this claim's own. What the Go function does, as a Lean function, and the proof that the Go code does just that; Lean checks it. -/
namespace Go.Proofs.Ytobncomimkmoeaa.F
open Go.RowKit Go.Proofs.YtobncomimkmoeaaW.PrintWords Go.Proofs.YtobncomimkmoeaaW.PrintLast Go.Proofs.YtobncomimkmoeaaW.PrintMore
attribute [local go_sem] max2_int min2_int max_two min_two max_three min_three max_four min_four   -- for this text's walks alone
set_option linter.unusedVariables false
set_option linter.unusedSimpArgs false
/-! ### laws_eqIntS: function 12 -/
def laws_eqIntS.l0 : Nat → List Int → List Int → Int → Option (Bool)
  | 0, _, _, _ => none
  | k + 1, x0, x1, x5 => if x5 < (x0.length : Int) then (if 0 ≤ x5 then (if x5 < (x1.length : Int) then (if (rd x0 x5) = (rd x1 x5) then (laws_eqIntS.l0 k x0 x1 (wrap64 (x5 + 1))) else (some false)) else (none)) else (none)) else (some true)
def laws_eqIntS.f (k : Nat) (l0 : List Int) (l1 : List Int) : Option (Bool) := if (l0.length : Int) = (l1.length : Int) then (laws_eqIntS.l0 k l0 l1 0) else (some false)
set_option maxHeartbeats 8000000 in
set_option maxRecDepth 100000 in
theorem laws_eqIntS.calls (k : Nat) (A0 : Option Addr) (c0 : Nat) (l0 : List Int) (A1 : Option Addr) (c1 : Nat) (l1 : List Int) (r : Bool) (w : World) (hr0 : Kd.C (Kd.int .i64) w A0 l0.length l0) (hc0 : l0.length ≤ c0) (hr1 : Kd.C (Kd.int .i64) w A1 l1.length l1) (hc1 : l1.length ≤ c1) (h : laws_eqIntS.f k l0 l1 = some r) :
    Calls Try.prog 12 #[.slice A0 l0.length c0, .slice A1 l1.length c1] w fun e w' => e = .returned (.bool r) ∧ Drawn0 w w' := by
  have HR0 := Aside0.mk hr0
  have HC0 := Aside0.mk hc0
  clear hr0 hc0
  have HR1 := Aside0.mk hr1
  have HC1 := Aside0.mk hc1
  clear hr1 hc1
  have H : (if (l0.length : Int) = (l1.length : Int) then (laws_eqIntS.l0 k l0 l1 0) else (some false)) = some r := h
  clear h
  by_cases c3 : (l0.length : Int) = (l1.length : Int)
  · rw [if_pos c3] at H
    have c3b0 : ((l0.length : Int) == (l1.length : Int)) = true := beq_iff_eq.mpr c3
    have c3b1 : ((l0.length : Int) != (l1.length : Int)) = false := bne_eq_false_iff_eq.mpr c3
    have c3b2 : (l0.length == l1.length) = true := by first | simpa using c3 | (simp at c3 ⊢; omega)
    clear c3
    have H' := Aside0.mk H
    clear H
    go_enter Try.func12, Try.ntmps12
    go_wp2
    repeat (go_quiet (fail); try go_wp2)
    go_loopg [5] k (fun kq v5 w' => ∃ (x5_1 : Int), v5 = .int .i64 x5_1 ∧ Aside0 (laws_eqIntS.l0 kq l0 l1 x5_1 = some r) ∧ Aside0 (kq ≤ k) ∧ Drawn0 w w')
    case atStart => exact ⟨(0), (by first | rfl | (simp; done) | (simp [*]; done)), H', ⟨Nat.le_refl _⟩, by repeat (first | exact Drawn0.refl _ | apply Drawn0.step)⟩
    case round =>
      clear H'
      try clear c1
      try clear p2
      try clear c3
      try clear c3b0
      try clear c3b1
      try clear c3b2
      obtain ⟨x5_1, rfl, HA, HK1, ⟨m1, rfl⟩⟩ := hrel
      cases gk with
      | zero => exact absurd HA.out (by simp [laws_eqIntS.l0])
      | succ k1 =>
        have H := HA.out
        clear HA
        simp only [laws_eqIntS.l0] at H
        by_cases c4 : x5_1 < (l0.length : Int)
        · rw [if_pos c4] at H
          have c4b0 : decide (x5_1 < (l0.length : Int)) = true := decide_eq_true c4
          clear c4
          by_cases c5 : 0 ≤ x5_1
          · rw [if_pos c5] at H
            have c5b0 : decide (0 ≤ x5_1) = true := decide_eq_true c5
            clear c5
            by_cases c6 : x5_1 < (l1.length : Int)
            · rw [if_pos c6] at H
              have c6b0 : decide (x5_1 < (l1.length : Int)) = true := decide_eq_true c6
              clear c6
              by_cases c7 : (rd l0 x5_1) = (rd l1 x5_1)
              · rw [if_pos c7] at H
                have c7b0 : ((rd l0 x5_1) == (rd l1 x5_1)) = true := beq_iff_eq.mpr c7
                have c7b1 : ((rd l0 x5_1) != (rd l1 x5_1)) = false := bne_eq_false_iff_eq.mpr c7
                clear c7
                have H' := Aside0.mk H
                clear H
                have p248 : 0 ≤ (x5_1 : Int) := of_decide_eq_true (by first | (with_reducible assumption) | assumption)
                have q248 : x5_1 < (l0.length : Int) := of_decide_eq_true (by first | (with_reducible assumption) | assumption)
                obtain ⟨ad248, e248, hx248_0⟩ := Kd.at_int HR0.out x5_1 p248 q248
                cases e248
                replace p248 := eq_true p248
                replace q248 := eq_true q248
                have p249 : 0 ≤ (x5_1 : Int) := of_decide_eq_true (by first | (with_reducible assumption) | assumption)
                have q249 : x5_1 < (l1.length : Int) := of_decide_eq_true (by first | (with_reducible assumption) | assumption)
                obtain ⟨ad249, e249, hx249_0⟩ := Kd.at_int HR1.out x5_1 p249 q249
                cases e249
                replace p249 := eq_true p249
                replace q249 := eq_true q249
                go_wp2
                repeat (go_quiet (fail); try go_wp2)
                go_roundg k1
                case measure => have := HK1.out; omega
                case rel => exact ⟨(wrap64 (x5_1 + 1)), (by first | rfl | (simp; done) | (simp [*]; done)), H', ⟨by have := HK1.out; omega⟩, by repeat (first | exact Drawn0.refl _ | apply Drawn0.step)⟩
              · rw [if_neg c7] at H
                have c7b0 : ((rd l0 x5_1) == (rd l1 x5_1)) = false := beq_eq_false_iff_ne.mpr c7
                have c7b1 : ((rd l0 x5_1) != (rd l1 x5_1)) = true := bne_iff_ne.mpr c7
                obtain rfl := Option.some.inj H
                have p248 : 0 ≤ (x5_1 : Int) := of_decide_eq_true (by first | (with_reducible assumption) | assumption)
                have q248 : x5_1 < (l0.length : Int) := of_decide_eq_true (by first | (with_reducible assumption) | assumption)
                obtain ⟨ad248, e248, hx248_0⟩ := Kd.at_int HR0.out x5_1 p248 q248
                cases e248
                replace p248 := eq_true p248
                replace q248 := eq_true q248
                have p249 : 0 ≤ (x5_1 : Int) := of_decide_eq_true (by first | (with_reducible assumption) | assumption)
                have q249 : x5_1 < (l1.length : Int) := of_decide_eq_true (by first | (with_reducible assumption) | assumption)
                obtain ⟨ad249, e249, hx249_0⟩ := Kd.at_int HR1.out x5_1 p249 q249
                cases e249
                replace p249 := eq_true p249
                replace q249 := eq_true q249
                go_wp2
                repeat (go_quiet (fail); try go_wp2)
                go_ret
                exact ⟨by first | rfl | (simp; done) | (simp [*]; done), by repeat (first | exact Drawn0.refl _ | apply Drawn0.step)⟩
            · rw [if_neg c6] at H
              exact absurd H (by simp)
          · rw [if_neg c5] at H
            exact absurd H (by simp)
        · rw [if_neg c4] at H
          have c4b0 : decide (x5_1 < (l0.length : Int)) = false := decide_eq_false c4
          clear c4
          obtain rfl := Option.some.inj H
          go_wp2
          repeat (go_quiet (fail); try go_wp2)
          go_ret
          exact ⟨by first | rfl | (simp; done) | (simp [*]; done), by repeat (first | exact Drawn0.refl _ | apply Drawn0.step)⟩
  · rw [if_neg c3] at H
    have c3b0 : ((l0.length : Int) == (l1.length : Int)) = false := beq_eq_false_iff_ne.mpr c3
    have c3b1 : ((l0.length : Int) != (l1.length : Int)) = true := bne_iff_ne.mpr c3
    have c3b2 : (l0.length == l1.length) = false := by first | simpa using c3 | (simp at c3 ⊢; omega)
    obtain rfl := Option.some.inj H
    go_enter Try.func12, Try.ntmps12
    go_wp2
    repeat (go_quiet (fail); try go_wp2)
    go_ret
    exact ⟨by first | rfl | (simp; done) | (simp [*]; done), by repeat (first | exact Drawn0.refl _ | apply Drawn0.step)⟩
end Go.Proofs.Ytobncomimkmoeaa.F
end
section
/- Laid by a program of this claim's own. What the Go function does, as a Lean function, and the proof that the Go code does just that; Lean checks it. -/
namespace Go.Proofs.Ytobncomimkmoeaa.F
open Go.RowKit Go.Proofs.YtobncomimkmoeaaW.PrintWords Go.Proofs.YtobncomimkmoeaaW.PrintLast Go.Proofs.YtobncomimkmoeaaW.PrintMore
attribute [local go_sem] max2_int min2_int max_two min_two max_three min_three max_four min_four   -- for this text's walks alone
set_option linter.unusedVariables false
set_option linter.unusedSimpArgs false
/-! ### laws_eqIntSS: function 21 -/
def laws_eqIntSS.l0 : Nat → List (List Int) → List (List Int) → Int → Option (Bool)
  | 0, _, _, _ => none
  | k + 1, x0, x1, x5 => if x5 < (x0.length : Int) then (if 0 ≤ x5 then (if x5 < (x1.length : Int) then ((laws_eqIntS.f k (rd_L1 x0 x5) (rd_L1 x1 x5)).bind fun t252 => (if t252 = true then (laws_eqIntSS.l0 k x0 x1 (wrap64 (x5 + 1))) else (some false))) else (none)) else (none)) else (some true)
def laws_eqIntSS.f (k : Nat) (l0 : List (List Int)) (l1 : List (List Int)) : Option (Bool) := if (l0.length : Int) = (l1.length : Int) then (laws_eqIntSS.l0 k l0 l1 0) else (some false)
set_option maxHeartbeats 8000000 in
set_option maxRecDepth 100000 in
theorem laws_eqIntSS.calls (k : Nat) (A0 : Option Addr) (c0 : Nat) (l0 : List (List Int)) (A1 : Option Addr) (c1 : Nat) (l1 : List (List Int)) (r : Bool) (w : World) (hr0 : Kd.C (Kd.slice 3 (Kd.int .i64)) w A0 l0.length l0) (hc0 : l0.length ≤ c0) (hr1 : Kd.C (Kd.slice 3 (Kd.int .i64)) w A1 l1.length l1) (hc1 : l1.length ≤ c1) (h : laws_eqIntSS.f k l0 l1 = some r) :
    Calls Try.prog 21 #[.slice A0 l0.length c0, .slice A1 l1.length c1] w fun e w' => e = .returned (.bool r) ∧ Drawn0 w w' := by
  have HR0 := Aside0.mk hr0
  have HC0 := Aside0.mk hc0
  clear hr0 hc0
  have HR1 := Aside0.mk hr1
  have HC1 := Aside0.mk hc1
  clear hr1 hc1
  have H : (if (l0.length : Int) = (l1.length : Int) then (laws_eqIntSS.l0 k l0 l1 0) else (some false)) = some r := h
  clear h
  by_cases c3 : (l0.length : Int) = (l1.length : Int)
  · rw [if_pos c3] at H
    have c3b0 : ((l0.length : Int) == (l1.length : Int)) = true := beq_iff_eq.mpr c3
    have c3b1 : ((l0.length : Int) != (l1.length : Int)) = false := bne_eq_false_iff_eq.mpr c3
    have c3b2 : (l0.length == l1.length) = true := by first | simpa using c3 | (simp at c3 ⊢; omega)
    clear c3
    have H' := Aside0.mk H
    clear H
    go_enter Try.func21, Try.ntmps21
    go_wp2
    repeat (go_quiet (fail); try go_wp2)
    go_loopg [5] k (fun kq v5 w' => ∃ (x5_1 : Int), v5 = .int .i64 x5_1 ∧ Aside0 (laws_eqIntSS.l0 kq l0 l1 x5_1 = some r) ∧ Aside0 (kq ≤ k) ∧ Drawn0 w w')
    case atStart => exact ⟨(0), (by first | rfl | (simp; done) | (simp [*]; done)), H', ⟨Nat.le_refl _⟩, by repeat (first | exact Drawn0.refl _ | apply Drawn0.step)⟩
    case round =>
      clear H'
      try clear c1
      try clear c2
      try clear p2
      try clear c3
      try clear c3b0
      try clear c3b1
      try clear c3b2
      obtain ⟨x5_1, rfl, HA, HK1, ⟨m1, rfl⟩⟩ := hrel
      cases gk with
      | zero => exact absurd HA.out (by simp [laws_eqIntSS.l0])
      | succ k1 =>
        have H := HA.out
        clear HA
        simp only [laws_eqIntSS.l0] at H
        by_cases c4 : x5_1 < (l0.length : Int)
        · rw [if_pos c4] at H
          have c4b0 : decide (x5_1 < (l0.length : Int)) = true := decide_eq_true c4
          clear c4
          by_cases c5 : 0 ≤ x5_1
          · rw [if_pos c5] at H
            have c5b0 : decide (0 ≤ x5_1) = true := decide_eq_true c5
            clear c5
            by_cases c6 : x5_1 < (l1.length : Int)
            · rw [if_pos c6] at H
              have c6b0 : decide (x5_1 < (l1.length : Int)) = true := decide_eq_true c6
              clear c6
              replace H := Option.bind_eq_some_iff.mp H
              obtain ⟨t252, A70, H⟩ := H
              replace H : (if t252 = true then (laws_eqIntSS.l0 k1 l0 l1 (wrap64 (x5_1 + 1))) else (some false)) = some r := H
              have A7 := Aside0.mk A70
              clear A70
              by_cases c8 : t252 = true
              · subst c8
                have H1 : (laws_eqIntSS.l0 k1 l0 l1 (wrap64 (x5_1 + 1))) = some r := by rw [if_pos rfl] at H; exact H
                clear H
                have H := H1
                clear H1
                have H' := Aside0.mk H
                clear H
                have p250 : 0 ≤ (x5_1 : Int) := of_decide_eq_true (by first | (with_reducible assumption) | assumption)
                have q250 : x5_1 < (l0.length : Int) := of_decide_eq_true (by first | (with_reducible assumption) | assumption)
                obtain ⟨ad250, A250_0, c250_0, e250, hx250_0, hl250_0, hi250_0⟩ := at_L1 HR0.out x5_1 p250 q250
                cases e250
                have HR250_0 := Aside0.mk hi250_0
                have HC250_0 := Aside0.mk hl250_0
                clear hi250_0 hl250_0
                replace p250 := eq_true p250
                replace q250 := eq_true q250
                have p251 : 0 ≤ (x5_1 : Int) := of_decide_eq_true (by first | (with_reducible assumption) | assumption)
                have q251 : x5_1 < (l1.length : Int) := of_decide_eq_true (by first | (with_reducible assumption) | assumption)
                obtain ⟨ad251, A251_0, c251_0, e251, hx251_0, hl251_0, hi251_0⟩ := at_L1 HR1.out x5_1 p251 q251
                cases e251
                have HR251_0 := Aside0.mk hi251_0
                have HC251_0 := Aside0.mk hl251_0
                clear hi251_0 hl251_0
                replace p251 := eq_true p251
                replace q251 := eq_true q251
                go_wp2_with (first | (go_at_call 12; (with_reducible refine (laws_eqIntS.calls k1 _ _ (rd_L1 l0 x5_1) _ _ (rd_L1 l1 x5_1) true _ ?side1 ?side2 ?side3 ?side4 A7.out).mono ?_); (case side1 => repeat (first | exact HR250_0.out | (with_reducible refine Kd.C_alloc ?_ _) | (with_reducible refine Kd.C_drewN ?_ _) | (with_reducible refine Kd.C_drew ?_))); (case side2 => exact HC250_0.out); (case side3 => repeat (first | exact HR251_0.out | (with_reducible refine Kd.C_alloc ?_ _) | (with_reducible refine Kd.C_drewN ?_ _) | (with_reducible refine Kd.C_drew ?_))); (case side4 => exact HC251_0.out); rintro e w' ⟨rfl, ⟨nd, rfl⟩⟩; (try first | exact ⟨rfl, _, World.drewN_drewN _ _ _⟩ | exact ⟨rfl, _, Eq.trans (World.drewN_drewN _ _ _) (congrArg (World.drewN _) (Nat.add_assoc _ _ _))⟩)))
                repeat (go_quiet (first | (go_at_call 12; (with_reducible refine (laws_eqIntS.calls k1 _ _ (rd_L1 l0 x5_1) _ _ (rd_L1 l1 x5_1) true _ ?side1 ?side2 ?side3 ?side4 A7.out).mono ?_); (case side1 => repeat (first | exact HR250_0.out | (with_reducible refine Kd.C_alloc ?_ _) | (with_reducible refine Kd.C_drewN ?_ _) | (with_reducible refine Kd.C_drew ?_))); (case side2 => exact HC250_0.out); (case side3 => repeat (first | exact HR251_0.out | (with_reducible refine Kd.C_alloc ?_ _) | (with_reducible refine Kd.C_drewN ?_ _) | (with_reducible refine Kd.C_drew ?_))); (case side4 => exact HC251_0.out); rintro e w' ⟨rfl, ⟨nd, rfl⟩⟩; (try first | exact ⟨rfl, _, World.drewN_drewN _ _ _⟩ | exact ⟨rfl, _, Eq.trans (World.drewN_drewN _ _ _) (congrArg (World.drewN _) (Nat.add_assoc _ _ _))⟩))); try go_wp2_with (first | (go_at_call 12; (with_reducible refine (laws_eqIntS.calls k1 _ _ (rd_L1 l0 x5_1) _ _ (rd_L1 l1 x5_1) true _ ?side1 ?side2 ?side3 ?side4 A7.out).mono ?_); (case side1 => repeat (first | exact HR250_0.out | (with_reducible refine Kd.C_alloc ?_ _) | (with_reducible refine Kd.C_drewN ?_ _) | (with_reducible refine Kd.C_drew ?_))); (case side2 => exact HC250_0.out); (case side3 => repeat (first | exact HR251_0.out | (with_reducible refine Kd.C_alloc ?_ _) | (with_reducible refine Kd.C_drewN ?_ _) | (with_reducible refine Kd.C_drew ?_))); (case side4 => exact HC251_0.out); rintro e w' ⟨rfl, ⟨nd, rfl⟩⟩; (try first | exact ⟨rfl, _, World.drewN_drewN _ _ _⟩ | exact ⟨rfl, _, Eq.trans (World.drewN_drewN _ _ _) (congrArg (World.drewN _) (Nat.add_assoc _ _ _))⟩))))
                go_roundg k1
                case measure => have := HK1.out; omega
                case rel => exact ⟨(wrap64 (x5_1 + 1)), (by first | rfl | (simp; done) | (simp [*]; done)), H', ⟨by have := HK1.out; omega⟩, by repeat (first | exact Drawn0.refl _ | apply Drawn0.step)⟩
              · replace c8 := Bool.eq_false_iff.mpr c8
                subst c8
                have H1 : (some false) = some r := by rw [if_neg (show ¬ (false = true) by decide)] at H; exact H
                clear H
                have H := H1
                clear H1
                obtain rfl := Option.some.inj H
                have p250 : 0 ≤ (x5_1 : Int) := of_decide_eq_true (by first | (with_reducible assumption) | assumption)
                have q250 : x5_1 < (l0.length : Int) := of_decide_eq_true (by first | (with_reducible assumption) | assumption)
                obtain ⟨ad250, A250_0, c250_0, e250, hx250_0, hl250_0, hi250_0⟩ := at_L1 HR0.out x5_1 p250 q250
                cases e250
                have HR250_0 := Aside0.mk hi250_0
                have HC250_0 := Aside0.mk hl250_0
                clear hi250_0 hl250_0
                replace p250 := eq_true p250
                replace q250 := eq_true q250
                have p251 : 0 ≤ (x5_1 : Int) := of_decide_eq_true (by first | (with_reducible assumption) | assumption)
                have q251 : x5_1 < (l1.length : Int) := of_decide_eq_true (by first | (with_reducible assumption) | assumption)
                obtain ⟨ad251, A251_0, c251_0, e251, hx251_0, hl251_0, hi251_0⟩ := at_L1 HR1.out x5_1 p251 q251
                cases e251
                have HR251_0 := Aside0.mk hi251_0
                have HC251_0 := Aside0.mk hl251_0
                clear hi251_0 hl251_0
                replace p251 := eq_true p251
                replace q251 := eq_true q251
                go_wp2_with (first | (go_at_call 12; (with_reducible refine (laws_eqIntS.calls k1 _ _ (rd_L1 l0 x5_1) _ _ (rd_L1 l1 x5_1) false _ ?side1 ?side2 ?side3 ?side4 A7.out).mono ?_); (case side1 => repeat (first | exact HR250_0.out | (with_reducible refine Kd.C_alloc ?_ _) | (with_reducible refine Kd.C_drewN ?_ _) | (with_reducible refine Kd.C_drew ?_))); (case side2 => exact HC250_0.out); (case side3 => repeat (first | exact HR251_0.out | (with_reducible refine Kd.C_alloc ?_ _) | (with_reducible refine Kd.C_drewN ?_ _) | (with_reducible refine Kd.C_drew ?_))); (case side4 => exact HC251_0.out); rintro e w' ⟨rfl, ⟨nd, rfl⟩⟩; (try first | exact ⟨rfl, _, World.drewN_drewN _ _ _⟩ | exact ⟨rfl, _, Eq.trans (World.drewN_drewN _ _ _) (congrArg (World.drewN _) (Nat.add_assoc _ _ _))⟩)))
                repeat (go_quiet (first | (go_at_call 12; (with_reducible refine (laws_eqIntS.calls k1 _ _ (rd_L1 l0 x5_1) _ _ (rd_L1 l1 x5_1) false _ ?side1 ?side2 ?side3 ?side4 A7.out).mono ?_); (case side1 => repeat (first | exact HR250_0.out | (with_reducible refine Kd.C_alloc ?_ _) | (with_reducible refine Kd.C_drewN ?_ _) | (with_reducible refine Kd.C_drew ?_))); (case side2 => exact HC250_0.out); (case side3 => repeat (first | exact HR251_0.out | (with_reducible refine Kd.C_alloc ?_ _) | (with_reducible refine Kd.C_drewN ?_ _) | (with_reducible refine Kd.C_drew ?_))); (case side4 => exact HC251_0.out); rintro e w' ⟨rfl, ⟨nd, rfl⟩⟩; (try first | exact ⟨rfl, _, World.drewN_drewN _ _ _⟩ | exact ⟨rfl, _, Eq.trans (World.drewN_drewN _ _ _) (congrArg (World.drewN _) (Nat.add_assoc _ _ _))⟩))); try go_wp2_with (first | (go_at_call 12; (with_reducible refine (laws_eqIntS.calls k1 _ _ (rd_L1 l0 x5_1) _ _ (rd_L1 l1 x5_1) false _ ?side1 ?side2 ?side3 ?side4 A7.out).mono ?_); (case side1 => repeat (first | exact HR250_0.out | (with_reducible refine Kd.C_alloc ?_ _) | (with_reducible refine Kd.C_drewN ?_ _) | (with_reducible refine Kd.C_drew ?_))); (case side2 => exact HC250_0.out); (case side3 => repeat (first | exact HR251_0.out | (with_reducible refine Kd.C_alloc ?_ _) | (with_reducible refine Kd.C_drewN ?_ _) | (with_reducible refine Kd.C_drew ?_))); (case side4 => exact HC251_0.out); rintro e w' ⟨rfl, ⟨nd, rfl⟩⟩; (try first | exact ⟨rfl, _, World.drewN_drewN _ _ _⟩ | exact ⟨rfl, _, Eq.trans (World.drewN_drewN _ _ _) (congrArg (World.drewN _) (Nat.add_assoc _ _ _))⟩))))
                go_ret
                exact ⟨by first | rfl | (simp; done) | (simp [*]; done), by repeat (first | exact Drawn0.refl _ | apply Drawn0.step)⟩
            · rw [if_neg c6] at H
              exact absurd H (by simp)
          · rw [if_neg c5] at H
            exact absurd H (by simp)
        · rw [if_neg c4] at H
          have c4b0 : decide (x5_1 < (l0.length : Int)) = false := decide_eq_false c4
          clear c4
          obtain rfl := Option.some.inj H
          go_wp2
          repeat (go_quiet (fail); try go_wp2)
          go_ret
          exact ⟨by first | rfl | (simp; done) | (simp [*]; done), by repeat (first | exact Drawn0.refl _ | apply Drawn0.step)⟩
  · rw [if_neg c3] at H
    have c3b0 : ((l0.length : Int) == (l1.length : Int)) = false := beq_eq_false_iff_ne.mpr c3
    have c3b1 : ((l0.length : Int) != (l1.length : Int)) = true := bne_iff_ne.mpr c3
    have c3b2 : (l0.length == l1.length) = false := by first | simpa using c3 | (simp at c3 ⊢; omega)
    obtain rfl := Option.some.inj H
    go_enter Try.func21, Try.ntmps21
    go_wp2
    repeat (go_quiet (fail); try go_wp2)
    go_ret
    exact ⟨by first | rfl | (simp; done) | (simp [*]; done), by repeat (first | exact Drawn0.refl _ | apply Drawn0.step)⟩
end Go.Proofs.Ytobncomimkmoeaa.F
end
section
/- Laid by a program of this claim's own. What the Go function does, as a Lean function, and the proof that the Go code does just that; Lean checks it. -/
namespace Go.Proofs.Ytobncomimkmoeaa.F
open Go.RowKit Go.Proofs.YtobncomimkmoeaaW.PrintWords Go.Proofs.YtobncomimkmoeaaW.PrintLast Go.Proofs.YtobncomimkmoeaaW.PrintMore
attribute [local go_sem] max2_int min2_int max_two min_two max_three min_three max_four min_four   -- for this text's walks alone
set_option linter.unusedVariables false
set_option linter.unusedSimpArgs false
/-! ### laws_eqCode: function 13 -/
def laws_eqCode.f (k : Nat) (a0_0 : Int) (l0_1 : List (List Int)) (l0_2 : List (List Int)) (a1_0 : Int) (l1_1 : List (List Int)) (l1_2 : List (List Int)) : Option (Bool) := if a0_0 = a1_0 then ((laws_eqIntSS.f k l0_1 l1_1).bind fun t255 => (if t255 = true then ((laws_eqIntSS.f k l0_2 l1_2).bind fun t256 => (if t256 = true then (some true) else (some false))) else (some false))) else (some false)
set_option maxHeartbeats 8000000 in
set_option maxRecDepth 100000 in
theorem laws_eqCode.calls (k : Nat) (a0_0 : Int) (A0_1 : Option Addr) (c0_1 : Nat) (l0_1 : List (List Int)) (A0_2 : Option Addr) (c0_2 : Nat) (l0_2 : List (List Int)) (a1_0 : Int) (A1_1 : Option Addr) (c1_1 : Nat) (l1_1 : List (List Int)) (A1_2 : Option Addr) (c1_2 : Nat) (l1_2 : List (List Int)) (r : Bool) (w : World) (hr0_1 : Kd.C (Kd.slice 3 (Kd.int .i64)) w A0_1 l0_1.length l0_1) (hc0_1 : l0_1.length ≤ c0_1) (hr0_2 : Kd.C (Kd.slice 3 (Kd.int .i64)) w A0_2 l0_2.length l0_2) (hc0_2 : l0_2.length ≤ c0_2) (hr1_1 : Kd.C (Kd.slice 3 (Kd.int .i64)) w A1_1 l1_1.length l1_1) (hc1_1 : l1_1.length ≤ c1_1) (hr1_2 : Kd.C (Kd.slice 3 (Kd.int .i64)) w A1_2 l1_2.length l1_2) (hc1_2 : l1_2.length ≤ c1_2) (h : laws_eqCode.f k a0_0 l0_1 l0_2 a1_0 l1_1 l1_2 = some r) :
    Calls Try.prog 13 #[.agg #[.int .i64 a0_0, .slice A0_1 l0_1.length c0_1, .slice A0_2 l0_2.length c0_2], .agg #[.int .i64 a1_0, .slice A1_1 l1_1.length c1_1, .slice A1_2 l1_2.length c1_2]] w fun e w' => e = .returned (.bool r) ∧ Below w.heap.size w w' := by
  have hu29 := Try.underlying29
  have HR0_1 := Aside0.mk hr0_1
  have HC0_1 := Aside0.mk hc0_1
  clear hr0_1 hc0_1
  have HR0_2 := Aside0.mk hr0_2
  have HC0_2 := Aside0.mk hc0_2
  clear hr0_2 hc0_2
  have HR1_1 := Aside0.mk hr1_1
  have HC1_1 := Aside0.mk hc1_1
  clear hr1_1 hc1_1
  have HR1_2 := Aside0.mk hr1_2
  have HC1_2 := Aside0.mk hc1_2
  clear hr1_2 hc1_2
  have HB := Aside0.mk (Below.refl w.heap.size w)
  have H : (if a0_0 = a1_0 then ((laws_eqIntSS.f k l0_1 l1_1).bind fun t255 => (if t255 = true then ((laws_eqIntSS.f k l0_2 l1_2).bind fun t256 => (if t256 = true then (some true) else (some false))) else (some false))) else (some false)) = some r := h
  clear h
  by_cases c3 : a0_0 = a1_0
  · rw [if_pos c3] at H
    have c3b0 : (a0_0 == a1_0) = true := beq_iff_eq.mpr c3
    have c3b1 : (a0_0 != a1_0) = false := bne_eq_false_iff_eq.mpr c3
    clear c3
    replace H := Option.bind_eq_some_iff.mp H
    obtain ⟨t255, A40, H⟩ := H
    replace H : (if t255 = true then ((laws_eqIntSS.f k l0_2 l1_2).bind fun t256 => (if t256 = true then (some true) else (some false))) else (some false)) = some r := H
    have A4 := Aside0.mk A40
    clear A40
    by_cases c5 : t255 = true
    · subst c5
      have H1 : ((laws_eqIntSS.f k l0_2 l1_2).bind fun t256 => (if t256 = true then (some true) else (some false))) = some r := by rw [if_pos rfl] at H; exact H
      clear H
      have H := H1
      clear H1
      replace H := Option.bind_eq_some_iff.mp H
      obtain ⟨t256, A60, H⟩ := H
      replace H : (if t256 = true then (some true) else (some false)) = some r := H
      have A6 := Aside0.mk A60
      clear A60
      by_cases c7 : t256 = true
      · subst c7
        have H1 : (some true) = some r := by rw [if_pos rfl] at H; exact H
        clear H
        have H := H1
        clear H1
        obtain rfl := Option.some.inj H
        go_enter Try.func13, Try.ntmps13
        go_wp2_with (first | ((with_reducible refine gate_dst (N := 2) rfl ?_); refine box_event ?hg (N := 2) ?hd (cs := #[.int .i64 a0_0, .slice A0_1 l0_1.length c0_1, .slice A0_2 l0_2.length c0_2]) (t := 29) ?hr ?_; (case hd => rfl); (case hg => rfl); (case hr => first | (go_simp; done) | (go_simp; rfl)); intro gb253 hg w8 hbox hb; have n0_ := Aside0.mk (below_step (by repeat (first | (with_reducible first | exact HB.out | apply below_alloc | apply pw_below_drewN | apply below_drew1) | exact HB.out)) hb); have n1_ := Aside0.mk (hbox); have n2_ := Aside0.mk ((by rw [hg]; exact (below_size (by repeat (first | (with_reducible first | exact HB.out | apply below_alloc | apply pw_below_drewN | apply below_drew1) | exact HB.out))) : w.heap.size ≤ gb253)); have n3_ := Aside0.mk ((by rw [hg]; exact (below_size (by repeat (first | (with_reducible first | exact HB.out | apply below_alloc | apply pw_below_drewN | apply below_drew1) | exact HB.out))) : w.heap.size ≤ gb253)); clear HB; have HB := n0_; have BK253 := n1_; have GW253 := n2_; have GE253 := n3_; clear n0_ n1_ n2_ n3_; clear hb hbox hg) | ((with_reducible refine gate_dst (N := 3) rfl ?_); refine box_event ?hg (N := 3) ?hd (cs := #[.int .i64 a1_0, .slice A1_1 l1_1.length c1_1, .slice A1_2 l1_2.length c1_2]) (t := 29) ?hr ?_; (case hd => rfl); (case hg => rfl); (case hr => first | (go_simp; done) | (go_simp; rfl)); intro gb254 hg w9 hbox hb; have n0_ := Aside0.mk (blk_below (g := gb253) (o := .cells #[.int .i64 a0_0, .slice A0_1 l0_1.length c0_1, .slice A0_2 l0_2.length c0_2] 29 (0, 0)) (by (with_reducible repeat (first | refine blk_drewN ?_ _ | refine blk_drew ?_ | refine blk_alloc ?_ _)); exact BK253.out) hb); have n1_ := Aside0.mk (below_step (by repeat (first | (with_reducible first | exact HB.out | apply below_alloc | apply pw_below_drewN | apply below_drew1 | refine below_set ?_ GE253.out) | exact HB.out)) hb); have n2_ := Aside0.mk (hbox); have n3_ := Aside0.mk ((by rw [hg]; exact (below_size (by repeat (first | (with_reducible first | exact HB.out | apply below_alloc | apply pw_below_drewN | apply below_drew1 | refine below_set ?_ GE253.out) | exact HB.out))) : w.heap.size ≤ gb254)); have n4_ := Aside0.mk ((by rw [hg]; exact (below_size (by repeat (first | (with_reducible first | exact HB.out | apply below_alloc | apply pw_below_drewN | apply below_drew1 | refine below_set ?_ GE253.out) | exact HB.out))) : w.heap.size ≤ gb254)); have n5_ := Aside0.mk ((by rw [hg]; exact Nat.ne_of_lt (blk_lt (g := gb253) (o := .cells #[.int .i64 a0_0, .slice A0_1 l0_1.length c0_1, .slice A0_2 l0_2.length c0_2] 29 (0, 0)) (by (with_reducible repeat (first | refine blk_drewN ?_ _ | refine blk_drew ?_ | refine blk_alloc ?_ _)); exact BK253.out)) : gb253 ≠ gb254)); have n6_ := Aside0.mk ((by rw [hg]; exact Nat.ne_of_gt (blk_lt (g := gb253) (o := .cells #[.int .i64 a0_0, .slice A0_1 l0_1.length c0_1, .slice A0_2 l0_2.length c0_2] 29 (0, 0)) (by (with_reducible repeat (first | refine blk_drewN ?_ _ | refine blk_drew ?_ | refine blk_alloc ?_ _)); exact BK253.out)) : gb254 ≠ gb253)); clear BK253; clear HB; have BK253 := n0_; have HB := n1_; have BK254 := n2_; have GW254 := n3_; have GE254 := n4_; have NB253_254 := n5_; have NB254_253 := n6_; clear n0_ n1_ n2_ n3_ n4_ n5_ n6_; clear hb hbox hg; have hnb10 := NB253_254.out; have hnc10 := NB254_253.out; have hcz11_0 : w9.cell? ⟨gb253, 0, none⟩ = some (.int .i64 a0_0) := (blk_cell BK253.out 0).trans rfl; have hcz11_1 : w9.cell? ⟨gb253, 1, none⟩ = some (.slice A0_1 l0_1.length c0_1) := (blk_cell BK253.out 1).trans rfl; have hcz11_2 : w9.cell? ⟨gb253, 2, none⟩ = some (.slice A0_2 l0_2.length c0_2) := (blk_cell BK253.out 2).trans rfl; have hfz11_0 := blk_frozen BK253.out 0; have hfz11_1 := blk_frozen BK253.out 1; have hfz11_2 := blk_frozen BK253.out 2; have hcz12_0 : w9.cell? ⟨gb254, 0, none⟩ = some (.int .i64 a1_0) := (blk_cell BK254.out 0).trans rfl; have hcz12_1 : w9.cell? ⟨gb254, 1, none⟩ = some (.slice A1_1 l1_1.length c1_1) := (blk_cell BK254.out 1).trans rfl; have hcz12_2 : w9.cell? ⟨gb254, 2, none⟩ = some (.slice A1_2 l1_2.length c1_2) := (blk_cell BK254.out 2).trans rfl; have hfz12_0 := blk_frozen BK254.out 0; have hfz12_1 := blk_frozen BK254.out 1; have hfz12_2 := blk_frozen BK254.out 2) | ((with_reducible refine gate_callee (f := 21) rfl ?_); refine goesL_ (some 14) rfl rfl Try.func21 (by kernel_rfl) rfl #[.slice A0_1 l0_1.length c0_1, .slice A1_1 l1_1.length c1_1] rfl (by (try simp only [List.map_toArray, List.map_cons, List.map_nil]); first | done | rfl | (simp only [List.length_drop, List.length_take]; rfl)) ?_; (with_reducible refine (laws_eqIntSS.calls k _ _ l0_1 _ _ l1_1 true _ ?side1 ?side2 ?side3 ?side4 A4.out).mono ?_); (case side1 => repeat (first | exact (Kd.C_below HR0_1.out HB.out) | (with_reducible refine Kd.C_alloc ?_ _) | (with_reducible refine Kd.C_drewN ?_ _) | (with_reducible refine Kd.C_drew ?_))); (case side2 => exact HC0_1.out); (case side3 => repeat (first | exact (Kd.C_below HR1_1.out HB.out) | (with_reducible refine Kd.C_alloc ?_ _) | (with_reducible refine Kd.C_drewN ?_ _) | (with_reducible refine Kd.C_drew ?_))); (case side4 => exact HC1_1.out); rintro e w' ⟨rfl, ⟨nd, rfl⟩⟩; refine ⟨_, rfl, ?_⟩) | ((with_reducible refine gate_callee (f := 21) rfl ?_); refine goesL_ (some 20) rfl rfl Try.func21 (by kernel_rfl) rfl #[.slice A0_2 l0_2.length c0_2, .slice A1_2 l1_2.length c1_2] rfl (by (try simp only [List.map_toArray, List.map_cons, List.map_nil]); first | done | rfl | (simp only [List.length_drop, List.length_take]; rfl)) ?_; (with_reducible refine (laws_eqIntSS.calls k _ _ l0_2 _ _ l1_2 true _ ?side1 ?side2 ?side3 ?side4 A6.out).mono ?_); (case side1 => repeat (first | exact (Kd.C_below HR0_2.out (by repeat (first | (with_reducible first | exact HB.out | apply below_alloc | apply pw_below_drewN | apply below_drew1 | refine below_set ?_ GE253.out | refine below_set ?_ GE254.out) | exact HB.out))) | (with_reducible refine Kd.C_alloc ?_ _) | (with_reducible refine Kd.C_drewN ?_ _) | (with_reducible refine Kd.C_drew ?_))); (case side2 => exact HC0_2.out); (case side3 => repeat (first | exact (Kd.C_below HR1_2.out (by repeat (first | (with_reducible first | exact HB.out | apply below_alloc | apply pw_below_drewN | apply below_drew1 | refine below_set ?_ GE253.out | refine below_set ?_ GE254.out) | exact HB.out))) | (with_reducible refine Kd.C_alloc ?_ _) | (with_reducible refine Kd.C_drewN ?_ _) | (with_reducible refine Kd.C_drew ?_))); (case side4 => exact HC1_2.out); rintro e w' ⟨rfl, ⟨nd, rfl⟩⟩; refine ⟨_, rfl, ?_⟩))
        go_ret
        exact ⟨by first | rfl | (simp [errW_none, errW_some] <;> rfl) | (simp [*, errW_none, errW_some] <;> rfl), by repeat (first | (with_reducible first | exact HB.out | apply below_alloc | apply pw_below_drewN | apply below_drew1 | refine below_set ?_ GE253.out | refine below_set ?_ GE254.out) | exact HB.out)⟩
      · replace c7 := Bool.eq_false_iff.mpr c7
        subst c7
        have H1 : (some false) = some r := by rw [if_neg (show ¬ (false = true) by decide)] at H; exact H
        clear H
        have H := H1
        clear H1
        obtain rfl := Option.some.inj H
        go_enter Try.func13, Try.ntmps13
        go_wp2_with (first | ((with_reducible refine gate_dst (N := 2) rfl ?_); refine box_event ?hg (N := 2) ?hd (cs := #[.int .i64 a0_0, .slice A0_1 l0_1.length c0_1, .slice A0_2 l0_2.length c0_2]) (t := 29) ?hr ?_; (case hd => rfl); (case hg => rfl); (case hr => first | (go_simp; done) | (go_simp; rfl)); intro gb253 hg w13 hbox hb; have n0_ := Aside0.mk (below_step (by repeat (first | (with_reducible first | exact HB.out | apply below_alloc | apply pw_below_drewN | apply below_drew1) | exact HB.out)) hb); have n1_ := Aside0.mk (hbox); have n2_ := Aside0.mk ((by rw [hg]; exact (below_size (by repeat (first | (with_reducible first | exact HB.out | apply below_alloc | apply pw_below_drewN | apply below_drew1) | exact HB.out))) : w.heap.size ≤ gb253)); have n3_ := Aside0.mk ((by rw [hg]; exact (below_size (by repeat (first | (with_reducible first | exact HB.out | apply below_alloc | apply pw_below_drewN | apply below_drew1) | exact HB.out))) : w.heap.size ≤ gb253)); clear HB; have HB := n0_; have BK253 := n1_; have GW253 := n2_; have GE253 := n3_; clear n0_ n1_ n2_ n3_; clear hb hbox hg) | ((with_reducible refine gate_dst (N := 3) rfl ?_); refine box_event ?hg (N := 3) ?hd (cs := #[.int .i64 a1_0, .slice A1_1 l1_1.length c1_1, .slice A1_2 l1_2.length c1_2]) (t := 29) ?hr ?_; (case hd => rfl); (case hg => rfl); (case hr => first | (go_simp; done) | (go_simp; rfl)); intro gb254 hg w14 hbox hb; have n0_ := Aside0.mk (blk_below (g := gb253) (o := .cells #[.int .i64 a0_0, .slice A0_1 l0_1.length c0_1, .slice A0_2 l0_2.length c0_2] 29 (0, 0)) (by (with_reducible repeat (first | refine blk_drewN ?_ _ | refine blk_drew ?_ | refine blk_alloc ?_ _)); exact BK253.out) hb); have n1_ := Aside0.mk (below_step (by repeat (first | (with_reducible first | exact HB.out | apply below_alloc | apply pw_below_drewN | apply below_drew1 | refine below_set ?_ GE253.out) | exact HB.out)) hb); have n2_ := Aside0.mk (hbox); have n3_ := Aside0.mk ((by rw [hg]; exact (below_size (by repeat (first | (with_reducible first | exact HB.out | apply below_alloc | apply pw_below_drewN | apply below_drew1 | refine below_set ?_ GE253.out) | exact HB.out))) : w.heap.size ≤ gb254)); have n4_ := Aside0.mk ((by rw [hg]; exact (below_size (by repeat (first | (with_reducible first | exact HB.out | apply below_alloc | apply pw_below_drewN | apply below_drew1 | refine below_set ?_ GE253.out) | exact HB.out))) : w.heap.size ≤ gb254)); have n5_ := Aside0.mk ((by rw [hg]; exact Nat.ne_of_lt (blk_lt (g := gb253) (o := .cells #[.int .i64 a0_0, .slice A0_1 l0_1.length c0_1, .slice A0_2 l0_2.length c0_2] 29 (0, 0)) (by (with_reducible repeat (first | refine blk_drewN ?_ _ | refine blk_drew ?_ | refine blk_alloc ?_ _)); exact BK253.out)) : gb253 ≠ gb254)); have n6_ := Aside0.mk ((by rw [hg]; exact Nat.ne_of_gt (blk_lt (g := gb253) (o := .cells #[.int .i64 a0_0, .slice A0_1 l0_1.length c0_1, .slice A0_2 l0_2.length c0_2] 29 (0, 0)) (by (with_reducible repeat (first | refine blk_drewN ?_ _ | refine blk_drew ?_ | refine blk_alloc ?_ _)); exact BK253.out)) : gb254 ≠ gb253)); clear BK253; clear HB; have BK253 := n0_; have HB := n1_; have BK254 := n2_; have GW254 := n3_; have GE254 := n4_; have NB253_254 := n5_; have NB254_253 := n6_; clear n0_ n1_ n2_ n3_ n4_ n5_ n6_; clear hb hbox hg; have hnb15 := NB253_254.out; have hnc15 := NB254_253.out; have hcz16_0 : w14.cell? ⟨gb253, 0, none⟩ = some (.int .i64 a0_0) := (blk_cell BK253.out 0).trans rfl; have hcz16_1 : w14.cell? ⟨gb253, 1, none⟩ = some (.slice A0_1 l0_1.length c0_1) := (blk_cell BK253.out 1).trans rfl; have hcz16_2 : w14.cell? ⟨gb253, 2, none⟩ = some (.slice A0_2 l0_2.length c0_2) := (blk_cell BK253.out 2).trans rfl; have hfz16_0 := blk_frozen BK253.out 0; have hfz16_1 := blk_frozen BK253.out 1; have hfz16_2 := blk_frozen BK253.out 2; have hcz17_0 : w14.cell? ⟨gb254, 0, none⟩ = some (.int .i64 a1_0) := (blk_cell BK254.out 0).trans rfl; have hcz17_1 : w14.cell? ⟨gb254, 1, none⟩ = some (.slice A1_1 l1_1.length c1_1) := (blk_cell BK254.out 1).trans rfl; have hcz17_2 : w14.cell? ⟨gb254, 2, none⟩ = some (.slice A1_2 l1_2.length c1_2) := (blk_cell BK254.out 2).trans rfl; have hfz17_0 := blk_frozen BK254.out 0; have hfz17_1 := blk_frozen BK254.out 1; have hfz17_2 := blk_frozen BK254.out 2) | ((with_reducible refine gate_callee (f := 21) rfl ?_); refine goesL_ (some 14) rfl rfl Try.func21 (by kernel_rfl) rfl #[.slice A0_1 l0_1.length c0_1, .slice A1_1 l1_1.length c1_1] rfl (by (try simp only [List.map_toArray, List.map_cons, List.map_nil]); first | done | rfl | (simp only [List.length_drop, List.length_take]; rfl)) ?_; (with_reducible refine (laws_eqIntSS.calls k _ _ l0_1 _ _ l1_1 true _ ?side1 ?side2 ?side3 ?side4 A4.out).mono ?_); (case side1 => repeat (first | exact (Kd.C_below HR0_1.out HB.out) | (with_reducible refine Kd.C_alloc ?_ _) | (with_reducible refine Kd.C_drewN ?_ _) | (with_reducible refine Kd.C_drew ?_))); (case side2 => exact HC0_1.out); (case side3 => repeat (first | exact (Kd.C_below HR1_1.out HB.out) | (with_reducible refine Kd.C_alloc ?_ _) | (with_reducible refine Kd.C_drewN ?_ _) | (with_reducible refine Kd.C_drew ?_))); (case side4 => exact HC1_1.out); rintro e w' ⟨rfl, ⟨nd, rfl⟩⟩; refine ⟨_, rfl, ?_⟩) | ((with_reducible refine gate_callee (f := 21) rfl ?_); refine goesL_ (some 20) rfl rfl Try.func21 (by kernel_rfl) rfl #[.slice A0_2 l0_2.length c0_2, .slice A1_2 l1_2.length c1_2] rfl (by (try simp only [List.map_toArray, List.map_cons, List.map_nil]); first | done | rfl | (simp only [List.length_drop, List.length_take]; rfl)) ?_; (with_reducible refine (laws_eqIntSS.calls k _ _ l0_2 _ _ l1_2 false _ ?side1 ?side2 ?side3 ?side4 A6.out).mono ?_); (case side1 => repeat (first | exact (Kd.C_below HR0_2.out (by repeat (first | (with_reducible first | exact HB.out | apply below_alloc | apply pw_below_drewN | apply below_drew1 | refine below_set ?_ GE253.out | refine below_set ?_ GE254.out) | exact HB.out))) | (with_reducible refine Kd.C_alloc ?_ _) | (with_reducible refine Kd.C_drewN ?_ _) | (with_reducible refine Kd.C_drew ?_))); (case side2 => exact HC0_2.out); (case side3 => repeat (first | exact (Kd.C_below HR1_2.out (by repeat (first | (with_reducible first | exact HB.out | apply below_alloc | apply pw_below_drewN | apply below_drew1 | refine below_set ?_ GE253.out | refine below_set ?_ GE254.out) | exact HB.out))) | (with_reducible refine Kd.C_alloc ?_ _) | (with_reducible refine Kd.C_drewN ?_ _) | (with_reducible refine Kd.C_drew ?_))); (case side4 => exact HC1_2.out); rintro e w' ⟨rfl, ⟨nd, rfl⟩⟩; refine ⟨_, rfl, ?_⟩))
        go_ret
        exact ⟨by first | rfl | (simp [errW_none, errW_some] <;> rfl) | (simp [*, errW_none, errW_some] <;> rfl), by repeat (first | (with_reducible first | exact HB.out | apply below_alloc | apply pw_below_drewN | apply below_drew1 | refine below_set ?_ GE253.out | refine below_set ?_ GE254.out) | exact HB.out)⟩
    · replace c5 := Bool.eq_false_iff.mpr c5
      subst c5
      have H1 : (some false) = some r := by rw [if_neg (show ¬ (false = true) by decide)] at H; exact H
      clear H
      have H := H1
      clear H1
      obtain rfl := Option.some.inj H
      go_enter Try.func13, Try.ntmps13
      go_wp2_with (first | ((with_reducible refine gate_dst (N := 2) rfl ?_); refine box_event ?hg (N := 2) ?hd (cs := #[.int .i64 a0_0, .slice A0_1 l0_1.length c0_1, .slice A0_2 l0_2.length c0_2]) (t := 29) ?hr ?_; (case hd => rfl); (case hg => rfl); (case hr => first | (go_simp; done) | (go_simp; rfl)); intro gb253 hg w18 hbox hb; have n0_ := Aside0.mk (below_step (by repeat (first | (with_reducible first | exact HB.out | apply below_alloc | apply pw_below_drewN | apply below_drew1) | exact HB.out)) hb); have n1_ := Aside0.mk (hbox); have n2_ := Aside0.mk ((by rw [hg]; exact (below_size (by repeat (first | (with_reducible first | exact HB.out | apply below_alloc | apply pw_below_drewN | apply below_drew1) | exact HB.out))) : w.heap.size ≤ gb253)); have n3_ := Aside0.mk ((by rw [hg]; exact (below_size (by repeat (first | (with_reducible first | exact HB.out | apply below_alloc | apply pw_below_drewN | apply below_drew1) | exact HB.out))) : w.heap.size ≤ gb253)); clear HB; have HB := n0_; have BK253 := n1_; have GW253 := n2_; have GE253 := n3_; clear n0_ n1_ n2_ n3_; clear hb hbox hg) | ((with_reducible refine gate_dst (N := 3) rfl ?_); refine box_event ?hg (N := 3) ?hd (cs := #[.int .i64 a1_0, .slice A1_1 l1_1.length c1_1, .slice A1_2 l1_2.length c1_2]) (t := 29) ?hr ?_; (case hd => rfl); (case hg => rfl); (case hr => first | (go_simp; done) | (go_simp; rfl)); intro gb254 hg w19 hbox hb; have n0_ := Aside0.mk (blk_below (g := gb253) (o := .cells #[.int .i64 a0_0, .slice A0_1 l0_1.length c0_1, .slice A0_2 l0_2.length c0_2] 29 (0, 0)) (by (with_reducible repeat (first | refine blk_drewN ?_ _ | refine blk_drew ?_ | refine blk_alloc ?_ _)); exact BK253.out) hb); have n1_ := Aside0.mk (below_step (by repeat (first | (with_reducible first | exact HB.out | apply below_alloc | apply pw_below_drewN | apply below_drew1 | refine below_set ?_ GE253.out) | exact HB.out)) hb); have n2_ := Aside0.mk (hbox); have n3_ := Aside0.mk ((by rw [hg]; exact (below_size (by repeat (first | (with_reducible first | exact HB.out | apply below_alloc | apply pw_below_drewN | apply below_drew1 | refine below_set ?_ GE253.out) | exact HB.out))) : w.heap.size ≤ gb254)); have n4_ := Aside0.mk ((by rw [hg]; exact (below_size (by repeat (first | (with_reducible first | exact HB.out | apply below_alloc | apply pw_below_drewN | apply below_drew1 | refine below_set ?_ GE253.out) | exact HB.out))) : w.heap.size ≤ gb254)); have n5_ := Aside0.mk ((by rw [hg]; exact Nat.ne_of_lt (blk_lt (g := gb253) (o := .cells #[.int .i64 a0_0, .slice A0_1 l0_1.length c0_1, .slice A0_2 l0_2.length c0_2] 29 (0, 0)) (by (with_reducible repeat (first | refine blk_drewN ?_ _ | refine blk_drew ?_ | refine blk_alloc ?_ _)); exact BK253.out)) : gb253 ≠ gb254)); have n6_ := Aside0.mk ((by rw [hg]; exact Nat.ne_of_gt (blk_lt (g := gb253) (o := .cells #[.int .i64 a0_0, .slice A0_1 l0_1.length c0_1, .slice A0_2 l0_2.length c0_2] 29 (0, 0)) (by (with_reducible repeat (first | refine blk_drewN ?_ _ | refine blk_drew ?_ | refine blk_alloc ?_ _)); exact BK253.out)) : gb254 ≠ gb253)); clear BK253; clear HB; have BK253 := n0_; have HB := n1_; have BK254 := n2_; have GW254 := n3_; have GE254 := n4_; have NB253_254 := n5_; have NB254_253 := n6_; clear n0_ n1_ n2_ n3_ n4_ n5_ n6_; clear hb hbox hg; have hnb20 := NB253_254.out; have hnc20 := NB254_253.out; have hcz21_0 : w19.cell? ⟨gb253, 0, none⟩ = some (.int .i64 a0_0) := (blk_cell BK253.out 0).trans rfl; have hcz21_1 : w19.cell? ⟨gb253, 1, none⟩ = some (.slice A0_1 l0_1.length c0_1) := (blk_cell BK253.out 1).trans rfl; have hcz21_2 : w19.cell? ⟨gb253, 2, none⟩ = some (.slice A0_2 l0_2.length c0_2) := (blk_cell BK253.out 2).trans rfl; have hfz21_0 := blk_frozen BK253.out 0; have hfz21_1 := blk_frozen BK253.out 1; have hfz21_2 := blk_frozen BK253.out 2; have hcz22_0 : w19.cell? ⟨gb254, 0, none⟩ = some (.int .i64 a1_0) := (blk_cell BK254.out 0).trans rfl; have hcz22_1 : w19.cell? ⟨gb254, 1, none⟩ = some (.slice A1_1 l1_1.length c1_1) := (blk_cell BK254.out 1).trans rfl; have hcz22_2 : w19.cell? ⟨gb254, 2, none⟩ = some (.slice A1_2 l1_2.length c1_2) := (blk_cell BK254.out 2).trans rfl; have hfz22_0 := blk_frozen BK254.out 0; have hfz22_1 := blk_frozen BK254.out 1; have hfz22_2 := blk_frozen BK254.out 2) | ((with_reducible refine gate_callee (f := 21) rfl ?_); refine goesL_ (some 14) rfl rfl Try.func21 (by kernel_rfl) rfl #[.slice A0_1 l0_1.length c0_1, .slice A1_1 l1_1.length c1_1] rfl (by (try simp only [List.map_toArray, List.map_cons, List.map_nil]); first | done | rfl | (simp only [List.length_drop, List.length_take]; rfl)) ?_; (with_reducible refine (laws_eqIntSS.calls k _ _ l0_1 _ _ l1_1 false _ ?side1 ?side2 ?side3 ?side4 A4.out).mono ?_); (case side1 => repeat (first | exact (Kd.C_below HR0_1.out HB.out) | (with_reducible refine Kd.C_alloc ?_ _) | (with_reducible refine Kd.C_drewN ?_ _) | (with_reducible refine Kd.C_drew ?_))); (case side2 => exact HC0_1.out); (case side3 => repeat (first | exact (Kd.C_below HR1_1.out HB.out) | (with_reducible refine Kd.C_alloc ?_ _) | (with_reducible refine Kd.C_drewN ?_ _) | (with_reducible refine Kd.C_drew ?_))); (case side4 => exact HC1_1.out); rintro e w' ⟨rfl, ⟨nd, rfl⟩⟩; refine ⟨_, rfl, ?_⟩))
      go_ret
      exact ⟨by first | rfl | (simp [errW_none, errW_some] <;> rfl) | (simp [*, errW_none, errW_some] <;> rfl), by repeat (first | (with_reducible first | exact HB.out | apply below_alloc | apply pw_below_drewN | apply below_drew1 | refine below_set ?_ GE253.out | refine below_set ?_ GE254.out) | exact HB.out)⟩
  · rw [if_neg c3] at H
    have c3b0 : (a0_0 == a1_0) = false := beq_eq_false_iff_ne.mpr c3
    have c3b1 : (a0_0 != a1_0) = true := bne_iff_ne.mpr c3
    obtain rfl := Option.some.inj H
    go_enter Try.func13, Try.ntmps13
    go_wp2_with (first | ((with_reducible refine gate_dst (N := 2) rfl ?_); refine box_event ?hg (N := 2) ?hd (cs := #[.int .i64 a0_0, .slice A0_1 l0_1.length c0_1, .slice A0_2 l0_2.length c0_2]) (t := 29) ?hr ?_; (case hd => rfl); (case hg => rfl); (case hr => first | (go_simp; done) | (go_simp; rfl)); intro gb253 hg w23 hbox hb; have n0_ := Aside0.mk (below_step (by repeat (first | (with_reducible first | exact HB.out | apply below_alloc | apply pw_below_drewN | apply below_drew1) | exact HB.out)) hb); have n1_ := Aside0.mk (hbox); have n2_ := Aside0.mk ((by rw [hg]; exact (below_size (by repeat (first | (with_reducible first | exact HB.out | apply below_alloc | apply pw_below_drewN | apply below_drew1) | exact HB.out))) : w.heap.size ≤ gb253)); have n3_ := Aside0.mk ((by rw [hg]; exact (below_size (by repeat (first | (with_reducible first | exact HB.out | apply below_alloc | apply pw_below_drewN | apply below_drew1) | exact HB.out))) : w.heap.size ≤ gb253)); clear HB; have HB := n0_; have BK253 := n1_; have GW253 := n2_; have GE253 := n3_; clear n0_ n1_ n2_ n3_; clear hb hbox hg) | ((with_reducible refine gate_dst (N := 3) rfl ?_); refine box_event ?hg (N := 3) ?hd (cs := #[.int .i64 a1_0, .slice A1_1 l1_1.length c1_1, .slice A1_2 l1_2.length c1_2]) (t := 29) ?hr ?_; (case hd => rfl); (case hg => rfl); (case hr => first | (go_simp; done) | (go_simp; rfl)); intro gb254 hg w24 hbox hb; have n0_ := Aside0.mk (blk_below (g := gb253) (o := .cells #[.int .i64 a0_0, .slice A0_1 l0_1.length c0_1, .slice A0_2 l0_2.length c0_2] 29 (0, 0)) (by (with_reducible repeat (first | refine blk_drewN ?_ _ | refine blk_drew ?_ | refine blk_alloc ?_ _)); exact BK253.out) hb); have n1_ := Aside0.mk (below_step (by repeat (first | (with_reducible first | exact HB.out | apply below_alloc | apply pw_below_drewN | apply below_drew1 | refine below_set ?_ GE253.out) | exact HB.out)) hb); have n2_ := Aside0.mk (hbox); have n3_ := Aside0.mk ((by rw [hg]; exact (below_size (by repeat (first | (with_reducible first | exact HB.out | apply below_alloc | apply pw_below_drewN | apply below_drew1 | refine below_set ?_ GE253.out) | exact HB.out))) : w.heap.size ≤ gb254)); have n4_ := Aside0.mk ((by rw [hg]; exact (below_size (by repeat (first | (with_reducible first | exact HB.out | apply below_alloc | apply pw_below_drewN | apply below_drew1 | refine below_set ?_ GE253.out) | exact HB.out))) : w.heap.size ≤ gb254)); have n5_ := Aside0.mk ((by rw [hg]; exact Nat.ne_of_lt (blk_lt (g := gb253) (o := .cells #[.int .i64 a0_0, .slice A0_1 l0_1.length c0_1, .slice A0_2 l0_2.length c0_2] 29 (0, 0)) (by (with_reducible repeat (first | refine blk_drewN ?_ _ | refine blk_drew ?_ | refine blk_alloc ?_ _)); exact BK253.out)) : gb253 ≠ gb254)); have n6_ := Aside0.mk ((by rw [hg]; exact Nat.ne_of_gt (blk_lt (g := gb253) (o := .cells #[.int .i64 a0_0, .slice A0_1 l0_1.length c0_1, .slice A0_2 l0_2.length c0_2] 29 (0, 0)) (by (with_reducible repeat (first | refine blk_drewN ?_ _ | refine blk_drew ?_ | refine blk_alloc ?_ _)); exact BK253.out)) : gb254 ≠ gb253)); clear BK253; clear HB; have BK253 := n0_; have HB := n1_; have BK254 := n2_; have GW254 := n3_; have GE254 := n4_; have NB253_254 := n5_; have NB254_253 := n6_; clear n0_ n1_ n2_ n3_ n4_ n5_ n6_; clear hb hbox hg; have hnb25 := NB253_254.out; have hnc25 := NB254_253.out; have hcz26_0 : w24.cell? ⟨gb253, 0, none⟩ = some (.int .i64 a0_0) := (blk_cell BK253.out 0).trans rfl; have hcz26_1 : w24.cell? ⟨gb253, 1, none⟩ = some (.slice A0_1 l0_1.length c0_1) := (blk_cell BK253.out 1).trans rfl; have hcz26_2 : w24.cell? ⟨gb253, 2, none⟩ = some (.slice A0_2 l0_2.length c0_2) := (blk_cell BK253.out 2).trans rfl; have hfz26_0 := blk_frozen BK253.out 0; have hfz26_1 := blk_frozen BK253.out 1; have hfz26_2 := blk_frozen BK253.out 2; have hcz27_0 : w24.cell? ⟨gb254, 0, none⟩ = some (.int .i64 a1_0) := (blk_cell BK254.out 0).trans rfl; have hcz27_1 : w24.cell? ⟨gb254, 1, none⟩ = some (.slice A1_1 l1_1.length c1_1) := (blk_cell BK254.out 1).trans rfl; have hcz27_2 : w24.cell? ⟨gb254, 2, none⟩ = some (.slice A1_2 l1_2.length c1_2) := (blk_cell BK254.out 2).trans rfl; have hfz27_0 := blk_frozen BK254.out 0; have hfz27_1 := blk_frozen BK254.out 1; have hfz27_2 := blk_frozen BK254.out 2))
    go_ret
    exact ⟨by first | rfl | (simp [errW_none, errW_some] <;> rfl) | (simp [*, errW_none, errW_some] <;> rfl), by repeat (first | (with_reducible first | exact HB.out | apply below_alloc | apply pw_below_drewN | apply below_drew1 | refine below_set ?_ GE253.out | refine below_set ?_ GE254.out) | exact HB.out)⟩
end Go.Proofs.Ytobncomimkmoeaa.F
end
section
/- Laid by a program of this claim's own. What the Go function does, as a Lean function, and the proof that the Go code does just that; Lean checks it. -/
namespace Go.Proofs.Ytobncomimkmoeaa.F
open Go.RowKit Go.Proofs.YtobncomimkmoeaaW.PrintWords Go.Proofs.YtobncomimkmoeaaW.PrintLast Go.Proofs.YtobncomimkmoeaaW.PrintMore
attribute [local go_sem] max2_int min2_int max_two min_two max_three min_three max_four min_four   -- for this text's walks alone
set_option linter.unusedVariables false
set_option linter.unusedSimpArgs false
/-! ### laws_markIntS: function 15 -/
def laws_markIntS.l0 : Nat → List Int → Int → Int → Option (Int × List Int)
  | 0, _, _, _ => none
  | k + 1, x0, x1, x5 => if x5 < (x0.length : Int) then (if 0 ≤ x5 then (laws_markIntS.l0 k (x0.set (x5 : Int).toNat x1) (wrap64 (x1 + 1)) (wrap64 (x5 + 1))) else (none)) else (some (x1, x0))
def laws_markIntS.f (k : Nat) (l0 : List Int) (a1 : Int) : Option (Int × List Int) := laws_markIntS.l0 k l0 a1 0
set_option maxHeartbeats 8000000 in
set_option maxRecDepth 100000 in
theorem laws_markIntS.calls (k : Nat) (P0_ : Nat → Prop) (u9000_ : Value) (l0 : List Int) (a1 : Int) (r1 : Int) (r2 : List Int) (w0 w : World) (hB : Below w0.heap.size w0 w) (ho0 : Kd.R (Kd.int .i64) 3 w w0.heap.size P0_ u9000_ l0) (h : laws_markIntS.f k l0 a1 = some (r1, r2)) :
    Calls Try.prog 15 #[u9000_, .int .i64 a1] w fun e w' => e = .returned (.int .i64 r1) ∧ Kd.R (Kd.int .i64) 3 w' w0.heap.size (fun k_ => (P0_ k_ ∨ w.heap.size ≤ k_)) u9000_ r2 ∧ Below w0.heap.size w0 w' ∧ Kept w w' (fun k_ => P0_ k_) := by
  have HO0 := Aside0.mk (show Kd.R (Kd.int .i64) 3 w w0.heap.size (fun k_ => (P0_ k_ ∨ w.heap.size ≤ k_)) u9000_ l0 from Kd.R_mono ho0 (fun k_ hk => (.inl hk)))
  have HK := Aside0.mk (Kept.refl w (fun k_ => P0_ k_))
  have HW0 := Aside0.mk hB.size
  have HB := Aside0.mk hB
  clear hB
  have H : (laws_markIntS.l0 k l0 a1 0) = some (r1, r2) := h
  clear h
  have H' := Aside0.mk H
  clear H
  go_enter Try.func15, Try.ntmps15
  go_wp2
  go_loopg [1, 5] k (fun kq v1 v5 w' => ∃ (x0_1 : List Int) (x1_1 : Int) (x5_1 : Int), v1 = .int .i64 x1_1 ∧ v5 = .int .i64 x5_1 ∧ Aside0 (laws_markIntS.l0 kq x0_1 x1_1 x5_1 = some (r1, r2)) ∧ Aside0 (kq ≤ k) ∧ Aside0 (Kd.R (Kd.int .i64) 3 w' w0.heap.size (fun k_ => (P0_ k_ ∨ w.heap.size ≤ k_)) u9000_ x0_1) ∧ Aside0 (Kept w w' (fun k_ => P0_ k_)) ∧ Aside0 (Below w0.heap.size w0 w'))
  case atStart => exact ⟨(l0), (a1), (0), (by first | rfl | (simp; done) | (simp [*]; done)), (by first | rfl | (simp; done) | (simp [*]; done)), H', ⟨Nat.le_refl _⟩, ⟨by (with_reducible repeat (first | apply Kd.R_alloc | apply Kd.R_drewN | apply Kd.R_drew)); exact HO0.out⟩, ⟨by repeat (first | (with_reducible first | exact HK.out | apply Kept.alloc | apply Kept.drewN | apply Kept.drew) | exact HK.out)⟩, ⟨by repeat (first | (with_reducible first | exact HB.out | apply below_alloc | apply pw_below_drewN | apply below_drew1) | exact HB.out)⟩⟩
  case round =>
    clear H'
    try clear c1
    try clear p2
    obtain ⟨x0_1, x1_1, x5_1, rfl, rfl, HA, HK1, HO_0, HK, HB⟩ := hrel
    cases gk with
    | zero => exact absurd HA.out (by simp [laws_markIntS.l0])
    | succ k1 =>
      have H := HA.out
      clear HA
      simp only [laws_markIntS.l0] at H
      by_cases c3 : x5_1 < (x0_1.length : Int)
      · rw [if_pos c3] at H
        have c3b0 : decide (x5_1 < (x0_1.length : Int)) = true := decide_eq_true c3
        clear c3
        by_cases c4 : 0 ≤ x5_1
        · rw [if_pos c4] at H
          have c4b0 : decide (0 ≤ x5_1) = true := decide_eq_true c4
          clear c4
          obtain ⟨y257, hy257⟩ : ∃ y_ : List Int, y_ = (x0_1.set (x5_1 : Int).toNat x1_1) := ⟨_, rfl⟩
          replace H : (laws_markIntS.l0 k1 y257 (wrap64 (x1_1 + 1)) (wrap64 (x5_1 + 1))) = some (r1, r2) := by first | (rw [hy257]; with_reducible exact H) | (have H2_ := (Option.bind_some _ _).symm.trans H; rw [hy257]; with_reducible exact H2_) | (have H2_ := (Option.bind_some _ _).symm.trans H; with_reducible exact H2_) | with_reducible exact H | (rw [hy257]; exact H) | exact H
          have Ny257 := Aside0.mk hy257
          clear hy257
          have H' := Aside0.mk H
          clear H
          obtain ⟨Ao6, co6, eo6⟩ := Kd.R_slice HO_0.out
          subst eo6
          have p5 : 0 ≤ (x5_1 : Int) := of_decide_eq_true (by first | (with_reducible assumption) | assumption)
          have q5 : (x5_1 : Int) < ((x0_1.length : Int) : Int) := of_decide_eq_true (by first | (with_reducible assumption) | assumption)
          obtain ⟨go5, co5, eo5, gb5, gl5, cl5, HG5⟩ := Kd.R_form HO_0.out (by omega)
          (first | cases eo5 | (injection eo5 with ea_ en_ ec_; (first | subst ea_ | (injection ea_ with ea_; subst ea_)); subst ec_; clear en_))
          have GB5 := Aside0.mk gb5
          have GG5 := Aside0.mk HG5
          clear gb5 gl5 HG5
          have HMgo5 := Aside0.mk (show (P0_ go5 ∨ w.heap.size ≤ go5) from (HO_0.out.1 _ rfl))
          obtain ⟨hx5_0, hf5_0⟩ := Kd.R_celln 0 HO_0.out (x5_1 : Int) p5 q5
          replace p5 := eq_true p5
          replace q5 := eq_true q5
          have HP7 := Kd.R_putg HO_0.out (x5_1 : Int) x1_1
          go_wp2_with (first | ((with_reducible refine gate_store (t := 3) (p := 15) rfl ?_); refine store_event (t := 3) (p := 15) (v := ?vo_w8) (w1 := (wr.setCell ⟨go5, (x5_1 : Int).toNat, none⟩ (.int .i64 x1_1))) ?hg ?ho ?hn ?hr ?_; (case ho => rfl); (case hg => rfl); (case hn => rfl); (case hr => first | (go_simp; done) | (go_simp; rfl)); intro w8 hw; have hg : wr.grownBy w8 (some go5) := (by rw [hw]; exact HP7.2); have hp_ : Kd.R (Kd.int .i64) 3 w8 w0.heap.size (fun k_ => (P0_ k_ ∨ w.heap.size ≤ k_)) (.slice (some ⟨go5, 0, none⟩) x0_1.length co6) y257 := (by rw [hw, Ny257.out]; exact HP7.1); clear HP7; have n0_ := Aside0.mk (hp_); have n1_ := Aside0.mk ((by rw [hw]; exact below_set (HB.out) GB5.out : Below w0.heap.size w0 w8)); have n2_ := Aside0.mk (Kept.of_grown (S := (fun k_ => P0_ k_)) hg (by repeat (first | (with_reducible first | exact HK.out | apply Kept.alloc | apply Kept.drewN | apply Kept.drew) | exact HK.out)) (fun k_ e_ => (HO_0.out.1 k_ e_))); clear HO_0; clear HB; clear HK; have HO_0 := n0_; have HB := n1_; have HK := n2_; clear n0_ n1_ n2_; clear hg hw hp_))
          go_roundg k1
          case measure => have := HK1.out; omega
          case rel => exact ⟨(y257), (wrap64 (x1_1 + 1)), (wrap64 (x5_1 + 1)), (by first | rfl | (simp; done) | (simp [*]; done)), (by first | rfl | (simp; done) | (simp [*]; done)), H', ⟨by have := HK1.out; omega⟩, ⟨by (with_reducible repeat (first | apply Kd.R_alloc | apply Kd.R_drewN | apply Kd.R_drew)); exact HO_0.out⟩, ⟨by repeat (first | (with_reducible first | exact HK.out | apply Kept.alloc | apply Kept.drewN | apply Kept.drew) | exact HK.out)⟩, ⟨by repeat (first | (with_reducible first | exact HB.out | apply below_alloc | apply pw_below_drewN | apply below_drew1) | exact HB.out)⟩⟩
        · rw [if_neg c4] at H
          exact absurd H (by simp)
      · rw [if_neg c3] at H
        have c3b0 : decide (x5_1 < (x0_1.length : Int)) = false := decide_eq_false c3
        clear c3
        simp only [Option.some.injEq, Prod.mk.injEq] at H
        obtain ⟨rfl, rfl⟩ := H
        obtain ⟨Ao9, co9, eo9⟩ := Kd.R_slice HO_0.out
        subst eo9
        go_wp2
        go_ret
        exact ⟨by first | rfl | (simp [errW_none, errW_some] <;> rfl) | (simp [*, errW_none, errW_some] <;> rfl), by (with_reducible repeat (first | apply Kd.R_alloc | apply Kd.R_drewN | apply Kd.R_drew)); exact HO_0.out, by repeat (first | (with_reducible first | exact HB.out | apply below_alloc | apply pw_below_drewN | apply below_drew1) | exact HB.out), by repeat (first | (with_reducible first | exact HK.out | apply Kept.alloc | apply Kept.drewN | apply Kept.drew) | exact HK.out)⟩
end Go.Proofs.Ytobncomimkmoeaa.F
end
section
/- Laid by a program of this claim's own. What the Go function does, as a Lean function, and the proof that the Go code does just that; Lean checks it. -/
namespace Go.Proofs.Ytobncomimkmoeaa.F
open Go.RowKit Go.Proofs.YtobncomimkmoeaaW.PrintWords Go.Proofs.YtobncomimkmoeaaW.PrintLast Go.Proofs.YtobncomimkmoeaaW.PrintMore
attribute [local go_sem] max2_int min2_int max_two min_two max_three min_three max_four min_four   -- for this text's walks alone
set_option linter.unusedVariables false
set_option linter.unusedSimpArgs false
/-! ### laws_markIntSS: function 22 -/
def laws_markIntSS.l0 : Nat → List (List Int) → Int → Int → Option (Int × List (List Int))
  | 0, _, _, _ => none
  | k + 1, x0, x1, x5 => if x5 < (x0.length : Int) then (if 0 ≤ x5 then ((laws_markIntS.f k (x0.getD x5.toNat []) x1).bind fun b => (laws_markIntSS.l0 k (x0.set x5.toNat b.2) b.1 (wrap64 (x5 + 1)))) else (none)) else (some (x1, x0))
def laws_markIntSS.f (k : Nat) (l0 : List (List Int)) (a1 : Int) : Option (Int × List (List Int)) := laws_markIntSS.l0 k l0 a1 0
set_option maxHeartbeats 8000000 in
set_option maxRecDepth 100000 in
theorem laws_markIntSS.calls (k : Nat) (P0_ : Nat → Prop) (u9000_ : Value) (l0 : List (List Int)) (a1 : Int) (r1 : Int) (r2 : List (List Int)) (w0 w : World) (hB : Below w0.heap.size w0 w) (ho0 : Kd.S (Kd.slice 3 (Kd.int .i64)) 25 w w0.heap.size P0_ u9000_ l0) (h : laws_markIntSS.f k l0 a1 = some (r1, r2)) :
    Calls Try.prog 22 #[u9000_, .int .i64 a1] w fun e w' => e = .returned (.int .i64 r1) ∧ Kd.S (Kd.slice 3 (Kd.int .i64)) 25 w' w0.heap.size (fun k_ => (P0_ k_ ∨ w.heap.size ≤ k_)) u9000_ r2 ∧ Below w0.heap.size w0 w' ∧ Kept w w' (fun k_ => P0_ k_) := by
  obtain ⟨A0, c0, rfl⟩ := Kd.S_slice ho0
  have HO := Aside0.mk (Kd.S_mono ho0 (ok' := fun k_ => (P0_ k_ ∨ w.heap.size ≤ k_)) (fun _ hk => .inl hk))
  have HB := Aside0.mk hB
  have H' := Aside0.mk h
  clear ho0 hB h
  go_enter Try.func22, Try.ntmps22
  go_wp2
  go_loopg [1, 5] k (fun kq v1 v5 w' => ∃ (x1 x5 : Int) (xs : List (List Int)), v1 = .int .i64 x1 ∧ v5 = .int .i64 x5 ∧ Aside0 (laws_markIntSS.l0 kq xs x1 x5 = some (r1, r2)) ∧ Aside0 (kq ≤ k) ∧ Aside0 (xs.length = l0.length) ∧ Aside0 (Kd.S (Kd.slice 3 (Kd.int .i64)) 25 w' w0.heap.size (fun k_ => (P0_ k_ ∨ w.heap.size ≤ k_)) (.slice A0 l0.length c0) xs) ∧ Aside0 (Below w0.heap.size w0 w') ∧ Aside0 (Kept w w' (fun k_ => P0_ k_)))
  case atStart => exact ⟨a1, 0, l0, rfl, rfl, H', ⟨Nat.le_refl _⟩, ⟨rfl⟩, HO, HB, ⟨Kept.refl w _⟩⟩
  case round =>
    clear H' HO HB
    obtain ⟨x1, x5, xs, rfl, rfl, HA, HK1, HL, HO, HB, HK⟩ := hrel
    cases gk with
    | zero => exact absurd HA.out (by simp [laws_markIntSS.l0])
    | succ k1 =>
      have H := HA.out
      clear HA
      simp only [laws_markIntSS.l0] at H
      by_cases c4 : x5 < (xs.length : Int)
      · rw [if_pos c4] at H
        by_cases c5 : 0 ≤ x5
        · rw [if_pos c5] at H
          replace H := Option.bind_eq_some_iff.mp H
          obtain ⟨⟨b1, b2⟩, A7, H⟩ := H
          have A8 := Aside0.mk A7
          have H' := Aside0.mk H
          clear A7 H
          have c4' : x5 < (l0.length : Int) := by have := HL.out; omega
          obtain ⟨ad, ead, _⟩ := (Kd.S_reads' HO.out).2.2.2.2 (by have := HL.out; omega)
          cases ead
          obtain ⟨g, rfl⟩ := Kd.R_head (Kd.S_R HO.out)
          obtain ⟨oki, c, hcl, hM, hcc, hoki, hH⟩ := Kd.S_lend HO.out [] x5 c5 (by omega)
          obtain ⟨u, rfl, hR⟩ := hM
          have hcell := hcc 0 u rfl
          have hcell2 : wr.cell? ⟨g, x5.toNat, none⟩ = some u := by simpa [Kd.slice] using hcell
          have HH := Aside0.mk hH
          have HRR := Aside0.mk hR
          have HOKI := Aside0.mk hoki
          clear hcl hcc hoki hH hR hcell
          have c4b0 : decide (x5 < (l0.length : Int)) = true := decide_eq_true c4'
          have c5b0 : decide (0 ≤ x5) = true := decide_eq_true c5
          replace c4' := eq_true c4'
          have HX := Aside0.mk c4
          have HY := Aside0.mk c5
          clear c4
          replace c5 := eq_true c5
          go_wp2_with (go_at_call 15; (with_reducible refine (laws_markIntS.calls k1 oki u (xs.getD x5.toNat []) x1 b1 b2 w0 _ ?side1 ?side2 A8.out).mono ?_); (case side1 => exact HB.out); (case side2 => exact HRR.out); rintro e w7 ⟨rfl, hr7, hb7, hk7⟩; have HR7 := Aside0.mk hr7; have HB7 := Aside0.mk hb7; have HK7 := Aside0.mk hk7; clear hr7 hb7 hk7)
          go_roundg k1
          case measure => have := HK1.out; omega
          case rel =>
            have hsz : w.heap.size ≤ wr.heap.size := HK.out.1
            have hwide := Kd.H_widen HH.out
            have hstep := Kd.H_step hwide (w1 := w7) (fun k_ ho hn hlt => HK7.out.2 k_ hlt (fun hk => hn (.inl hk)))
            have hback := Kd.H_back hstep (x' := b2) (okp := fun k_ => (oki k_ ∨ wr.heap.size ≤ k_)) (Kd.M_row HR7.out) (fun k_ hk => hk.elim .inl (fun h2 => .inr ⟨.inr (Nat.le_trans hsz h2), h2⟩))
            have hkept : Kept w w7 (fun k_ => P0_ k_) := HK.out.then_ HK7.out (fun k_ hk => (HOKI.out k_ hk).1)
            exact ⟨b1, wrap64 (x5 + 1), xs.set x5.toNat b2, rfl, rfl, H', ⟨by have := HK1.out; omega⟩, ⟨by rw [List.length_set]; exact HL.out⟩, ⟨hback⟩, ⟨HB7.out⟩, ⟨hkept⟩⟩
        · rw [if_neg c5] at H
          exact absurd H (by simp)
      · rw [if_neg c4] at H
        simp only [Option.some.injEq, Prod.mk.injEq] at H
        obtain ⟨rfl, rfl⟩ := H
        have c4' : ¬ x5 < (l0.length : Int) := by have := HL.out; omega
        have c4b0 : decide (x5 < (l0.length : Int)) = false := decide_eq_false c4'
        clear c4 c4'
        go_wp2
        go_ret
        exact ⟨rfl, HO.out, HB.out, HK.out⟩
end Go.Proofs.Ytobncomimkmoeaa.F
end
section
/- Laid by a program of this claim's own. What the Go function does, as a Lean function, and the proof that the Go code does just that; Lean checks it. -/
namespace Go.Proofs.Ytobncomimkmoeaa.F
open Go.RowKit Go.Proofs.YtobncomimkmoeaaW.PrintWords Go.Proofs.YtobncomimkmoeaaW.PrintLast Go.Proofs.YtobncomimkmoeaaW.PrintMore
attribute [local go_sem] max2_int min2_int max_two min_two max_three min_three max_four min_four   -- for this text's walks alone
set_option linter.unusedVariables false
set_option linter.unusedSimpArgs false
/-! ### laws_markCode: function 14 -/
theorem Whole.below {w w' : World} {g : Nat} {t : TypeId} {cs : Array Value} (h : Whole w g t cs) (hb : Below w.heap.size w w') : Whole w' g t cs := (hb.block g (Whole.lt h)).trans h
theorem Whole.kept {w w' : World} {g : Nat} {t : TypeId} {cs : Array Value} {P : Nat → Prop} (h : Whole w g t cs) (hk : Kept w w' P) (hn : ¬ P g) : Whole w' g t cs := (hk.2 g (Whole.lt h) hn).trans h
theorem S_keep {α : Type} {d : Kd α} {e base : Nat} {W W1 : World} {ok P : Nat → Prop} {v : Value} {xs : List α} (h : Kd.S d e W base ok v xs) (hk : Kept W W1 P) (hP : ∀ k, ok k → base ≤ k → k < W.heap.size → ¬ P k) : Kd.S d e W1 base ok v xs :=
  Kd.S_mono (Kd.S_step (Kd.S_bound h) (fun k ho hlt => hk.2 k hlt (hP k ho.1 ho.2.1 hlt))) (fun _ hk => hk.1)
theorem R_keep {α : Type} {d : Kd α} {e base : Nat} {W W1 : World} {ok P : Nat → Prop} {v : Value} {xs : List α} (h : Kd.R d e W base ok v xs) (hk : Kept W W1 P) (hP : ∀ k, ok k → base ≤ k → k < W.heap.size → ¬ P k) : Kd.R d e W1 base ok v xs :=
  Kd.R_mono (Kd.R_step (Kd.R_bound h) (fun k ho hlt => hk.2 k hlt (hP k ho.1 ho.2.1 hlt))) (fun _ hk => hk.1)
set_option maxHeartbeats 8000000 in
set_option maxRecDepth 100000 in
/-- Marks on a code whose two rows of rows lie apart. -/
theorem laws_markCode.calls (k : Nat) (P1 P2 : Nat → Prop) (a0 : Int) (A1 : Option Addr) (c1 : Nat) (l1 : List (List Int)) (A2 : Option Addr) (c2 : Nat) (l2 : List (List Int)) (a m1 m2 : Int) (l1' l2' : List (List Int)) (w0 w : World) (hB : Below w0.heap.size w0 w)
    (h1 : Kd.S (Kd.slice 3 (Kd.int .i64)) 25 w w0.heap.size P1 (.slice A1 l1.length c1) l1) (h2 : Kd.S (Kd.slice 3 (Kd.int .i64)) 25 w w0.heap.size P2 (.slice A2 l2.length c2) l2) (hdis : ∀ k, P1 k → ¬ P2 k) (hP1 : ∀ k, P1 k → k < w.heap.size) (hP2 : ∀ k, P2 k → k < w.heap.size)
    (hM1 : laws_markIntSS.f k l1 a = some (m1, l1')) (hM2 : laws_markIntSS.f k l2 m1 = some (m2, l2')) :
    Calls Try.prog 14 #[.agg #[.int .i64 a0, .slice A1 l1.length c1, .slice A2 l2.length c2], .int .i64 a] w fun e w' => e = .returned (.int .i64 m2) ∧ Below w0.heap.size w0 w' ∧ Kept w w' (fun k_ => P1 k_ ∨ P2 k_) := by
  have HB := Aside0.mk hB
  have H1 := Aside0.mk h1
  have H2 := Aside0.mk h2
  have HD := Aside0.mk hdis
  have HP1 := Aside0.mk hP1
  have HP2 := Aside0.mk hP2
  have A1_ := Aside0.mk hM1
  have A2_ := Aside0.mk hM2
  clear hB h1 h2 hdis hP1 hP2 hM1 hM2
  go_enter Try.func14, Try.ntmps14
  go_wp2_with (first
    | ((with_reducible refine gate_dst (N := 2) rfl ?_); (try (refine gate_guard (by rfl) ?_; dsimp only)); refine box_event ?hg (N := 2) ?hd (cs := #[.int .i64 a0, .slice A1 l1.length c1, .slice A2 l2.length c2]) (t := 29) ?hr ?_; (case hd => rfl); (case hg => rfl); (case hr => first | (go_simp; done) | (go_simp; rfl)); intro gB hg w1 hbox hb; have GE := Aside0.mk (show w.heap.size ≤ gB by omega); have BK := Aside0.mk (show Whole w1 gB 29 #[.int .i64 a0, .slice A1 l1.length c1, .slice A2 l2.length c2] from hbox); have B1 := Aside0.mk hb; have cx1 : w1.cell? ⟨gB, 1, none⟩ = some (.slice A1 l1.length c1) := (Whole.cell BK.out 1).trans rfl; have cx2 : w1.cell? ⟨gB, 2, none⟩ = some (.slice A2 l2.length c2) := (Whole.cell BK.out 2).trans rfl; clear hg hbox hb)
    | (go_at_call 22; (with_reducible refine (laws_markIntSS.calls k P1 (.slice A1 l1.length c1) l1 a m1 l1' w0 _ ?s1 ?s2 A1_.out).mono ?_); (case s1 => exact below_step HB.out B1.out); (case s2 => exact Kd.S_below H1.out B1.out); rintro e w2 ⟨rfl, ho, hb, hk⟩; have B2 := Aside0.mk hb; have K2 := Aside0.mk hk; have BK2 := Aside0.mk (Whole.kept BK.out hk (fun hp => by have h8 := HP1.out _ hp; have h9 := GE.out; omega)); clear cx1 cx2; have cx1 : w2.cell? ⟨gB, 1, none⟩ = some (.slice A1 l1.length c1) := (Whole.cell BK2.out 1).trans rfl; have cx2 : w2.cell? ⟨gB, 2, none⟩ = some (.slice A2 l2.length c2) := (Whole.cell BK2.out 2).trans rfl; clear ho hb hk)
    | (go_at_call 22; (with_reducible refine (laws_markIntSS.calls k P2 (.slice A2 l2.length c2) l2 m1 m2 l2' w0 _ ?s1 ?s2 A2_.out).mono ?_); (case s1 => exact B2.out); (case s2 => exact S_keep (Kd.S_below H2.out B1.out) K2.out (fun i h2_ _ _ h1_ => HD.out i h1_ h2_)); rintro e w3 ⟨rfl, ho, hb, hk⟩; have B3 := Aside0.mk hb; have K3 := Aside0.mk hk; clear ho hb hk))
  go_ret
  exact ⟨rfl, B3.out, Nat.le_trans B1.out.size (Nat.le_trans K2.out.1 K3.out.1), fun i hlt hn => (K3.out.2 i (Nat.lt_of_lt_of_le hlt (Nat.le_trans B1.out.size K2.out.1)) (fun h => hn (.inr h))).trans ((K2.out.2 i (Nat.lt_of_lt_of_le hlt B1.out.size) (fun h => hn (.inl h))).trans (B1.out.block i hlt))⟩
end Go.Proofs.Ytobncomimkmoeaa.F
end
section
/- Laid by a program of this claim's own. What the Go function does, as a Lean function, and the proof that the Go code does just that; Lean checks it. -/
namespace Go.Proofs.Ytobncomimkmoeaa.F
open Go.RowKit Go.Proofs.YtobncomimkmoeaaW.PrintWords Go.Proofs.YtobncomimkmoeaaW.PrintLast Go.Proofs.YtobncomimkmoeaaW.PrintMore
attribute [local go_sem] max2_int min2_int max_two min_two max_three min_three max_four min_four   -- for this text's walks alone
set_option linter.unusedVariables false
set_option linter.unusedSimpArgs false
/-! ### laws_heldIntS: function 16 -/
def laws_heldIntS.l0 : Nat → List Int → Int → Int → Option (Int)
  | 0, _, _, _ => none
  | k + 1, x0, x1, x5 => if x5 < (x0.length : Int) then (if 0 ≤ x5 then (if (rd x0 x5) = x1 then (laws_heldIntS.l0 k x0 (wrap64 (x1 + 1)) (wrap64 (x5 + 1))) else (some (-1))) else (none)) else (some x1)
def laws_heldIntS.f (k : Nat) (l0 : List Int) (a1 : Int) : Option (Int) := laws_heldIntS.l0 k l0 a1 0
set_option maxHeartbeats 8000000 in
set_option maxRecDepth 100000 in
theorem laws_heldIntS.calls (k : Nat) (A0 : Option Addr) (c0 : Nat) (l0 : List Int) (a1 : Int) (r : Int) (w : World) (hr0 : Kd.C (Kd.int .i64) w A0 l0.length l0) (hc0 : l0.length ≤ c0) (h : laws_heldIntS.f k l0 a1 = some r) :
    Calls Try.prog 16 #[.slice A0 l0.length c0, .int .i64 a1] w fun e w' => e = .returned (.int .i64 r) ∧ Drawn0 w w' := by
  have HR0 := Aside0.mk hr0
  have HC0 := Aside0.mk hc0
  clear hr0 hc0
  have H : (laws_heldIntS.l0 k l0 a1 0) = some r := h
  clear h
  have H' := Aside0.mk H
  clear H
  go_enter Try.func16, Try.ntmps16
  go_wp2
  go_loopg [1, 5] k (fun kq v1 v5 w' => ∃ (x1_1 : Int) (x5_1 : Int), v1 = .int .i64 x1_1 ∧ v5 = .int .i64 x5_1 ∧ Aside0 (laws_heldIntS.l0 kq l0 x1_1 x5_1 = some r) ∧ Aside0 (kq ≤ k) ∧ Drawn0 w w')
  case atStart => exact ⟨(a1), (0), (by first | rfl | (simp; done) | (simp [*]; done)), (by first | rfl | (simp; done) | (simp [*]; done)), H', ⟨Nat.le_refl _⟩, by repeat (first | exact Drawn0.refl _ | apply Drawn0.step)⟩
  case round =>
    clear H'
    try clear c1
    try clear p2
    obtain ⟨x1_1, x5_1, rfl, rfl, HA, HK1, ⟨m1, rfl⟩⟩ := hrel
    cases gk with
    | zero => exact absurd HA.out (by simp [laws_heldIntS.l0])
    | succ k1 =>
      have H := HA.out
      clear HA
      simp only [laws_heldIntS.l0] at H
      by_cases c3 : x5_1 < (l0.length : Int)
      · rw [if_pos c3] at H
        have c3b0 : decide (x5_1 < (l0.length : Int)) = true := decide_eq_true c3
        clear c3
        by_cases c4 : 0 ≤ x5_1
        · rw [if_pos c4] at H
          have c4b0 : decide (0 ≤ x5_1) = true := decide_eq_true c4
          clear c4
          by_cases c5 : (rd l0 x5_1) = x1_1
          · rw [if_pos c5] at H
            have c5b0 : ((rd l0 x5_1) == x1_1) = true := beq_iff_eq.mpr c5
            have c5b1 : ((rd l0 x5_1) != x1_1) = false := bne_eq_false_iff_eq.mpr c5
            clear c5
            have H' := Aside0.mk H
            clear H
            have p258 : 0 ≤ (x5_1 : Int) := of_decide_eq_true (by first | (with_reducible assumption) | assumption)
            have q258 : x5_1 < (l0.length : Int) := of_decide_eq_true (by first | (with_reducible assumption) | assumption)
            obtain ⟨ad258, e258, hx258_0⟩ := Kd.at_int HR0.out x5_1 p258 q258
            cases e258
            replace p258 := eq_true p258
            replace q258 := eq_true q258
            go_wp2
            go_roundg k1
            case measure => have := HK1.out; omega
            case rel => exact ⟨(wrap64 (x1_1 + 1)), (wrap64 (x5_1 + 1)), (by first | rfl | (simp; done) | (simp [*]; done)), (by first | rfl | (simp; done) | (simp [*]; done)), H', ⟨by have := HK1.out; omega⟩, by repeat (first | exact Drawn0.refl _ | apply Drawn0.step)⟩
          · rw [if_neg c5] at H
            have c5b0 : ((rd l0 x5_1) == x1_1) = false := beq_eq_false_iff_ne.mpr c5
            have c5b1 : ((rd l0 x5_1) != x1_1) = true := bne_iff_ne.mpr c5
            obtain rfl := Option.some.inj H
            have p258 : 0 ≤ (x5_1 : Int) := of_decide_eq_true (by first | (with_reducible assumption) | assumption)
            have q258 : x5_1 < (l0.length : Int) := of_decide_eq_true (by first | (with_reducible assumption) | assumption)
            obtain ⟨ad258, e258, hx258_0⟩ := Kd.at_int HR0.out x5_1 p258 q258
            cases e258
            replace p258 := eq_true p258
            replace q258 := eq_true q258
            go_wp2
            go_ret
            exact ⟨by first | rfl | (simp; done) | (simp [*]; done), by repeat (first | exact Drawn0.refl _ | apply Drawn0.step)⟩
        · rw [if_neg c4] at H
          exact absurd H (by simp)
      · rw [if_neg c3] at H
        have c3b0 : decide (x5_1 < (l0.length : Int)) = false := decide_eq_false c3
        clear c3
        obtain rfl := Option.some.inj H
        go_wp2
        go_ret
        exact ⟨by first | rfl | (simp; done) | (simp [*]; done), by repeat (first | exact Drawn0.refl _ | apply Drawn0.step)⟩
end Go.Proofs.Ytobncomimkmoeaa.F
end
section
/- Laid by a program of this claim's own. What the Go function does, as a Lean function, and the proof that the Go code does just that; Lean checks it. -/
namespace Go.Proofs.Ytobncomimkmoeaa.F
open Go.RowKit Go.Proofs.YtobncomimkmoeaaW.PrintWords Go.Proofs.YtobncomimkmoeaaW.PrintLast Go.Proofs.YtobncomimkmoeaaW.PrintMore
attribute [local go_sem] max2_int min2_int max_two min_two max_three min_three max_four min_four   -- for this text's walks alone
set_option linter.unusedVariables false
set_option linter.unusedSimpArgs false
/-! ### laws_FnExactEncode: function 3 -/
/-- What is to be shown of numbers and lists: both functions make the same; marks that are laid are held. -/
def laws_FnExactEncode.f (k : Nat) (a0_0 : Int) (l0_1 : List (List Int)) (l0_2 : List (List Int)) (l1 : List Int) : Option Bool :=
  if (l1.length : Int) > 1048576 then some true else
  (laws_szCode.f k a0_0 l0_1 l0_2 1048576).bind fun s => if s < 0 then some true else
  (laws_toCode.f k a0_0 l0_1 l0_2).bind fun C => (laws_toIntS.f k l1).bind fun Y => (spec_Encode.f k C.1 C.2.1 C.2.2 Y).bind fun R =>
  (laws_markIntSS.f k C.2.1 1).bind fun M1 => (laws_markIntSS.f k C.2.2 M1.1).bind fun M2 => (laws_markIntS.f k Y M2.1).bind fun M3 => (laws_markIntS.f k R.1 1).bind fun m =>
    if impl_Encode.f k C.1 C.2.1 C.2.2 Y = some R ∧ laws_eqIntS.f k R.1 R.1 = some true ∧ laws_eqCode.f k C.1 C.2.1 C.2.2 C.1 C.2.1 C.2.2 = some true ∧ laws_eqIntS.f k Y Y = some true ∧ 0 ≤ M3.1 ∧ 0 ≤ m.1 ∧ laws_heldIntS.f k m.2 1 = some m.1 then some true else none
set_option maxHeartbeats 32000000 in
set_option maxRecDepth 100000 in
theorem laws_FnExactEncode.calls_long (a0_0 : Int) (A0_1 : Option Addr) (c0_1 : Nat) (l0_1 : List (List Int)) (A0_2 : Option Addr) (c0_2 : Nat) (l0_2 : List (List Int)) (A1 : Option Addr) (c1 : Nat) (l1 : List Int) (w : World) (hbig : (l1.length : Int) > 1048576) :
    Calls Try.prog 3 #[.agg #[.int .i64 a0_0, .slice A0_1 l0_1.length c0_1, .slice A0_2 l0_2.length c0_2], .slice A1 l1.length c1] w fun e w' => e = .returned (.bool true) ∧ Below w.heap.size w w' := by
  have h1 : decide (1048576 < l1.length) = true := decide_eq_true (by omega)
  have h2 : decide (1048576 < (l1.length : Int)) = true := decide_eq_true (by omega)
  clear hbig
  go_enter Try.func3, Try.ntmps3
  go_wp2_with ((with_reducible refine gate_dst (N := 2) rfl ?_); (try (refine gate_guard (by rfl) ?_; dsimp only)); refine box_event ?hg (N := 2) ?hd (cs := #[.int .i64 a0_0, .slice A0_1 l0_1.length c0_1, .slice A0_2 l0_2.length c0_2]) (t := 24) ?hr ?_; (case hd => rfl); (case hg => rfl); (case hr => first | (go_simp; done) | (go_simp; rfl)); intro gA hg wA hbox hb; have GA := Aside0.mk hg; have BA0 := Aside0.mk (show Whole wA gA 24 #[.int .i64 a0_0, .slice A0_1 l0_1.length c0_1, .slice A0_2 l0_2.length c0_2] from hbox); have D0 := Aside0.mk hb; have ca0 : wA.cell? ⟨gA, 0, none⟩ = some (.int .i64 a0_0) := (Whole.cell BA0.out 0).trans rfl; have ca1 : wA.cell? ⟨gA, 1, none⟩ = some (.slice A0_1 l0_1.length c0_1) := (Whole.cell BA0.out 1).trans rfl; have ca2 : wA.cell? ⟨gA, 2, none⟩ = some (.slice A0_2 l0_2.length c0_2) := (Whole.cell BA0.out 2).trans rfl; clear hb hbox hg)
  go_ret
  exact ⟨rfl, D0.out⟩
set_option maxHeartbeats 32000000 in
set_option maxRecDepth 100000 in
theorem laws_FnExactEncode.calls_big (k : Nat) (a0_0 : Int) (A0_1 : Option Addr) (c0_1 : Nat) (l0_1 : List (List Int)) (A0_2 : Option Addr) (c0_2 : Nat) (l0_2 : List (List Int)) (A1 : Option Addr) (c1 : Nat) (l1 : List Int) (s : Int) (w : World) (hr0_1 : Kd.C (Kd.slice 3 (Kd.int .i64)) w A0_1 l0_1.length l0_1) (hc0_1 : l0_1.length ≤ c0_1) (hr0_2 : Kd.C (Kd.slice 3 (Kd.int .i64)) w A0_2 l0_2.length l0_2) (hc0_2 : l0_2.length ≤ c0_2) (hr1 : Kd.C (Kd.int .i64) w A1 l1.length l1) (hc1 : l1.length ≤ c1) (hle : ¬ (l1.length : Int) > 1048576) (hs : laws_szCode.f k a0_0 l0_1 l0_2 1048576 = some s) (hneg : s < 0) :
    Calls Try.prog 3 #[.agg #[.int .i64 a0_0, .slice A0_1 l0_1.length c0_1, .slice A0_2 l0_2.length c0_2], .slice A1 l1.length c1] w fun e w' => e = .returned (.bool true) ∧ Below w.heap.size w w' := by
  have HR1 := Aside0.mk hr0_1
  have HC1 := Aside0.mk hc0_1
  have HR2 := Aside0.mk hr0_2
  have HC2 := Aside0.mk hc0_2
  have HR3 := Aside0.mk hr1
  have HC3 := Aside0.mk hc1
  have HSZ := Aside0.mk hs
  have g1 : decide (s < 0) = true := decide_eq_true hneg
  have g7 : decide (1048576 < l1.length) = false := decide_eq_false (by omega)
  have g8 : decide (1048576 < (l1.length : Int)) = false := decide_eq_false (by omega)
  clear hr0_1 hc0_1 hr0_2 hc0_2 hr1 hc1 hs hneg hle
  go_enter Try.func3, Try.ntmps3
  go_wp2_with (first
    | ((with_reducible refine gate_dst (N := 2) rfl ?_); (try (refine gate_guard (by rfl) ?_; dsimp only)); refine box_event ?hg (N := 2) ?hd (cs := #[.int .i64 a0_0, .slice A0_1 l0_1.length c0_1, .slice A0_2 l0_2.length c0_2]) (t := 24) ?hr ?_; (case hd => rfl); (case hg => rfl); (case hr => first | (go_simp; done) | (go_simp; rfl)); intro gA hg wA hbox hb; have GA := Aside0.mk hg; have BA0 := Aside0.mk (show Whole wA gA 24 #[.int .i64 a0_0, .slice A0_1 l0_1.length c0_1, .slice A0_2 l0_2.length c0_2] from hbox); have D0 := Aside0.mk hb; have ca0 : wA.cell? ⟨gA, 0, none⟩ = some (.int .i64 a0_0) := (Whole.cell BA0.out 0).trans rfl; have ca1 : wA.cell? ⟨gA, 1, none⟩ = some (.slice A0_1 l0_1.length c0_1) := (Whole.cell BA0.out 1).trans rfl; have ca2 : wA.cell? ⟨gA, 2, none⟩ = some (.slice A0_2 l0_2.length c0_2) := (Whole.cell BA0.out 2).trans rfl; clear hb hbox hg)
    | (go_at_call 7; (with_reducible refine (laws_szCode.calls k a0_0 A0_1 c0_1 l0_1 A0_2 c0_2 l0_2 1048576 s _ (Kd.C_below HR1.out D0.out) HC1.out (Kd.C_below HR2.out D0.out) HC2.out HSZ.out).mono ?_); rintro e w1 ⟨rfl, hb⟩; have D1 := Aside0.mk (below_step D0.out hb); clear hb))
  go_ret
  exact ⟨rfl, D1.out⟩
set_option maxHeartbeats 32000000 in
set_option maxRecDepth 100000 in
theorem laws_FnExactEncode.calls_in (k : Nat) (a0_0 : Int) (A0_1 : Option Addr) (c0_1 : Nat) (l0_1 : List (List Int)) (A0_2 : Option Addr) (c0_2 : Nat) (l0_2 : List (List Int)) (A1 : Option Addr) (c1 : Nat) (l1 : List Int) (w : World) (hr0_1 : Kd.C (Kd.slice 3 (Kd.int .i64)) w A0_1 l0_1.length l0_1) (hc0_1 : l0_1.length ≤ c0_1) (hr0_2 : Kd.C (Kd.slice 3 (Kd.int .i64)) w A0_2 l0_2.length l0_2) (hc0_2 : l0_2.length ≤ c0_2) (hr1 : Kd.C (Kd.int .i64) w A1 l1.length l1) (hc1 : l1.length ≤ c1) (hle : ¬ (l1.length : Int) > 1048576) (s : Int) (hsz : laws_szCode.f k a0_0 l0_1 l0_2 1048576 = some s) (hneg : ¬ s < 0) (C0 : Int) (H S : List (List Int)) (ht : laws_toCode.f k a0_0 l0_1 l0_2 = some (C0, H, S)) (Y : List Int) (hy : laws_toIntS.f k l1 = some Y) (r : List Int) (b : Bool) (hs : spec_Encode.f k C0 H S Y = some (r, b)) (M1 : Int) (H' : List (List Int)) (hM1 : laws_markIntSS.f k H 1 = some (M1, H')) (M2 : Int) (S' : List (List Int)) (hM2 : laws_markIntSS.f k S M1 = some (M2, S')) (M3 : Int) (Y' : List Int) (hM3 : laws_markIntS.f k Y M2 = some (M3, Y')) (m1 : Int) (m2 : List Int) (hm : laws_markIntS.f k r 1 = some (m1, m2)) (hi : impl_Encode.f k C0 H S Y = some (r, b)) (he : laws_eqIntS.f k r r = some true) (hq : laws_eqCode.f k C0 H S C0 H S = some true) (hqy : laws_eqIntS.f k Y Y = some true) (hn1 : 0 ≤ M3) (hn2 : 0 ≤ m1) (hh : laws_heldIntS.f k m2 1 = some m1) :
    Calls Try.prog 3 #[.agg #[.int .i64 a0_0, .slice A0_1 l0_1.length c0_1, .slice A0_2 l0_2.length c0_2], .slice A1 l1.length c1] w fun e w' => e = .returned (.bool true) ∧ Below w.heap.size w w' := by
  have HR1 := Aside0.mk hr0_1
  have HC1 := Aside0.mk hc0_1
  have HR2 := Aside0.mk hr0_2
  have HC2 := Aside0.mk hc0_2
  have HR3 := Aside0.mk hr1
  have HC3 := Aside0.mk hc1
  have HSZ := Aside0.mk hsz
  have HT := Aside0.mk ht
  have HY := Aside0.mk hy
  have HS := Aside0.mk hs
  have HM1 := Aside0.mk hM1
  have HM2 := Aside0.mk hM2
  have HM3 := Aside0.mk hM3
  have HMM := Aside0.mk hm
  have HI := Aside0.mk hi
  have HE := Aside0.mk he
  have HQ := Aside0.mk hq
  have HQY := Aside0.mk hqy
  have HH := Aside0.mk hh
  have g1 : decide (s < 0) = false := decide_eq_false hneg
  have g2 : decide (M3 < 0) = false := decide_eq_false (by omega)
  have g3 : decide (m1 < 0) = false := decide_eq_false (by omega)
  have g4 : (b == b) = true := beq_self_eq_true b
  have g5 : (b != b) = false := bne_self_eq_false b
  have g7 : decide (1048576 < l1.length) = false := decide_eq_false (by omega)
  have g8 : decide (1048576 < (l1.length : Int)) = false := decide_eq_false (by omega)
  clear hr0_1 hc0_1 hr0_2 hc0_2 hr1 hc1 hle hsz hneg ht hy hs hM1 hM2 hM3 hm hi he hq hqy hn1 hn2 hh
  go_enter Try.func3, Try.ntmps3
  go_wp2_with (first
    | ((with_reducible refine gate_dst (N := 2) rfl ?_); (try (refine gate_guard (by rfl) ?_; dsimp only)); refine box_event ?hg (N := 2) ?hd (cs := #[.int .i64 a0_0, .slice A0_1 l0_1.length c0_1, .slice A0_2 l0_2.length c0_2]) (t := 24) ?hr ?_; (case hd => rfl); (case hg => rfl); (case hr => first | (go_simp; done) | (go_simp; rfl)); intro gA hg wA hbox hb; have GA := Aside0.mk hg; have BA0 := Aside0.mk (show Whole wA gA 24 #[.int .i64 a0_0, .slice A0_1 l0_1.length c0_1, .slice A0_2 l0_2.length c0_2] from hbox); have D0 := Aside0.mk hb; have ca0 : wA.cell? ⟨gA, 0, none⟩ = some (.int .i64 a0_0) := (Whole.cell BA0.out 0).trans rfl; have ca1 : wA.cell? ⟨gA, 1, none⟩ = some (.slice A0_1 l0_1.length c0_1) := (Whole.cell BA0.out 1).trans rfl; have ca2 : wA.cell? ⟨gA, 2, none⟩ = some (.slice A0_2 l0_2.length c0_2) := (Whole.cell BA0.out 2).trans rfl; clear hb hbox hg)
    | (go_at_call 7; (with_reducible refine (laws_szCode.calls k a0_0 A0_1 c0_1 l0_1 A0_2 c0_2 l0_2 1048576 s _ (Kd.C_below HR1.out D0.out) HC1.out (Kd.C_below HR2.out D0.out) HC2.out HSZ.out).mono ?_); rintro e w1 ⟨rfl, hb⟩; have D1 := Aside0.mk (below_step D0.out hb); have BA1 := Aside0.mk (Whole.below BA0.out hb); clear hb ca0 ca1 ca2; have ca0 : w1.cell? ⟨gA, 0, none⟩ = some (.int .i64 a0_0) := (Whole.cell BA1.out 0).trans rfl; have ca1 : w1.cell? ⟨gA, 1, none⟩ = some (.slice A0_1 l0_1.length c0_1) := (Whole.cell BA1.out 1).trans rfl; have ca2 : w1.cell? ⟨gA, 2, none⟩ = some (.slice A0_2 l0_2.length c0_2) := (Whole.cell BA1.out 2).trans rfl))
  go_wp2_with (go_at_call 9; (with_reducible refine (laws_toCode.calls k a0_0 A0_1 c0_1 l0_1 A0_2 c0_2 l0_2 C0 H S _ (Kd.C_below HR1.out D1.out) HC1.out (Kd.C_below HR2.out D1.out) HC2.out HT.out).mono ?_); rintro e w2 ⟨v1, v2, rfl, ho1, ho2, hb⟩; obtain ⟨A2, c2, rfl⟩ := Kd.S_slice ho1; obtain ⟨B2, d2, rfl⟩ := Kd.S_slice ho2; have D2 := Aside0.mk (below_step D1.out hb); have P2 := Aside0.mk (Kd.S_reads' ho1).2; have Q2 := Aside0.mk (Kd.S_reads' ho2).2; have BA2 := Aside0.mk (Whole.below BA1.out hb); clear ca0 ca1 ca2; have ca0 : w2.cell? ⟨gA, 0, none⟩ = some (.int .i64 a0_0) := (Whole.cell BA2.out 0).trans rfl; have ca1 : w2.cell? ⟨gA, 1, none⟩ = some (.slice A0_1 l0_1.length c0_1) := (Whole.cell BA2.out 1).trans rfl; have ca2 : w2.cell? ⟨gA, 2, none⟩ = some (.slice A0_2 l0_2.length c0_2) := (Whole.cell BA2.out 2).trans rfl; clear ho1 ho2 hb D1 BA1)
  go_wp2_with (go_at_call 10; (with_reducible refine (laws_toIntS.calls k A1 c1 l1 Y _ (Kd.C_below HR3.out D2.out) HC3.out HY.out).mono ?_); rintro e w3 ⟨v, rfl, ho, hb⟩; obtain ⟨A3, c3, rfl⟩ := Kd.R_slice ho; have D3 := Aside0.mk (below_step D2.out hb); have P3 := Aside0.mk (Kd.C_below P2.out.2 hb); have Q3 := Aside0.mk (Kd.C_below Q2.out.2 hb); have Y3 := Aside0.mk (Kd.R_reads' ho).2; have BA3 := Aside0.mk (Whole.below BA2.out hb); clear ca0 ca1 ca2; have ca0 : w3.cell? ⟨gA, 0, none⟩ = some (.int .i64 a0_0) := (Whole.cell BA3.out 0).trans rfl; have ca1 : w3.cell? ⟨gA, 1, none⟩ = some (.slice A0_1 l0_1.length c0_1) := (Whole.cell BA3.out 1).trans rfl; have ca2 : w3.cell? ⟨gA, 2, none⟩ = some (.slice A0_2 l0_2.length c0_2) := (Whole.cell BA3.out 2).trans rfl; clear ho hb D2 BA2)
  go_wp2_with (go_at_call 8; (with_reducible refine (spec_Encode.calls k C0 A2 c2 H B2 d2 S A3 c3 Y r b _ P3.out P2.out.1 Q3.out Q2.out.1 Y3.out.2 Y3.out.1 HS.out).mono ?_); rintro e w4 ⟨v, rfl, ho, hb⟩; obtain ⟨A4, c4, rfl⟩ := Kd.R_slice ho; have D4 := Aside0.mk (below_step D3.out hb); have C4 := Aside0.mk (Kd.R_reads' ho).2; have BA4 := Aside0.mk (Whole.below BA3.out hb); clear ca0 ca1 ca2; have ca0 : w4.cell? ⟨gA, 0, none⟩ = some (.int .i64 a0_0) := (Whole.cell BA4.out 0).trans rfl; have ca1 : w4.cell? ⟨gA, 1, none⟩ = some (.slice A0_1 l0_1.length c0_1) := (Whole.cell BA4.out 1).trans rfl; have ca2 : w4.cell? ⟨gA, 2, none⟩ = some (.slice A0_2 l0_2.length c0_2) := (Whole.cell BA4.out 2).trans rfl; clear ho hb D3 BA3 P2 Q2 P3 Q3 Y3)
  go_wp2_with (first
    | (go_at_call 9; (with_reducible refine (laws_toCode.calls_apart k a0_0 A0_1 c0_1 l0_1 A0_2 c0_2 l0_2 C0 H S _ (Kd.C_below HR1.out D4.out) HC1.out (Kd.C_below HR2.out D4.out) HC2.out HT.out).mono ?_); rintro e w5 ⟨v1, v2, m_, rfl, ho1, ho2, hb⟩; obtain ⟨A5, c5, rfl⟩ := Kd.S_slice ho1; obtain ⟨B5, d5, rfl⟩ := Kd.S_slice ho2; have D5 := Aside0.mk hb; have X5 : Aside0 (Kd.S (Kd.slice 3 (Kd.int .i64)) 25 w5 w4.heap.size (fun k_ => k_ < m_ ∧ w4.heap.size ≤ k_ ∧ k_ < w5.heap.size) (.slice A5 H.length c5) H) := ⟨Kd.S_mono (Kd.S_bound ho1) (fun _ h_ => ⟨h_.1, h_.2.1, h_.2.2.1⟩)⟩; have Z5 : Aside0 (Kd.S (Kd.slice 3 (Kd.int .i64)) 25 w5 w4.heap.size (fun k_ => m_ ≤ k_ ∧ w4.heap.size ≤ k_ ∧ k_ < w5.heap.size) (.slice B5 S.length d5) S) := ⟨Kd.S_mono (Kd.S_bound ho2) (fun _ h_ => ⟨h_.1, h_.2.1, h_.2.2.1⟩)⟩; have BA5 := Aside0.mk (Whole.below BA4.out hb); clear ca0 ca1 ca2 ho1 ho2 hb)
    | ((with_reducible refine gate_dst (N := 8) rfl ?_); (try (refine gate_guard (by rfl) ?_; dsimp only)); refine box_event ?hg (N := 8) ?hd (cs := #[.int .i64 0, .slice none 0 0, .slice none 0 0]) (t := 29) ?hr ?_; (case hd => rfl); (case hg => rfl); (case hr => first | (go_simp; done) | (go_simp; rfl)); intro gX hg w6 hbox hb; have GX := Aside0.mk hg; have BZ := Aside0.mk (show Whole w6 gX 29 #[.int .i64 0, .slice none 0 0, .slice none 0 0] from hbox); have D6 := Aside0.mk (below_step D5.out hb); have SZ6 := Aside0.mk hb.size; have X6 := Aside0.mk (Kd.S_below X5.out hb); have Z6 := Aside0.mk (Kd.S_below Z5.out hb); have BA6 := Aside0.mk (Whole.below BA5.out hb); have cz0 : w6.cell? ⟨gX, 0, none⟩ = some (.int .i64 0) := (Whole.cell BZ.out 0).trans rfl; have fz0 := Whole.free BZ.out 0; have cz1 : w6.cell? ⟨gX, 1, none⟩ = some (.slice none 0 0) := (Whole.cell BZ.out 1).trans rfl; have fz1 := Whole.free BZ.out 1; have cz2 : w6.cell? ⟨gX, 2, none⟩ = some (.slice none 0 0) := (Whole.cell BZ.out 2).trans rfl; have fz2 := Whole.free BZ.out 2; clear hb hbox hg X5 Z5 BA5)
    | (go_at_call 10; (with_reducible refine (laws_toIntS.calls k A1 c1 l1 Y _ (Kd.C_below HR3.out (below_step D4.out (below_set (below_set (below_set D6.out (show w4.heap.size ≤ gX by have h8 := GX.out; have h9 := D5.out.size; omega)) (show w4.heap.size ≤ gX by have h8 := GX.out; have h9 := D5.out.size; omega)) (show w4.heap.size ≤ gX by have h8 := GX.out; have h9 := D5.out.size; omega)))) HC3.out HY.out).mono ?_); rintro e w7 ⟨v, rfl, ho, hb⟩; obtain ⟨A7, c7, rfl⟩ := Kd.R_slice ho; have D7 : Aside0 (Below w4.heap.size w4 w7) := ⟨by refine below_step ?_ hb; exact below_set (below_set (below_set D6.out (show w4.heap.size ≤ gX by have h8 := GX.out; have h9 := D5.out.size; omega)) (show w4.heap.size ≤ gX by have h8 := GX.out; have h9 := D5.out.size; omega)) (show w4.heap.size ≤ gX by have h8 := GX.out; have h9 := D5.out.size; omega)⟩; have SZ7 : Aside0 (w6.heap.size ≤ w7.heap.size) := ⟨by have h9 := hb.size; simpa [World.setCell] using h9⟩; have X7 : Aside0 (Kd.S (Kd.slice 3 (Kd.int .i64)) 25 w7 w4.heap.size (fun k_ => k_ < m_ ∧ w4.heap.size ≤ k_ ∧ k_ < w5.heap.size) (.slice A5 H.length c5) H) := ⟨Kd.S_below (Kd.S_far (p := ⟨gX, 2, none⟩) (Kd.S_far (p := ⟨gX, 1, none⟩) (Kd.S_far (p := ⟨gX, 0, none⟩) (X6.out) (fun k_ hk_ => by have h8 := GX.out; have h9 := hk_.2.2; show k_ ≠ gX; omega) (.int .i64 C0)) (fun k_ hk_ => by have h8 := GX.out; have h9 := hk_.2.2; show k_ ≠ gX; omega) (.slice A5 H.length c5)) (fun k_ hk_ => by have h8 := GX.out; have h9 := hk_.2.2; show k_ ≠ gX; omega) (.slice B5 S.length d5)) hb⟩; have Z7 : Aside0 (Kd.S (Kd.slice 3 (Kd.int .i64)) 25 w7 w4.heap.size (fun k_ => m_ ≤ k_ ∧ w4.heap.size ≤ k_ ∧ k_ < w5.heap.size) (.slice B5 S.length d5) S) := ⟨Kd.S_below (Kd.S_far (p := ⟨gX, 2, none⟩) (Kd.S_far (p := ⟨gX, 1, none⟩) (Kd.S_far (p := ⟨gX, 0, none⟩) (Z6.out) (fun k_ hk_ => by have h8 := GX.out; have h9 := hk_.2.2; show k_ ≠ gX; omega) (.int .i64 C0)) (fun k_ hk_ => by have h8 := GX.out; have h9 := hk_.2.2; show k_ ≠ gX; omega) (.slice A5 H.length c5)) (fun k_ hk_ => by have h8 := GX.out; have h9 := hk_.2.2; show k_ ≠ gX; omega) (.slice B5 S.length d5)) hb⟩; have BA7 : Aside0 (Whole w7 gA 24 #[.int .i64 a0_0, .slice A0_1 l0_1.length c0_1, .slice A0_2 l0_2.length c0_2]) := ⟨Whole.below (blk_far (p := ⟨gX, 2, none⟩) (blk_far (p := ⟨gX, 1, none⟩) (blk_far (p := ⟨gX, 0, none⟩) (BA6.out) (show gA ≠ gX by have h7 := GA.out; have h8 := GX.out; have h9 := D5.out.size; have h6 := D4.out.size; have h5 := Whole.lt BA4.out; omega) (.int .i64 C0)) (show gA ≠ gX by have h7 := GA.out; have h8 := GX.out; have h9 := D5.out.size; have h6 := D4.out.size; have h5 := Whole.lt BA4.out; omega) (.slice A5 H.length c5)) (show gA ≠ gX by have h7 := GA.out; have h8 := GX.out; have h9 := D5.out.size; have h6 := D4.out.size; have h5 := Whole.lt BA4.out; omega) (.slice B5 S.length d5)) hb⟩; have BX7 : Aside0 (Whole w7 gX 29 #[.int .i64 C0, .slice A5 H.length c5, .slice B5 S.length d5]) := ⟨Whole.below (Whole.put (Whole.put (Whole.put BZ.out 0 (.int .i64 C0)) 1 (.slice A5 H.length c5)) 2 (.slice B5 S.length d5)) hb⟩; have Y7 : Aside0 (Kd.R (Kd.int .i64) 3 w7 w6.heap.size (fun k_ => w6.heap.size ≤ k_ ∧ k_ < w7.heap.size) (.slice A7 Y.length c7) Y) := ⟨Kd.R_mono (Kd.R_bound (Kd.R_lower ho (show w6.heap.size ≤ _ by simp [World.setCell]))) (fun _ h_ => ⟨h_.2.1, h_.2.2.1⟩)⟩; clear cz0 cz1 cz2 fz0 fz1 fz2 ho hb; have ca0 : w7.cell? ⟨gA, 0, none⟩ = some (.int .i64 a0_0) := (Whole.cell BA7.out 0).trans rfl; have ca1 : w7.cell? ⟨gA, 1, none⟩ = some (.slice A0_1 l0_1.length c0_1) := (Whole.cell BA7.out 1).trans rfl; have ca2 : w7.cell? ⟨gA, 2, none⟩ = some (.slice A0_2 l0_2.length c0_2) := (Whole.cell BA7.out 2).trans rfl; have cx0 : w7.cell? ⟨gX, 0, none⟩ = some (.int .i64 C0) := (Whole.cell BX7.out 0).trans rfl; have cx1 : w7.cell? ⟨gX, 1, none⟩ = some (.slice A5 H.length c5) := (Whole.cell BX7.out 1).trans rfl; have cx2 : w7.cell? ⟨gX, 2, none⟩ = some (.slice B5 S.length d5) := (Whole.cell BX7.out 2).trans rfl))
  clear X6 Z6 BA6 BZ D6
  go_wp2_with (go_at_call 11; (with_reducible refine (impl_Encode.calls k C0 A5 c5 H B5 d5 S A7 c7 Y r b _ (Kd.S_reads' X7.out).2.2 (Kd.S_reads' X7.out).2.1 (Kd.S_reads' Z7.out).2.2 (Kd.S_reads' Z7.out).2.1 (Kd.R_reads' Y7.out).2.2 (Kd.R_reads' Y7.out).2.1 HI.out).mono ?_); rintro e w8 ⟨v, rfl, ho, hb⟩; obtain ⟨A8, c8, rfl⟩ := Kd.R_slice ho; have D8 := Aside0.mk (below_step D7.out hb); have T8 : Aside0 (w7.heap.size ≤ w8.heap.size) := ⟨hb.size⟩; have X8 := Aside0.mk (Kd.S_below X7.out hb); have Z8 := Aside0.mk (Kd.S_below Z7.out hb); have Y8 := Aside0.mk (Kd.R_below Y7.out hb); have BA8 := Aside0.mk (Whole.below BA7.out hb); clear ca0 ca1 ca2; have ca0 : w8.cell? ⟨gA, 0, none⟩ = some (.int .i64 a0_0) := (Whole.cell BA8.out 0).trans rfl; have ca1 : w8.cell? ⟨gA, 1, none⟩ = some (.slice A0_1 l0_1.length c0_1) := (Whole.cell BA8.out 1).trans rfl; have ca2 : w8.cell? ⟨gA, 2, none⟩ = some (.slice A0_2 l0_2.length c0_2) := (Whole.cell BA8.out 2).trans rfl; have BX8 := Aside0.mk (Whole.below BX7.out hb); clear cx0 cx1 cx2; have cx0 : w8.cell? ⟨gX, 0, none⟩ = some (.int .i64 C0) := (Whole.cell BX8.out 0).trans rfl; have cx1 : w8.cell? ⟨gX, 1, none⟩ = some (.slice A5 H.length c5) := (Whole.cell BX8.out 1).trans rfl; have cx2 : w8.cell? ⟨gX, 2, none⟩ = some (.slice B5 S.length d5) := (Whole.cell BX8.out 2).trans rfl; have G8 := Aside0.mk (Kd.R_mono (Kd.R_bound ho) (ok' := fun k_ => w7.heap.size ≤ k_) (fun _ h_ => h_.2.1)); clear ho hb D7 BA7 X7 Z7 Y7 BX7)
  go_wp2_with (go_at_call 12; (with_reducible refine (laws_eqIntS.calls k A8 c8 r A4 c4 r true _ (Kd.R_reads' G8.out).2.2 (Kd.R_reads' G8.out).2.1 (Kd.C_below C4.out.2 D8.out) C4.out.1 HE.out).mono ?_); rintro e w9 ⟨rfl, hd⟩; have hb := hd.below; have D9 := Aside0.mk (below_step D8.out hb); have T9 := Aside0.mk (Nat.le_trans T8.out hb.size); have X9 := Aside0.mk (Kd.S_below X8.out hb); have Z9 := Aside0.mk (Kd.S_below Z8.out hb); have Y9 := Aside0.mk (Kd.R_below Y8.out hb); have G9 := Aside0.mk (Kd.R_below G8.out hb); have BA9 := Aside0.mk (Whole.below BA8.out hb); clear ca0 ca1 ca2; have ca0 : w9.cell? ⟨gA, 0, none⟩ = some (.int .i64 a0_0) := (Whole.cell BA9.out 0).trans rfl; have ca1 : w9.cell? ⟨gA, 1, none⟩ = some (.slice A0_1 l0_1.length c0_1) := (Whole.cell BA9.out 1).trans rfl; have ca2 : w9.cell? ⟨gA, 2, none⟩ = some (.slice A0_2 l0_2.length c0_2) := (Whole.cell BA9.out 2).trans rfl; have BX9 := Aside0.mk (Whole.below BX8.out hb); clear cx0 cx1 cx2; have cx0 : w9.cell? ⟨gX, 0, none⟩ = some (.int .i64 C0) := (Whole.cell BX9.out 0).trans rfl; have cx1 : w9.cell? ⟨gX, 1, none⟩ = some (.slice A5 H.length c5) := (Whole.cell BX9.out 1).trans rfl; have cx2 : w9.cell? ⟨gX, 2, none⟩ = some (.slice B5 S.length d5) := (Whole.cell BX9.out 2).trans rfl; clear hb hd D8 BA8 X8 Z8 Y8 G8 BX8)
  go_wp2
  go_region_with (first
    | (go_at_call 9; (with_reducible refine (laws_toCode.calls k a0_0 A0_1 c0_1 l0_1 A0_2 c0_2 l0_2 C0 H S _ (Kd.C_below HR1.out (below_step D4.out (by repeat (first | exact D9.out | apply pw_below_drewN | apply below_drew1)))) HC1.out (Kd.C_below HR2.out (below_step D4.out (by repeat (first | exact D9.out | apply pw_below_drewN | apply below_drew1)))) HC2.out HT.out).mono ?_); rintro e w10 ⟨v1, v2, rfl, ho1, ho2, hb0⟩; have hb := below_step (show Below w9.heap.size w9 _ by repeat (first | exact Below.refl _ _ | apply pw_below_drewN | apply below_drew1)) hb0; obtain ⟨A10, c10, rfl⟩ := Kd.S_slice ho1; obtain ⟨B10, d10, rfl⟩ := Kd.S_slice ho2; have D10 := Aside0.mk (below_step D9.out hb); have T10 := Aside0.mk (Nat.le_trans T9.out hb.size); have X10 := Aside0.mk (Kd.S_below X9.out hb); have Z10 := Aside0.mk (Kd.S_below Z9.out hb); have Y10 := Aside0.mk (Kd.R_below Y9.out hb); have G10 := Aside0.mk (Kd.R_below G9.out hb); have BA10 := Aside0.mk (Whole.below BA9.out hb); clear ca0 ca1 ca2; have ca0 : w10.cell? ⟨gA, 0, none⟩ = some (.int .i64 a0_0) := (Whole.cell BA10.out 0).trans rfl; have ca1 : w10.cell? ⟨gA, 1, none⟩ = some (.slice A0_1 l0_1.length c0_1) := (Whole.cell BA10.out 1).trans rfl; have ca2 : w10.cell? ⟨gA, 2, none⟩ = some (.slice A0_2 l0_2.length c0_2) := (Whole.cell BA10.out 2).trans rfl; have BX10 := Aside0.mk (Whole.below BX9.out hb); clear cx0 cx1 cx2; have cx0 : w10.cell? ⟨gX, 0, none⟩ = some (.int .i64 C0) := (Whole.cell BX10.out 0).trans rfl; have cx1 : w10.cell? ⟨gX, 1, none⟩ = some (.slice A5 H.length c5) := (Whole.cell BX10.out 1).trans rfl; have cx2 : w10.cell? ⟨gX, 2, none⟩ = some (.slice B5 S.length d5) := (Whole.cell BX10.out 2).trans rfl; have P10 := Aside0.mk (Kd.S_reads' ho1).2; have Q10 := Aside0.mk (Kd.S_reads' ho2).2; clear ho1 ho2 hb hb0)
    | (go_at_call 13; (with_reducible refine (laws_eqCode.calls k C0 A5 c5 H B5 d5 S C0 A10 c10 H B10 d10 S true _ (Kd.S_reads' X10.out).2.2 (Kd.S_reads' X10.out).2.1 (Kd.S_reads' Z10.out).2.2 (Kd.S_reads' Z10.out).2.1 P10.out.2 P10.out.1 Q10.out.2 Q10.out.1 HQ.out).mono ?_); rintro e w11 ⟨rfl, hb0⟩; have hb := hb0; have D11 := Aside0.mk (below_step D10.out hb); have T11 := Aside0.mk (Nat.le_trans T10.out hb.size); have X11 := Aside0.mk (Kd.S_below X10.out hb); have Z11 := Aside0.mk (Kd.S_below Z10.out hb); have Y11 := Aside0.mk (Kd.R_below Y10.out hb); have G11 := Aside0.mk (Kd.R_below G10.out hb); have BA11 := Aside0.mk (Whole.below BA10.out hb); clear ca0 ca1 ca2; have ca0 : w11.cell? ⟨gA, 0, none⟩ = some (.int .i64 a0_0) := (Whole.cell BA11.out 0).trans rfl; have ca1 : w11.cell? ⟨gA, 1, none⟩ = some (.slice A0_1 l0_1.length c0_1) := (Whole.cell BA11.out 1).trans rfl; have ca2 : w11.cell? ⟨gA, 2, none⟩ = some (.slice A0_2 l0_2.length c0_2) := (Whole.cell BA11.out 2).trans rfl; have BX11 := Aside0.mk (Whole.below BX10.out hb); clear cx0 cx1 cx2; have cx0 : w11.cell? ⟨gX, 0, none⟩ = some (.int .i64 C0) := (Whole.cell BX11.out 0).trans rfl; have cx1 : w11.cell? ⟨gX, 1, none⟩ = some (.slice A5 H.length c5) := (Whole.cell BX11.out 1).trans rfl; have cx2 : w11.cell? ⟨gX, 2, none⟩ = some (.slice B5 S.length d5) := (Whole.cell BX11.out 2).trans rfl; clear hb hb0))
  go_wp2_with (go_at_call 10; (with_reducible refine (laws_toIntS.calls k A1 c1 l1 Y _ (Kd.C_below HR3.out (below_step D4.out D11.out)) HC3.out HY.out).mono ?_); rintro e w12 ⟨v, rfl, ho, hb⟩; obtain ⟨A12, c12, rfl⟩ := Kd.R_slice ho; have D12 := Aside0.mk (below_step D11.out hb); have T12 := Aside0.mk (Nat.le_trans T11.out hb.size); have X12 := Aside0.mk (Kd.S_below X11.out hb); have Z12 := Aside0.mk (Kd.S_below Z11.out hb); have Y12 := Aside0.mk (Kd.R_below Y11.out hb); have G12 := Aside0.mk (Kd.R_below G11.out hb); have BA12 := Aside0.mk (Whole.below BA11.out hb); clear ca0 ca1 ca2; have ca0 : w12.cell? ⟨gA, 0, none⟩ = some (.int .i64 a0_0) := (Whole.cell BA12.out 0).trans rfl; have ca1 : w12.cell? ⟨gA, 1, none⟩ = some (.slice A0_1 l0_1.length c0_1) := (Whole.cell BA12.out 1).trans rfl; have ca2 : w12.cell? ⟨gA, 2, none⟩ = some (.slice A0_2 l0_2.length c0_2) := (Whole.cell BA12.out 2).trans rfl; have BX12 := Aside0.mk (Whole.below BX11.out hb); clear cx0 cx1 cx2; have cx0 : w12.cell? ⟨gX, 0, none⟩ = some (.int .i64 C0) := (Whole.cell BX12.out 0).trans rfl; have cx1 : w12.cell? ⟨gX, 1, none⟩ = some (.slice A5 H.length c5) := (Whole.cell BX12.out 1).trans rfl; have cx2 : w12.cell? ⟨gX, 2, none⟩ = some (.slice B5 S.length d5) := (Whole.cell BX12.out 2).trans rfl; have P12 := Aside0.mk (Kd.R_reads' ho).2; clear ho hb D11 BA11 X11 Z11 Y11 G11 BX11)
  go_wp2_with (go_at_call 12; (with_reducible refine (laws_eqIntS.calls k A7 c7 Y A12 c12 Y true _ (Kd.R_reads' Y12.out).2.2 (Kd.R_reads' Y12.out).2.1 P12.out.2 P12.out.1 HQY.out).mono ?_); rintro e w13 ⟨rfl, hd⟩; have hb := hd.below; have D13 := Aside0.mk (below_step D12.out hb); have T13 := Aside0.mk (Nat.le_trans T12.out hb.size); have X13 := Aside0.mk (Kd.S_below X12.out hb); have Z13 := Aside0.mk (Kd.S_below Z12.out hb); have Y13 := Aside0.mk (Kd.R_below Y12.out hb); have G13 := Aside0.mk (Kd.R_below G12.out hb); have BA13 := Aside0.mk (Whole.below BA12.out hb); clear ca0 ca1 ca2; have ca0 : w13.cell? ⟨gA, 0, none⟩ = some (.int .i64 a0_0) := (Whole.cell BA13.out 0).trans rfl; have ca1 : w13.cell? ⟨gA, 1, none⟩ = some (.slice A0_1 l0_1.length c0_1) := (Whole.cell BA13.out 1).trans rfl; have ca2 : w13.cell? ⟨gA, 2, none⟩ = some (.slice A0_2 l0_2.length c0_2) := (Whole.cell BA13.out 2).trans rfl; have BX13 := Aside0.mk (Whole.below BX12.out hb); clear cx0 cx1 cx2; have cx0 : w13.cell? ⟨gX, 0, none⟩ = some (.int .i64 C0) := (Whole.cell BX13.out 0).trans rfl; have cx1 : w13.cell? ⟨gX, 1, none⟩ = some (.slice A5 H.length c5) := (Whole.cell BX13.out 1).trans rfl; have cx2 : w13.cell? ⟨gX, 2, none⟩ = some (.slice B5 S.length d5) := (Whole.cell BX13.out 2).trans rfl; have SZ13 : Aside0 (w5.heap.size ≤ w13.heap.size) := ⟨by have e1 := SZ6.out; have e2 := SZ7.out; have e3 := T13.out; omega⟩; clear hb hd P12 D12 BA12 X12 Z12 Y12 G12 BX12)
  go_wp2_with (go_at_call 14; (with_reducible refine (laws_markCode.calls k (fun k_ => k_ < m_ ∧ w4.heap.size ≤ k_ ∧ k_ < w5.heap.size) (fun k_ => m_ ≤ k_ ∧ w4.heap.size ≤ k_ ∧ k_ < w5.heap.size) C0 A5 c5 H B5 d5 S 1 M1 M2 H' S' w4 _ D13.out X13.out Z13.out (fun i h1 h2 => by omega) (fun i h => by have h8 := h.2.2; have h9 := SZ13.out; omega) (fun i h => by have h8 := h.2.2; have h9 := SZ13.out; omega) HM1.out HM2.out).mono ?_); rintro e w14 ⟨rfl, hb, hk⟩; have D14 := Aside0.mk hb; have Y14 := Aside0.mk (R_keep Y13.out hk (fun i _ h1_ _ h2_ => by have e1 := SZ6.out; rcases h2_ with h2_ | h2_ <;> omega)); have G14 := Aside0.mk (R_keep G13.out hk (fun i h0_ h1_ _ h2_ => by have e1 := SZ6.out; have e2 := SZ7.out; rcases h2_ with h2_ | h2_ <;> omega)); have BA14 := Aside0.mk (Whole.kept BA13.out hk (fun h2_ => by have e1 := Whole.lt BA4.out; rcases h2_ with h2_ | h2_ <;> omega)); clear ca0 ca1 ca2 cx0 cx1 cx2; have ca0 : w14.cell? ⟨gA, 0, none⟩ = some (.int .i64 a0_0) := (Whole.cell BA14.out 0).trans rfl; have ca1 : w14.cell? ⟨gA, 1, none⟩ = some (.slice A0_1 l0_1.length c0_1) := (Whole.cell BA14.out 1).trans rfl; have ca2 : w14.cell? ⟨gA, 2, none⟩ = some (.slice A0_2 l0_2.length c0_2) := (Whole.cell BA14.out 2).trans rfl; clear hb hk D13 BA13 X13 Z13 Y13 G13 BX13)
  go_wp2_with (go_at_call 15; (with_reducible refine (laws_markIntS.calls k (fun k_ => w6.heap.size ≤ k_ ∧ k_ < w7.heap.size) _ Y M2 M3 Y' w4 _ D14.out (Kd.R_lower Y14.out (show w4.heap.size ≤ w6.heap.size by have e1 := SZ6.out; have e2 := D5.out.size; omega)) HM3.out).mono ?_); rintro e w15 ⟨rfl, ho, hb, hk⟩; have D15 := Aside0.mk hb; have G15 := Aside0.mk (R_keep G14.out hk (fun i h0_ h1_ _ h2_ => by omega)); have BA15 := Aside0.mk (Whole.kept BA14.out hk (fun h2_ => by have e1 := Whole.lt BA4.out; have e2 := SZ6.out; have e3 := D5.out.size; omega)); clear ca0 ca1 ca2; have ca0 : w15.cell? ⟨gA, 0, none⟩ = some (.int .i64 a0_0) := (Whole.cell BA15.out 0).trans rfl; have ca1 : w15.cell? ⟨gA, 1, none⟩ = some (.slice A0_1 l0_1.length c0_1) := (Whole.cell BA15.out 1).trans rfl; have ca2 : w15.cell? ⟨gA, 2, none⟩ = some (.slice A0_2 l0_2.length c0_2) := (Whole.cell BA15.out 2).trans rfl; clear ho hb hk D14 Y14 G14 BA14)
  go_wp2_with (go_at_call 12; (with_reducible refine (laws_eqIntS.calls k A8 c8 r A4 c4 r true _ (Kd.R_reads' G15.out).2.2 (Kd.R_reads' G15.out).2.1 (Kd.C_below C4.out.2 D15.out) C4.out.1 HE.out).mono ?_); rintro e w16 ⟨rfl, hd⟩; have hb := hd.below; have D16 := Aside0.mk (below_step D15.out hb); have G16 := Aside0.mk (Kd.R_below G15.out hb); have BA16 := Aside0.mk (Whole.below BA15.out hb); clear ca0 ca1 ca2; have ca0 : w16.cell? ⟨gA, 0, none⟩ = some (.int .i64 a0_0) := (Whole.cell BA16.out 0).trans rfl; have ca1 : w16.cell? ⟨gA, 1, none⟩ = some (.slice A0_1 l0_1.length c0_1) := (Whole.cell BA16.out 1).trans rfl; have ca2 : w16.cell? ⟨gA, 2, none⟩ = some (.slice A0_2 l0_2.length c0_2) := (Whole.cell BA16.out 2).trans rfl; clear hb hd D15 BA15 G15)
  go_wp2_with (go_at_call 15; (with_reducible refine (laws_markIntS.calls k (fun k_ => w7.heap.size ≤ k_) _ r 1 m1 m2 w4 _ D16.out (Kd.R_lower G16.out (show w4.heap.size ≤ w7.heap.size by have e1 := SZ6.out; have e2 := D5.out.size; have e3 := SZ7.out; omega)) HMM.out).mono ?_); rintro e w17 ⟨rfl, ho, hb, hk⟩; have D17 := Aside0.mk hb; have G17 := Aside0.mk ho; have E0 := Aside0.mk (Kd.R_reads' ho).1; have BA17 := Aside0.mk (Whole.kept BA16.out hk (fun h2_ => by have e1 := Whole.lt BA4.out; have e2 := SZ6.out; have e3 := D5.out.size; have e4 := SZ7.out; omega)); clear ca0 ca1 ca2; have ca0 : w17.cell? ⟨gA, 0, none⟩ = some (.int .i64 a0_0) := (Whole.cell BA17.out 0).trans rfl; have ca1 : w17.cell? ⟨gA, 1, none⟩ = some (.slice A0_1 l0_1.length c0_1) := (Whole.cell BA17.out 1).trans rfl; have ca2 : w17.cell? ⟨gA, 2, none⟩ = some (.slice A0_2 l0_2.length c0_2) := (Whole.cell BA17.out 2).trans rfl; clear ho hb hk D16 G16 BA16)
  go_wp2_with (go_at_call 16; refine calls_of_args (args' := #[.slice A8 m2.length c8, .int .i64 1]) (by rw [← E0.out]) ?_; (with_reducible refine (laws_heldIntS.calls k A8 c8 m2 1 m1 _ (Kd.R_reads' G17.out).2.2 (by rw [← E0.out]; exact (Kd.R_reads' G17.out).2.1) HH.out).mono ?_); rintro e w18 ⟨rfl, hd⟩; have hb := hd.below; have D18 := Aside0.mk (below_step D17.out hb); have G18 := Aside0.mk (Kd.R_below G17.out hb); have BA18 := Aside0.mk (Whole.below BA17.out hb); clear ca0 ca1 ca2; have ca0 : w18.cell? ⟨gA, 0, none⟩ = some (.int .i64 a0_0) := (Whole.cell BA18.out 0).trans rfl; have ca1 : w18.cell? ⟨gA, 1, none⟩ = some (.slice A0_1 l0_1.length c0_1) := (Whole.cell BA18.out 1).trans rfl; have ca2 : w18.cell? ⟨gA, 2, none⟩ = some (.slice A0_2 l0_2.length c0_2) := (Whole.cell BA18.out 2).trans rfl; clear hb hd D17 BA17 G17)
  go_wp2_with (go_at_call 9; (with_reducible refine (laws_toCode.calls k a0_0 A0_1 c0_1 l0_1 A0_2 c0_2 l0_2 C0 H S _ (Kd.C_below HR1.out (below_step D4.out D18.out)) HC1.out (Kd.C_below HR2.out (below_step D4.out D18.out)) HC2.out HT.out).mono ?_); rintro e w19 ⟨v1, v2, rfl, ho1, ho2, hb⟩; obtain ⟨A19, c19, rfl⟩ := Kd.S_slice ho1; obtain ⟨B19, d19, rfl⟩ := Kd.S_slice ho2; have D19 := Aside0.mk (below_step D18.out hb); have G19 := Aside0.mk (Kd.R_below G18.out hb); have BA19 := Aside0.mk (Whole.below BA18.out hb); clear ca0 ca1 ca2; have ca0 : w19.cell? ⟨gA, 0, none⟩ = some (.int .i64 a0_0) := (Whole.cell BA19.out 0).trans rfl; have ca1 : w19.cell? ⟨gA, 1, none⟩ = some (.slice A0_1 l0_1.length c0_1) := (Whole.cell BA19.out 1).trans rfl; have ca2 : w19.cell? ⟨gA, 2, none⟩ = some (.slice A0_2 l0_2.length c0_2) := (Whole.cell BA19.out 2).trans rfl; have P19 := Aside0.mk (Kd.S_reads' ho1).2; have Q19 := Aside0.mk (Kd.S_reads' ho2).2; clear ho1 ho2 hb D18 BA18 G18)
  go_wp2_with (go_at_call 10; (with_reducible refine (laws_toIntS.calls k A1 c1 l1 Y _ (Kd.C_below HR3.out (below_step D4.out D19.out)) HC3.out HY.out).mono ?_); rintro e w20 ⟨v, rfl, ho, hb⟩; obtain ⟨A20, c20, rfl⟩ := Kd.R_slice ho; have D20 := Aside0.mk (below_step D19.out hb); have G20 := Aside0.mk (Kd.R_below G19.out hb); have BA20 := Aside0.mk (Whole.below BA19.out hb); clear ca0 ca1 ca2; have ca0 : w20.cell? ⟨gA, 0, none⟩ = some (.int .i64 a0_0) := (Whole.cell BA20.out 0).trans rfl; have ca1 : w20.cell? ⟨gA, 1, none⟩ = some (.slice A0_1 l0_1.length c0_1) := (Whole.cell BA20.out 1).trans rfl; have ca2 : w20.cell? ⟨gA, 2, none⟩ = some (.slice A0_2 l0_2.length c0_2) := (Whole.cell BA20.out 2).trans rfl; have P20 := Aside0.mk (Kd.C_below P19.out.2 hb); have Q20 := Aside0.mk (Kd.C_below Q19.out.2 hb); have Y20 := Aside0.mk (Kd.R_reads' ho).2; clear ho hb D19 BA19 G19)
  go_wp2_with (go_at_call 11; (with_reducible refine (impl_Encode.calls k C0 A19 c19 H B19 d19 S A20 c20 Y r b _ P20.out P19.out.1 Q20.out Q19.out.1 Y20.out.2 Y20.out.1 HI.out).mono ?_); rintro e w21 ⟨v, rfl, ho, hb⟩; obtain ⟨A21, c21, rfl⟩ := Kd.R_slice ho; have D21 := Aside0.mk (below_step D20.out hb); have G21 := Aside0.mk (Kd.R_below G20.out hb); have BA21 := Aside0.mk (Whole.below BA20.out hb); clear ca0 ca1 ca2; have ca0 : w21.cell? ⟨gA, 0, none⟩ = some (.int .i64 a0_0) := (Whole.cell BA21.out 0).trans rfl; have ca1 : w21.cell? ⟨gA, 1, none⟩ = some (.slice A0_1 l0_1.length c0_1) := (Whole.cell BA21.out 1).trans rfl; have ca2 : w21.cell? ⟨gA, 2, none⟩ = some (.slice A0_2 l0_2.length c0_2) := (Whole.cell BA21.out 2).trans rfl; have C21 := Aside0.mk (Kd.R_reads' ho).2; clear ho hb P19 Q19 P20 Q20 Y20 D20 BA20 G20)
  go_wp2_with (go_at_call 12; (with_reducible refine (laws_eqIntS.calls k A21 c21 r A4 c4 r true _ C21.out.2 C21.out.1 (Kd.C_below C4.out.2 D21.out) C4.out.1 HE.out).mono ?_); rintro e w22 ⟨rfl, hd⟩; have hb := hd.below; have D22 := Aside0.mk (below_step D21.out hb); have G22 := Aside0.mk (Kd.R_below G21.out hb); have BA22 := Aside0.mk (Whole.below BA21.out hb); clear ca0 ca1 ca2; have ca0 : w22.cell? ⟨gA, 0, none⟩ = some (.int .i64 a0_0) := (Whole.cell BA22.out 0).trans rfl; have ca1 : w22.cell? ⟨gA, 1, none⟩ = some (.slice A0_1 l0_1.length c0_1) := (Whole.cell BA22.out 1).trans rfl; have ca2 : w22.cell? ⟨gA, 2, none⟩ = some (.slice A0_2 l0_2.length c0_2) := (Whole.cell BA22.out 2).trans rfl; clear hb hd C21 D21 BA21 G21)
  go_wp2_with (go_at_call 16; refine calls_of_args (args' := #[.slice A8 m2.length c8, .int .i64 1]) (by rw [← E0.out]) ?_; (with_reducible refine (laws_heldIntS.calls k A8 c8 m2 1 m1 _ (Kd.R_reads' G22.out).2.2 (by rw [← E0.out]; exact (Kd.R_reads' G22.out).2.1) HH.out).mono ?_); rintro e w23 ⟨rfl, hd⟩; have D23 := Aside0.mk (below_step D22.out hd.below); clear hd)
  all_goals go_ret
  all_goals exact ⟨rfl, below_step D4.out D23.out⟩
theorem laws_FnExactEncode.calls (k : Nat) (a0_0 : Int) (A0_1 : Option Addr) (c0_1 : Nat) (l0_1 : List (List Int)) (A0_2 : Option Addr) (c0_2 : Nat) (l0_2 : List (List Int)) (A1 : Option Addr) (c1 : Nat) (l1 : List Int) (r : Bool) (w : World) (hr0_1 : Kd.C (Kd.slice 3 (Kd.int .i64)) w A0_1 l0_1.length l0_1) (hc0_1 : l0_1.length ≤ c0_1) (hr0_2 : Kd.C (Kd.slice 3 (Kd.int .i64)) w A0_2 l0_2.length l0_2) (hc0_2 : l0_2.length ≤ c0_2) (hr1 : Kd.C (Kd.int .i64) w A1 l1.length l1) (hc1 : l1.length ≤ c1) (h : laws_FnExactEncode.f k a0_0 l0_1 l0_2 l1 = some r) :
    Calls Try.prog 3 #[.agg #[.int .i64 a0_0, .slice A0_1 l0_1.length c0_1, .slice A0_2 l0_2.length c0_2], .slice A1 l1.length c1] w fun e w' => e = .returned (.bool r) ∧ Below w.heap.size w w' := by
  unfold laws_FnExactEncode.f at h
  by_cases hbig : (l1.length : Int) > 1048576
  · rw [if_pos hbig] at h
    obtain rfl := Option.some.inj h
    exact laws_FnExactEncode.calls_long a0_0 A0_1 c0_1 l0_1 A0_2 c0_2 l0_2 A1 c1 l1 w hbig
  rw [if_neg hbig] at h
  obtain ⟨s, e1, h⟩ := Option.bind_eq_some_iff.mp h
  by_cases hs : s < 0
  · rw [if_pos hs] at h
    obtain rfl := Option.some.inj h
    exact laws_FnExactEncode.calls_big k a0_0 A0_1 c0_1 l0_1 A0_2 c0_2 l0_2 A1 c1 l1 s w hr0_1 hc0_1 hr0_2 hc0_2 hr1 hc1 hbig e1 hs
  rw [if_neg hs] at h
  obtain ⟨⟨C0, H, S⟩, e2, h⟩ := Option.bind_eq_some_iff.mp h
  obtain ⟨Y, e3, h⟩ := Option.bind_eq_some_iff.mp h
  obtain ⟨⟨R1, R2⟩, e4, h⟩ := Option.bind_eq_some_iff.mp h
  obtain ⟨⟨M1, H'⟩, e5, h⟩ := Option.bind_eq_some_iff.mp h
  obtain ⟨⟨M2, S'⟩, e6, h⟩ := Option.bind_eq_some_iff.mp h
  obtain ⟨⟨M3, Y'⟩, e7, h⟩ := Option.bind_eq_some_iff.mp h
  obtain ⟨⟨m1, m2⟩, e8, h⟩ := Option.bind_eq_some_iff.mp h
  split at h
  · rename_i hc
    obtain ⟨q1, q2, q3, q4, q5, q6, q7⟩ := hc
    obtain rfl := Option.some.inj h
    exact laws_FnExactEncode.calls_in k a0_0 A0_1 c0_1 l0_1 A0_2 c0_2 l0_2 A1 c1 l1 w hr0_1 hc0_1 hr0_2 hc0_2 hr1 hc1 hbig s e1 hs C0 H S e2 Y e3 R1 R2 e4 M1 H' e5 M2 S' e6 M3 Y' e7 m1 m2 e8 q1 q2 q3 q4 q5 q6 q7
  · cases h
end Go.Proofs.Ytobncomimkmoeaa.F
end
