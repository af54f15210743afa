import Derived.Test.YtbeehklibkeecaaZFnRounds4
import Derived.Shelf.SlicesE.Delete
import Derived.Lib.Overlaps
import Derived.Laws.Externs
import Derived.Lib.AppendZeros
import Derived.Lib.JoinLaws
import Derived.Test.YtbeehklibkeecaaI
section
/- Laid by a program of this claim's own. What the Go function does, as a Lean function, and the proof that the Go code does just that; Lean checks it. -/
namespace Go.Proofs.Ytbeehklibkeecaa.F
open Go.RowKit Go.Proofs.YtbeehklibkeecaaW.PrintWords Go.Proofs.YtbeehklibkeecaaW.PrintLast Go.Proofs.YtbeehklibkeecaaW.PrintMore
attribute [local go_sem] max2_int min2_int max_two min_two max_three min_three max_four min_four   -- for this text's walks alone
set_option linter.unusedVariables false
set_option linter.unusedSimpArgs false
/-! ### slices_IndexFunc_LLint_Lint: function 85 -/
/-- Where the first list stands at which p holds, from place i on; -1 if there is none. -/
def idxFromL (p : List Int → Bool) : List (List Int) → Int → Int
  | [], _ => -1
  | x :: xs, i => if p x then i else idxFromL p xs (i + 1)
theorem idxFromL_drop_nil (p : List Int → Bool) (l : List (List Int)) (j : Nat) (h : ¬ j < l.length) (i : Int) : idxFromL p (l.drop j) i = -1 := by
  rw [List.drop_eq_nil_of_le (by omega)]; rfl
theorem idxFromL_drop_yes (p : List Int → Bool) (l : List (List Int)) (j : Nat) (h : j < l.length) (i : Int) (hp : p (l.getD j []) = true) : idxFromL p (l.drop j) i = i := by
  rw [List.drop_eq_getElem_cons h]
  rw [List.getD_eq_getElem?_getD, List.getElem?_eq_getElem h] at hp
  have hp' : p l[j] = true := hp
  unfold idxFromL
  rw [if_pos hp']
theorem idxFromL_drop_no (p : List Int → Bool) (l : List (List Int)) (j : Nat) (h : j < l.length) (i : Int) (hp : p (l.getD j []) = false) : idxFromL p (l.drop j) i = idxFromL p (l.drop (j + 1)) (i + 1) := by
  rw [List.drop_eq_getElem_cons h]
  rw [List.getD_eq_getElem?_getD, List.getElem?_eq_getElem h] at hp
  have hp' : ¬ p l[j] = true := by
    have hp2 : p l[j] = false := hp
    rw [hp2]; decide
  conv => lhs; unfold idxFromL
  rw [if_neg hp']
set_option maxHeartbeats 8000000 in
set_option maxRecDepth 100000 in
/-- The function handed over may make memory; it is asked of each list that stands in the row. -/
theorem slices_IndexFunc_LLint_Lint.predB (p : List Int → Bool) (g : Nat) (lb : Array Value) (eg : ∀ args w, (callFunc g args).run Try.prog w = .ok (.enter g args) w) (A0 : Option Addr) (c0 : Nat) (l0 : List (List Int)) (w : World) (hr0 : Kd.C (Kd.slice 3 (Kd.int .i64)) w A0 l0.length l0) (hc0 : l0.length ≤ c0)
    (hp : ∀ (W : World) (x : List Int) (A : Option Addr) (c : Nat), Below w.heap.size w W → x ∈ l0 → Kd.C (Kd.int .i64) W A x.length x → x.length ≤ c → Calls Try.prog g (#[.slice A x.length c] ++ lb) W fun e w' => e = .returned (.bool (p x)) ∧ Below W.heap.size W w') :
    Calls Try.prog 85 #[.slice A0 l0.length c0, .func (.func g) #[] lb] w fun e w' => e = .returned (.int .i64 (idxFromL p l0 0)) ∧ Below w.heap.size w w' := by
  have HR0 := Aside0.mk hr0
  have HC0 := Aside0.mk hc0
  have HP := Aside0.mk hp
  have hbig := hr0.2.1
  clear hr0 hc0 hp
  obtain ⟨R, hR⟩ : ∃ R : Int, R = idxFromL p l0 0 := ⟨_, rfl⟩
  rw [← hR]
  have HR := Aside0.mk hR
  clear hR
  go_enter Try.func85, Try.ntmps85
  go_wp2
  go_loopg [5, 8] (l0.length + 1) (fun kq _ v8 w' => ∃ (j : Nat), v8 = .int .i64 j ∧ Aside0 (j + kq = l0.length + 1) ∧ Aside0 (idxFromL p (l0.drop j) j = R) ∧ Aside0 (Below w.heap.size w w'))
  case atStart => exact ⟨0, rfl, ⟨by omega⟩, ⟨HR.out.symm⟩, ⟨Below.refl _ _⟩⟩
  case round =>
    obtain ⟨j, rfl, HK, HA, HB⟩ := hrel
    by_cases hlt : j < l0.length
    · have hltz : (j : Int) < (l0.length : Int) := by omega
      obtain ⟨ad, A1, c1, ead, hx0, hle, hC1⟩ := at_slice (Kd.C_below HR0.out HB.out) (j : Int) (by omega) hltz
      cases ead
      rw [Int.toNat_natCast] at hx0 hle hC1
      have hmem : l0.getD j [] ∈ l0 := by rw [List.getD_eq_getElem?_getD, List.getElem?_eq_getElem hlt]; exact List.getElem_mem hlt
      have hcall := HP.out wr (l0.getD j []) A1 c1 HB.out hmem hC1 hle
      have hrd : l0.getD j [] = l0.getD j [] := rfl
      have HL := Aside0.mk hlt
      obtain ⟨y, hy⟩ : ∃ y, y = l0.getD j [] := ⟨_, rfl⟩
      rw [← hy] at hx0 hcall
      have hcell : wr.cell? (ad.add j) = some (.slice A1 y.length c1) := hx0
      have HRD := Aside0.mk hy
      have HCALL := Aside0.mk hcall
      clear hcall hrd hlt hy hx0 hle hC1 hmem
      cases hq : p y with
      | true =>
        have hcall2 := HCALL.out
        rw [hq] at hcall2
        have HC2 := Aside0.mk hcall2
        have hfin := HA.out
        rw [idxFromL_drop_yes p l0 j HL.out j (by rw [← HRD.out]; exact hq)] at hfin
        have HF := Aside0.mk hfin
        clear hfin hq hcall2 HCALL
        go_wp2_with (go_at_fn g; refine HC2.out.mono ?_; rintro e w' ⟨rfl, hb⟩; have HB2 := Aside0.mk (HB.out.trans (hb.mono HB.out.size)); clear hb)
        go_ret
        exact ⟨by (have e_ := HF.out; subst e_; rfl), HB2.out⟩
      | false =>
        have hcall2 := HCALL.out
        rw [hq] at hcall2
        have HC2 := Aside0.mk hcall2
        have HA2 := Aside0.mk ((idxFromL_drop_no p l0 j HL.out j (by rw [← HRD.out]; exact hq)).symm.trans HA.out)
        clear HA hq hcall2 HCALL
        go_wp2_with (go_at_fn g; refine HC2.out.mono ?_; rintro e w' ⟨rfl, hb⟩; have HB2 := Aside0.mk (HB.out.trans (hb.mono HB.out.size)); clear hb)
        go_roundg (l0.length - j)
        case measure => have := HK.out; have := HL.out; omega
        case rel => exact ⟨j + 1, by go_num, ⟨by have := HK.out; have := HL.out; omega⟩, ⟨HA2.out⟩, HB2⟩
    · have hltz : ¬ (j : Int) < (l0.length : Int) := by omega
      have hfin := HA.out
      rw [idxFromL_drop_nil p l0 j hlt j] at hfin
      have HF := Aside0.mk hfin
      clear hlt hfin
      go_wp2
      go_ret
      exact ⟨by (have e_ := HF.out; subst e_; rfl), HB.out⟩
end Go.Proofs.Ytbeehklibkeecaa.F
end
section
/- Laid by a program of this claim's own. What the Go function does, as a Lean function, and the proof that the Go code does just that; Lean checks it. -/
namespace Go.Proofs.Ytbeehklibkeecaa.F
open Go.RowKit Go.Proofs.YtbeehklibkeecaaW.PrintWords Go.Proofs.YtbeehklibkeecaaW.PrintLast Go.Proofs.YtbeehklibkeecaaW.PrintMore
attribute [local go_sem] max2_int min2_int max_two min_two max_three min_three max_four min_four   -- for this text's walks alone
set_option linter.unusedVariables false
set_option linter.unusedSimpArgs false
/-! ### slices_IndexFunc_Lint_int: function 97 -/
/-- Where the first number stands at which p holds, from place i on; -1 if there is none. -/
def idxFrom (p : Int → Bool) : List Int → Int → Int
  | [], _ => -1
  | x :: xs, i => if p x then i else idxFrom p xs (i + 1)
theorem idxFrom_drop_nil (p : Int → Bool) (l : List Int) (j : Nat) (h : ¬ j < l.length) (i : Int) : idxFrom p (l.drop j) i = -1 := by
  rw [List.drop_eq_nil_of_le (by omega)]; rfl
theorem idxFrom_drop_yes (p : Int → Bool) (l : List Int) (j : Nat) (h : j < l.length) (i : Int) (hp : p (l.getD j 0) = true) : idxFrom p (l.drop j) i = i := by
  rw [List.drop_eq_getElem_cons h]
  rw [List.getD_eq_getElem?_getD, List.getElem?_eq_getElem h] at hp
  have hp' : p l[j] = true := hp
  unfold idxFrom
  rw [if_pos hp']
theorem idxFrom_drop_no (p : Int → Bool) (l : List Int) (j : Nat) (h : j < l.length) (i : Int) (hp : p (l.getD j 0) = false) : idxFrom p (l.drop j) i = idxFrom p (l.drop (j + 1)) (i + 1) := by
  rw [List.drop_eq_getElem_cons h]
  rw [List.getD_eq_getElem?_getD, List.getElem?_eq_getElem h] at hp
  have hp' : ¬ p l[j] = true := by
    have hp2 : p l[j] = false := hp
    rw [hp2]; decide
  conv => lhs; unfold idxFrom
  rw [if_neg hp']
set_option maxHeartbeats 8000000 in
set_option maxRecDepth 100000 in
theorem slices_IndexFunc_Lint_int.pred (p : Int → Bool) (g : Nat) (lb : Array Value) (eg : ∀ args w, (callFunc g args).run Try.prog w = .ok (.enter g args) w) (A0 : Option Addr) (c0 : Nat) (l0 : List Int) (w : World) (hr0 : Kd.C (Kd.int .i64) w A0 l0.length l0) (hc0 : l0.length ≤ c0)
    (hp : ∀ (W : World) (x : Int), Below w.heap.size w W → Calls Try.prog g (#[.int .i64 x] ++ lb) W fun e w' => e = .returned (.bool (p x)) ∧ Drawn0 W w') :
    Calls Try.prog 97 #[.slice A0 l0.length c0, .func (.func g) #[] lb] w fun e w' => e = .returned (.int .i64 (idxFrom p l0 0)) ∧ Drawn0 w w' := by
  have HR0 := Aside0.mk hr0
  have HC0 := Aside0.mk hc0
  have HP := Aside0.mk hp
  have hbig := hr0.2.1
  clear hr0 hc0 hp
  obtain ⟨R, hR⟩ : ∃ R : Int, R = idxFrom p l0 0 := ⟨_, rfl⟩
  rw [← hR]
  have HR := Aside0.mk hR
  clear hR
  go_enter Try.func97, Try.ntmps97
  go_wp2
  go_loopg [5, 8] (l0.length + 1) (fun kq _ v8 w' => ∃ (j : Nat), v8 = .int .i64 j ∧ Aside0 (j + kq = l0.length + 1) ∧ Aside0 (idxFrom p (l0.drop j) j = R) ∧ Drawn0 w w')
  case atStart => exact ⟨0, rfl, ⟨by omega⟩, ⟨HR.out.symm⟩, Drawn0.refl _⟩
  case round =>
    obtain ⟨j, rfl, HK, HA, ⟨m, rfl⟩⟩ := hrel
    by_cases hlt : j < l0.length
    · have hltz : (j : Int) < (l0.length : Int) := by omega
      obtain ⟨ad, ead, hx0⟩ := Kd.at_int HR0.out (j : Int) (by omega) hltz
      cases ead
      have hcell : w.cell? (ad.add j) = some (.int .i64 (rd l0 j)) := by simpa using hx0
      clear hx0
      have hcall := fun (q : Nat) => HP.out (w.drewN q) (rd l0 j) (pw_below_drewN (Below.refl _ w) _)
      have hrd : rd l0 (j : Int) = l0.getD j 0 := by unfold rd; simp
      have HL := Aside0.mk hlt
      have HRD := Aside0.mk hrd
      clear hrd hlt
      generalize rd l0 (j : Int) = y at hcell hcall HRD
      cases hq : p y with
      | true =>
        rw [hq] at hcall
        have hfin := HA.out
        rw [idxFrom_drop_yes p l0 j HL.out j (by rw [← HRD.out]; exact hq)] at hfin
        have HF := Aside0.mk hfin
        clear hfin hq
        go_wp2_with (go_at_fn g; refine (hcall _).mono ?_; rintro e w' ⟨rfl, ⟨nd, rfl⟩⟩)
        go_ret
        exact ⟨by (have e_ := HF.out; subst e_; rfl), by repeat (first | exact Drawn0.refl _ | apply Drawn0.step)⟩
      | false =>
        rw [hq] at hcall
        have HA2 := Aside0.mk ((idxFrom_drop_no p l0 j HL.out j (by rw [← HRD.out]; exact hq)).symm.trans HA.out)
        clear HA hq
        go_wp2_with (go_at_fn g; refine (hcall _).mono ?_; rintro e w' ⟨rfl, ⟨nd, rfl⟩⟩)
        go_roundg (l0.length - j)
        case measure => have := HK.out; have := HL.out; omega
        case rel => exact ⟨j + 1, by go_num, ⟨by have := HK.out; have := HL.out; omega⟩, ⟨HA2.out⟩, by repeat (first | exact Drawn0.refl _ | apply Drawn0.step)⟩
    · have hltz : ¬ (j : Int) < (l0.length : Int) := by omega
      have hfin := HA.out
      rw [idxFrom_drop_nil p l0 j hlt j] at hfin
      have HF := Aside0.mk hfin
      clear hlt hfin
      go_wp2
      go_ret
      exact ⟨by (have e_ := HF.out; subst e_; rfl), by repeat (first | exact Drawn0.refl _ | apply Drawn0.step)⟩
end Go.Proofs.Ytbeehklibkeecaa.F
end
section
/- Laid by a program of this claim's own. What the Go function does, as a Lean function, and the proof that the Go code does just that; Lean checks it. -/
namespace Go.Proofs.Ytbeehklibkeecaa.F
open Go.RowKit Go.Proofs.YtbeehklibkeecaaW.PrintWords Go.Proofs.YtbeehklibkeecaaW.PrintLast Go.Proofs.YtbeehklibkeecaaW.PrintMore
attribute [local go_sem] max2_int min2_int max_two min_two max_three min_three max_four min_four   -- for this text's walks alone
set_option linter.unusedVariables false
set_option linter.unusedSimpArgs false
/-! ### impl_PositionOf: function 60 -/
theorem impl_CardOf.some_ (x : Int) : ∃ c, impl_CardOf.f x = some c := by
  unfold impl_CardOf.f
  repeat' split
  all_goals exact ⟨_, rfl⟩
set_option maxHeartbeats 8000000 in
set_option maxRecDepth 100000 in
theorem impl_PositionOf.at_ (x card : Int) (B : Nat) (w : World) (hc : w.cell? ⟨B, 0, none⟩ = some (.int .i64 card)) :
    Calls Try.prog 98 (#[.int .i64 x] ++ #[.pointer (some ⟨B, 0, none⟩)]) w fun e w' => e = .returned (.bool (impl_CardOf.f x == some card)) ∧ Drawn0 w w' := by
  obtain ⟨c, hcc⟩ := impl_CardOf.some_ x
  have H := Aside0.mk hcc
  rw [show (impl_CardOf.f x == some card) = (c == card) by rw [hcc]; rfl]
  clear hcc
  show Calls Try.prog 98 #[.int .i64 x, .pointer (some ⟨B, 0, none⟩)] w _
  go_enter Try.func98, Try.ntmps98
  go_wp2
  go_quiet ((go_at_call 61; refine Calls.quiet_of ((impl_CardOf.calls x c _ H.out).mono fun e w' hd => ⟨hd.1, hd.2.out⟩)))
  go_wp2
  go_ret
  exact ⟨rfl, by repeat (first | exact Drawn0.refl _ | apply Drawn0.step)⟩
def impl_PositionOf.f (l0 : List Int) (a1 : Int) : Option (Int) := if a1 < 0 then (some (-1)) else (some (idxFrom (fun x => impl_CardOf.f x == some a1) l0 0))
set_option maxHeartbeats 8000000 in
set_option maxRecDepth 100000 in
theorem impl_PositionOf.calls (A0 : Option Addr) (c0 : Nat) (l0 : List Int) (a1 : Int) (r : Int) (w : World) (hr0 : Kd.C (Kd.int .i64) w A0 l0.length l0) (hc0 : l0.length ≤ c0) (h : impl_PositionOf.f l0 a1 = some r) :
    Calls Try.prog 60 #[.slice A0 l0.length c0, .int .i64 a1] w fun e w' => e = .returned (.int .i64 r) ∧ Below w.heap.size w w' := by
  have HR0 := Aside0.mk hr0
  have HC0 := Aside0.mk hc0
  have HB := Aside0.mk (below_alloc (Below.refl w.heap.size w) (.cells #[.int .i64 a1] 3))
  unfold impl_PositionOf.f at h
  clear hr0 hc0
  by_cases c1 : a1 < 0
  · rw [if_pos c1] at h
    obtain rfl := Option.some.inj h
    have c1b : decide (a1 < 0) = true := decide_eq_true c1
    clear c1 h
    go_enter Try.func60, Try.ntmps60
    go_wp2
    go_ret
    exact ⟨rfl, HB.out⟩
  · rw [if_neg c1] at h
    obtain rfl := Option.some.inj h
    have c1b : decide (a1 < 0) = false := decide_eq_false c1
    clear c1 h
    have hcell : (w.alloc (.cells #[.int .i64 a1] 3)).cell? ⟨w.heap.size, 0, none⟩ = some (.int .i64 a1) := (Whole.new w 3 #[.int .i64 a1]).cell 0
    have HP := Aside0.mk (slices_IndexFunc_Lint_int.pred (fun x => impl_CardOf.f x == some a1) 98 #[.pointer (some ⟨w.heap.size, 0, none⟩)] (enters_of Try.func98 (by kernel_rfl) rfl) A0 c0 l0 (w.alloc (.cells #[.int .i64 a1] 3)) (Kd.C_alloc HR0.out _) HC0.out (fun W x hb => impl_PositionOf.at_ x a1 w.heap.size W ((hb.cell (p := ⟨w.heap.size, 0, none⟩) (by simp)).trans hcell)))
    clear hcell
    obtain ⟨R, hR⟩ : ∃ R : Int, R = idxFrom (fun x => impl_CardOf.f x == some a1) l0 0 := ⟨_, rfl⟩
    rw [← hR] at HP
    rw [← hR]
    clear hR
    go_enter Try.func60, Try.ntmps60
    go_wp2_with (go_at_call 97; (refine HP.out.mono ?_); rintro e w' ⟨rfl, ⟨nd, rfl⟩⟩)
    go_ret
    exact ⟨rfl, by repeat (first | (with_reducible first | exact HB.out | apply below_alloc | apply pw_below_drewN | apply below_drew1) | exact HB.out)⟩
end Go.Proofs.Ytbeehklibkeecaa.F
end
section
/- Laid by a program of this claim's own. What the Go function does, as a Lean function, and the proof that the Go code does just that; Lean checks it. -/
namespace Go.Proofs.Ytbeehklibkeecaa.F
open Go.RowKit Go.Proofs.YtbeehklibkeecaaW.PrintWords Go.Proofs.YtbeehklibkeecaaW.PrintLast Go.Proofs.YtbeehklibkeecaaW.PrintMore
attribute [local go_sem] max2_int min2_int max_two min_two max_three min_three max_four min_four   -- for this text's walks alone
set_option linter.unusedVariables false
set_option linter.unusedSimpArgs false
/-! ### slices_Grow_Lint_int__nil: function 113 -/
def slices_Grow_Lint_int__nil.f (a1 : Int) : Option (List Int) := if 0 ≤ a1 then (if a1 < 17592186044416 then some [] else none) else none
set_option maxHeartbeats 8000000 in
set_option maxRecDepth 100000 in
theorem slices_Grow_Lint_int__nil.calls (a1 : Int) (r : List Int) (w : World) (h : slices_Grow_Lint_int__nil.f a1 = some r) :
    Calls Try.prog 113 #[.slice none 0 0, .int .i64 a1] w fun e w' => ∃ v0_ : Value, e = .returned (v0_) ∧ Kd.R (Kd.int .i64) 3 w' w.heap.size (fun _ => True) v0_ r ∧ Below w.heap.size w w' := by
  have HB := Aside0.mk (Below.refl w.heap.size w)
  unfold slices_Grow_Lint_int__nil.f at h
  by_cases c1 : 0 ≤ a1
  · rw [if_pos c1] at h
    by_cases c2 : a1 < 17592186044416
    · rw [if_pos c2] at h
      obtain rfl := Option.some.inj h
      have c3 : decide (a1 < 0) = false := decide_eq_false (by omega)
      by_cases c4 : 0 < a1
      · have c5 : decide (0 < a1) = true := decide_eq_true c4
        have c6 : decide (0 ≤ a1) = true := decide_eq_true c1
        obtain ⟨y281, hy281⟩ : ∃ y_ : List Int, y_ = (([] : List Int) ++ List.replicate (a1 : Int).toNat 0) := ⟨_, rfl⟩
        have hc7 : 0 ≤ (y281.length : Int) := Int.natCast_nonneg _
        have c7b0 := eq_true hc7
        have c7b1 : decide (0 ≤ (y281.length : Int)) = true := decide_eq_true hc7
        have Ny281 := Aside0.mk hy281
        have LM := Aside0.mk c2
        clear hy281 hc7 h
        go_enter Try.func113, Try.ntmps113
        go_wp2_with (first | (at_builtin; refine Kd.R_append_zeros (Kd.int .i64) (w0 := w) w.heap.size rfl (.tmp 20) (.tmp 21) 24 3 3 (.int .i64 0) 8 rfl Try.underlying24 Try.underlying3 info3 rfl (by decide) (by omega) (.slice none 0 0) ([] : List Int) 0 (a1 : Int) (fun _ => True) rfl rfl rfl ?aF ?aO c1 ?aB ?aS ?aL ?_; (case aB => exact (by repeat (first | (with_reducible first | exact HB.out | apply below_alloc | apply pw_below_drewN | apply below_drew1) | exact HB.out))); (case aF => exact (fun _ _ => trivial)); (case aO => exact ((Kd.R_nil _ _ _ _ (fun _ => True)))); (case aS => exact (below_size (by repeat (first | (with_reducible first | exact HB.out | apply below_alloc | apply pw_below_drewN | apply below_drew1) | exact HB.out)))); (case aL => have := LM.out; simp; omega); intro v282 w8 ho hb hg hat; rw [← Ny281.out] at ho; have n0_ := Aside0.mk (hb); have n1_ := Aside0.mk (ho); clear HB; have HB := n0_; have HO283 := n1_; clear n0_ n1_; clear ho hb hg hat; obtain ⟨Ao9, co9, eo9⟩ := Kd.R_slice HO283.out; subst eo9; obtain ⟨i010, hi010, _, hsz10, _⟩ := info_parts info3; have hcut10 := cut_to (P := Try.prog) 24 3 .i64 Try.underlying24 hi010 Ao9 y281.length co9 0 (by omega) (Int.natCast_nonneg _) (Kd.R_reads' HO283.out).2.1; have hr10 := Kd.R_take (m := 0) HO283.out (Nat.zero_le _); clear hi010 hsz10 HO283; have HO286 := Aside0.mk hr10; clear hr10))
        go_ret
        exact ⟨_, by first | rfl | (simp [errW_none, errW_some] <;> rfl) | (simp [*, errW_none, errW_some] <;> rfl), by (with_reducible repeat (first | apply Kd.R_alloc | apply Kd.R_drewN | apply Kd.R_drew)); exact HO286.out, by repeat (first | (with_reducible first | exact HB.out | apply below_alloc | apply pw_below_drewN | apply below_drew1) | exact HB.out)⟩
      · obtain rfl : a1 = 0 := by omega
        clear c1 c2 c4 h c3
        go_enter Try.func113, Try.ntmps113
        go_wp2
        go_ret
        exact ⟨_, rfl, Kd.R_nil _ _ _ _ _, HB.out⟩
    · rw [if_neg c2] at h
      cases h
  · rw [if_neg c1] at h
    cases h
/-! ### slices_Concat_Lint_int: function 89 -/
mutual
def slices_Concat_Lint_int.l0 : Nat → List (List Int) → Int → List (List Int) → Int → Int → Option (List Int)
  | 0, _, _, _, _, _ => none
  | k + 1, x0, x3, x9, x10, x11 => if x11 < x10 then (if 0 ≤ x11 then (if x11 < (x9.length : Int) then (if (wrap64 (x3 + ((rd_L1 x9 x11).length : Int))) < 0 then (none) else (slices_Concat_Lint_int.l0 k x0 (wrap64 (x3 + ((rd_L1 x9 x11).length : Int))) x9 x10 (wrap64 (x11 + 1)))) else (none)) else (none)) else ((slices_Grow_Lint_int__nil.f x3).bind fun t218 => (slices_Concat_Lint_int.l1 k t218 x0 (x0.length : Int) 0))
def slices_Concat_Lint_int.l1 : Nat → List Int → List (List Int) → Int → Int → Option (List Int)
  | 0, _, _, _, _ => none
  | k + 1, x6, x25, x26, x27 => if x27 < x26 then (if 0 ≤ x27 then (if x27 < (x25.length : Int) then (if x6.length + (rd_L1 x25 x27).length < 17592186044416 then (slices_Concat_Lint_int.l1 k (x6 ++ (rd_L1 x25 x27)) x25 x26 (wrap64 (x27 + 1))) else (none)) else (none)) else (none)) else (some x6)
end
def slices_Concat_Lint_int.f (k : Nat) (l0 : List (List Int)) : Option (List Int) := slices_Concat_Lint_int.l0 k l0 0 l0 (l0.length : Int) 0
set_option maxHeartbeats 8000000 in
set_option maxRecDepth 100000 in
theorem slices_Concat_Lint_int.calls (k : Nat) (A0 : Option Addr) (c0 : Nat) (l0 : List (List Int)) (r : List Int) (w : World) (hr0 : Kd.C (Kd.slice 3 (Kd.int .i64)) w A0 l0.length l0) (hc0 : l0.length ≤ c0) (h : slices_Concat_Lint_int.f k l0 = some r) :
    Calls Try.prog 89 #[.slice A0 l0.length c0] w fun e w' => ∃ v0_ : Value, e = .returned (v0_) ∧ Kd.R (Kd.int .i64) 3 w' w.heap.size (fun _ => True) v0_ r ∧ Below w.heap.size w w' := by
  have HR0 := Aside0.mk hr0
  have HC0 := Aside0.mk hc0
  clear hr0 hc0
  have HB := Aside0.mk (Below.refl w.heap.size w)
  have H : (slices_Concat_Lint_int.l0 k l0 0 l0 (l0.length : Int) 0) = some r := h
  clear h
  have H' := Aside0.mk H
  clear H
  go_enter Try.func89, Try.ntmps89
  go_wp2
  go_loopg [3, 11] k (fun kq v3 v11 w' => ∃ (x3_1 : Int) (x11_1 : Int), v3 = .int .i64 x3_1 ∧ v11 = .int .i64 x11_1 ∧ Aside0 (slices_Concat_Lint_int.l0 kq l0 x3_1 l0 (l0.length : Int) x11_1 = some r) ∧ Aside0 (kq ≤ k) ∧ Aside0 (Below w.heap.size w w'))
  case atStart => exact ⟨(0), (0), (by first | rfl | (simp; done) | (simp [*]; done)), (by first | rfl | (simp; done) | (simp [*]; done)), H', ⟨Nat.le_refl _⟩, ⟨by repeat (first | (with_reducible first | exact HB.out | apply below_alloc | apply pw_below_drewN | apply below_drew1) | exact HB.out)⟩⟩
  case round =>
    clear H'
    obtain ⟨x3_1, x11_1, rfl, rfl, HA, HK1, HB⟩ := hrel
    cases gk with
    | zero => exact absurd HA.out (by simp [slices_Concat_Lint_int.l0])
    | succ k1 =>
      have H := HA.out
      clear HA
      simp only [slices_Concat_Lint_int.l0] at H
      by_cases c2 : x11_1 < (l0.length : Int)
      · rw [if_pos c2] at H
        have c2b0 : decide (x11_1 < (l0.length : Int)) = true := decide_eq_true c2
        clear c2
        by_cases c3 : 0 ≤ x11_1
        · rw [if_pos c3] at H
          have c3b0 : decide (0 ≤ x11_1) = true := decide_eq_true c3
          clear c3
          by_cases c4 : x11_1 < (l0.length : Int)
          · rw [if_pos c4] at H
            have c4b0 : decide (x11_1 < (l0.length : Int)) = true := decide_eq_true c4
            clear c4
            by_cases c5 : (wrap64 (x3_1 + ((rd_L1 l0 x11_1).length : Int))) < 0
            · rw [if_pos c5] at H
              exact absurd H (by simp)
            · rw [if_neg c5] at H
              have c5b0 : decide ((wrap64 (x3_1 + ((rd_L1 l0 x11_1).length : Int))) < 0) = false := decide_eq_false c5
              clear c5
              have H' := Aside0.mk H
              clear H
              have p217 : 0 ≤ (x11_1 : Int) := of_decide_eq_true (by first | (with_reducible assumption) | assumption)
              have q217 : x11_1 < (l0.length : Int) := of_decide_eq_true (by first | (with_reducible assumption) | assumption)
              obtain ⟨ad217, A217_0, c217_0, e217, hx217_0, hl217_0, hi217_0⟩ := at_L1 HR0.out x11_1 p217 q217
              cases e217
              replace hx217_0 := (HB.out.cell (World.block_lt_of_cell? w _ hx217_0)).trans hx217_0
              have HR217_0 := Aside0.mk hi217_0
              have HC217_0 := Aside0.mk hl217_0
              clear hi217_0 hl217_0
              replace p217 := eq_true p217
              replace q217 := eq_true q217
              go_wp2
              go_roundg k1
              case measure => have := HK1.out; omega
              case rel => exact ⟨(wrap64 (x3_1 + ((rd_L1 l0 x11_1).length : Int))), (wrap64 (x11_1 + 1)), (by first | rfl | (simp; done) | (simp [*]; done)), (by first | rfl | (simp; done) | (simp [*]; done)), H', ⟨by have := HK1.out; omega⟩, ⟨by repeat (first | (with_reducible first | exact HB.out | apply below_alloc | apply pw_below_drewN | apply below_drew1) | exact HB.out)⟩⟩
          · rw [if_neg c4] at H
            exact absurd H (by simp)
        · rw [if_neg c3] at H
          exact absurd H (by simp)
      · rw [if_neg c2] at H
        have c2b0 : decide (x11_1 < (l0.length : Int)) = false := decide_eq_false c2
        clear c2
        replace H := Option.bind_eq_some_iff.mp H
        obtain ⟨t218, A60, H⟩ := H
        replace H : (slices_Concat_Lint_int.l1 k1 t218 l0 (l0.length : Int) 0) = some r := H
        have A6 := Aside0.mk A60
        clear A60
        have H' := Aside0.mk H
        clear H
        go_wp2_with (first | ((with_reducible refine gate_callee (f := 113) rfl ?_); refine goesL_ (some 24) rfl rfl Try.func113 (by kernel_rfl) rfl #[.slice none 0 0, .int .i64 x3_1] rfl (by (try simp only [List.map_toArray, List.map_cons, List.map_nil]); first | done | rfl | (simp only [List.length_drop, List.length_take]; rfl)) ?_; (with_reducible refine (slices_Grow_Lint_int__nil.calls x3_1 t218 _ A6.out).mono ?_); rintro e w7 ⟨v219, rfl, ho0, hb⟩; refine ⟨_, rfl, ?_⟩; have n0_ := Aside0.mk (Kd.R_lower ho0 (below_size (by repeat (first | (with_reducible first | exact HB.out | apply below_alloc | apply pw_below_drewN | apply below_drew1) | exact HB.out)))); have n1_ := Aside0.mk (below_step (by repeat (first | (with_reducible first | exact HB.out | apply below_alloc | apply pw_below_drewN | apply below_drew1) | exact HB.out)) hb); clear HB; have HO220 := n0_; have HB := n1_; clear n0_ n1_; (try clear hb); (try clear hb2); (try clear hk); (try clear hi); (try clear ho0)))
        go_loopg [6, 27] k1 (fun kq v6 v27 w' => ∃ (x6_2 : List Int) (x27_2 : Int), v27 = .int .i64 x27_2 ∧ Aside0 (slices_Concat_Lint_int.l1 kq x6_2 l0 (l0.length : Int) x27_2 = some r) ∧ Aside0 (kq ≤ k1) ∧ Aside0 (Kd.R (Kd.int .i64) 3 w' w.heap.size (fun _ => True) v6 x6_2) ∧ Aside0 (Below w.heap.size w w'))
        case atStart => exact ⟨(t218), (0), (by first | rfl | (simp; done) | (simp [*]; done)), H', ⟨Nat.le_refl _⟩, ⟨by (with_reducible repeat (first | apply Kd.R_alloc | apply Kd.R_drewN | apply Kd.R_drew)); exact HO220.out⟩, ⟨by repeat (first | (with_reducible first | exact HB.out | apply below_alloc | apply pw_below_drewN | apply below_drew1) | exact HB.out)⟩⟩
        case round =>
          clear H'
          try clear c2
          try clear c2b0
          try clear p2
          try clear q2
          try clear hx2
          try clear c3
          try clear c3b0
          try clear c4
          try clear c4b0
          try clear c5
          try clear c5b0
          try clear p6
          try clear hx217_0
          try clear p217
          try clear q217
          obtain ⟨x6_2, x27_2, rfl, HA, HK2, HO_6, HB⟩ := hrel
          cases gk with
          | zero => exact absurd HA.out (by simp [slices_Concat_Lint_int.l1])
          | succ k2 =>
            have H := HA.out
            clear HA
            simp only [slices_Concat_Lint_int.l1] at H
            by_cases c8 : x27_2 < (l0.length : Int)
            · rw [if_pos c8] at H
              have c8b0 : decide (x27_2 < (l0.length : Int)) = true := decide_eq_true c8
              clear c8
              by_cases c9 : 0 ≤ x27_2
              · rw [if_pos c9] at H
                have c9b0 : decide (0 ≤ x27_2) = true := decide_eq_true c9
                clear c9
                by_cases c10 : x27_2 < (l0.length : Int)
                · rw [if_pos c10] at H
                  have c10b0 : decide (x27_2 < (l0.length : Int)) = true := decide_eq_true c10
                  clear c10
                  by_cases c11 : x6_2.length + (rd_L1 l0 x27_2).length < 17592186044416
                  · rw [if_pos c11] at H
                    have LMc11 := Aside0.mk c11
                    clear c11
                    obtain ⟨y222, hy222⟩ : ∃ y_ : List Int, y_ = (x6_2 ++ (rd_L1 l0 x27_2)) := ⟨_, rfl⟩
                    replace H : (slices_Concat_Lint_int.l1 k2 y222 l0 (l0.length : Int) (wrap64 (x27_2 + 1))) = some r := by first | (rw [hy222]; with_reducible exact H) | (have H2_ := (Option.bind_some _ _).symm.trans H; rw [hy222]; with_reducible exact H2_) | (have H2_ := (Option.bind_some _ _).symm.trans H; with_reducible exact H2_) | with_reducible exact H | (rw [hy222]; exact H) | exact H
                    have Ny222 := Aside0.mk hy222
                    clear hy222
                    have H' := Aside0.mk H
                    clear H
                    have p221 : 0 ≤ (x27_2 : Int) := of_decide_eq_true (by first | (with_reducible assumption) | assumption)
                    have q221 : x27_2 < (l0.length : Int) := of_decide_eq_true (by first | (with_reducible assumption) | assumption)
                    obtain ⟨ad221, A221_0, c221_0, e221, hx221_0, hl221_0, hi221_0⟩ := at_L1 HR0.out x27_2 p221 q221
                    cases e221
                    replace hx221_0 := (HB.out.cell (World.block_lt_of_cell? w _ hx221_0)).trans hx221_0
                    have HR221_0 := Aside0.mk hi221_0
                    have HC221_0 := Aside0.mk hl221_0
                    clear hi221_0 hl221_0
                    replace p221 := eq_true p221
                    replace q221 := eq_true q221
                    go_wp2_with (first | ((with_reducible refine gate_builtin (b := .append) (xs := #[.tmp 31, .tmp 32]) rfl ?_); at_builtin; refine Kd.R_append_rows (Kd.int .i64) (w0 := w) w.heap.size rfl (.tmp 31) (.tmp 32) 24 3 (.int .i64 0) 8 rfl Try.underlying24 info3 rfl (by decide) (by omega) u6 x6_2 (rd_L1 l0 x27_2) _ _ _ (fun _ => True) (fun _ => False) rfl rfl ?aO ?aR (fun _ _ h => h) (fun _ h => h.elim) ?aF ?aB ?aS ?aL ?_; (case aR => repeat (first | exact (Kd.C_below HR221_0.out HB.out) | (with_reducible refine Kd.C_alloc ?_ _) | (with_reducible refine Kd.C_drewN ?_ _) | (with_reducible refine Kd.C_drew ?_))); (case aB => exact (by repeat (first | (with_reducible first | exact HB.out | apply below_alloc | apply pw_below_drewN | apply below_drew1) | exact HB.out))); (case aF => exact (fun _ _ => trivial)); (case aO => exact (by (with_reducible repeat (first | apply Kd.R_alloc | apply Kd.R_drewN | apply Kd.R_drew)); exact HO_6.out)); (case aS => exact (below_size (by repeat (first | (with_reducible first | exact HB.out | apply below_alloc | apply pw_below_drewN | apply below_drew1) | exact HB.out)))); (case aL => have := LMc11.out; omega); intro v223 w12 ho hb hg hat; rw [← Ny222.out] at ho; have n0_ := Aside0.mk (hb); have n1_ := Aside0.mk (ho); clear HB; clear HO_6; have HB := n0_; have HO224 := n1_; clear n0_ n1_; clear ho hb hg hat))
                    go_roundg k2
                    case measure => have := HK1.out; have := HK2.out; omega
                    case rel => exact ⟨(y222), (wrap64 (x27_2 + 1)), (by first | rfl | (simp; done) | (simp [*]; done)), H', ⟨by have := HK1.out; have := HK2.out; omega⟩, ⟨by (with_reducible repeat (first | apply Kd.R_alloc | apply Kd.R_drewN | apply Kd.R_drew)); exact HO224.out⟩, ⟨by repeat (first | (with_reducible first | exact HB.out | apply below_alloc | apply pw_below_drewN | apply below_drew1) | exact HB.out)⟩⟩
                  · rw [if_neg c11] at H
                    exact absurd H (by simp)
                · rw [if_neg c10] at H
                  exact absurd H (by simp)
              · rw [if_neg c9] at H
                exact absurd H (by simp)
            · rw [if_neg c8] at H
              have c8b0 : decide (x27_2 < (l0.length : Int)) = false := decide_eq_false c8
              clear c8
              obtain rfl := Option.some.inj H
              go_wp2
              go_ret
              exact ⟨_, by first | rfl | (simp [errW_none, errW_some] <;> rfl) | (simp [*, errW_none, errW_some] <;> rfl), by (with_reducible repeat (first | apply Kd.R_alloc | apply Kd.R_drewN | apply Kd.R_drew)); exact HO_6.out, by repeat (first | (with_reducible first | exact HB.out | apply below_alloc | apply pw_below_drewN | apply below_drew1) | exact HB.out)⟩
end Go.Proofs.Ytbeehklibkeecaa.F
end
section
/- Laid by a program of this claim's own. What the Go function does, as a Lean function, and the proof that the Go code does just that; Lean checks it. -/
namespace Go.Proofs.Ytbeehklibkeecaa.F
open Go.RowKit Go.Proofs.YtbeehklibkeecaaW.PrintWords Go.Proofs.YtbeehklibkeecaaW.PrintLast Go.Proofs.YtbeehklibkeecaaW.PrintMore
attribute [local go_sem] max2_int min2_int max_two min_two max_three min_three max_four min_four   -- for this text's walks alone
set_option linter.unusedVariables false
set_option linter.unusedSimpArgs false
/-! ### impl_GatherPiles: function 87 -/
-- IMPORT Derived.Shelf.SlicesE.Delete
-- IMPORT Derived.Lib.Overlaps
-- IMPORT Derived.Laws.Externs
-- IMPORT Derived.Lib.AppendZeros
-- IMPORT Derived.Lib.JoinLaws
-- IMPORT Derived.Test.YtbeehklibkeecaaI
/-! ### 1. Rows of headers -/
section
variable {α β : Type}
/-- The list with its element i taken out and put at place j of what is left. -/
def ordAt (l : List α) (i j : Nat) : List α := (l.take i ++ l.drop (i + 1)).take j ++ (l[i]?).toList ++ (l.take i ++ l.drop (i + 1)).drop j
theorem ordAt_map (f : α → β) (l : List α) (i j : Nat) : ordAt (l.map f) i j = (ordAt l i j).map f := by
  unfold ordAt
  rw [List.getElem?_map]
  cases l[i]? <;> simp [List.map_take, List.map_drop]
theorem ordAt_mem {l : List α} {i j : Nat} {x : α} (h : x ∈ ordAt l i j) : x ∈ l := by
  unfold ordAt at h
  rw [List.mem_append, List.mem_append] at h
  have key : ∀ y, y ∈ l.take i ++ l.drop (i + 1) → y ∈ l := fun y hy => by
    rcases List.mem_append.1 hy with h1 | h1
    · exact List.mem_of_mem_take h1
    · exact List.mem_of_mem_drop h1
  rcases h with (h | h) | h
  · exact key _ (List.mem_of_mem_take h)
  · cases e : l[i]? with
    | none => rw [e] at h; simp at h
    | some y =>
      rw [e] at h
      have : x = y := by simpa using h
      rw [this]
      exact List.mem_of_getElem? e
  · exact key _ (List.mem_of_mem_drop h)
theorem ordAt_length (l : List α) (i j : Nat) (hi : i < l.length) : (ordAt l i j).length = l.length := by
  unfold ordAt
  rw [List.getElem?_eq_getElem hi]
  simp
  omega
theorem reps_pairs {R : α → List Value → Prop} (ps : List α) : ∀ cs : List Value, Reps R 1 ps cs → ∃ D : List (α × Value), D.map Prod.fst = ps ∧ D.map Prod.snd = cs ∧ ∀ x ∈ D, R x.1 [x.2] := by
  induction ps with
  | nil =>
    intro cs h
    obtain rfl : cs = [] := List.eq_nil_of_length_eq_zero (by simpa using h.1)
    exact ⟨[], rfl, rfl, fun x hx => by simp at hx⟩
  | cons p ps ih =>
    intro cs h
    cases cs with
    | nil => have := h.1; simp at this
    | cons v rest =>
      have h0 : R p [v] := by have := h.2 0 p rfl; simpa using this
      have h1 := h.1
      have hr : Reps R 1 ps rest := ⟨by simp only [List.length_cons] at h1; omega, fun j q hj => by
        have := h.2 (j + 1) q (by simpa using hj)
        rw [Nat.mul_one] at this ⊢
        simpa using this⟩
      obtain ⟨D, e1, e2, e3⟩ := ih rest hr
      exact ⟨(p, v) :: D, by rw [List.map_cons, e1], by rw [List.map_cons, e2], fun x hx => by
        rcases List.mem_cons.1 hx with rfl | hx
        · exact h0
        · exact e3 x hx⟩
theorem pairs_reps {R : α → List Value → Prop} (D : List (α × Value)) (h : ∀ x ∈ D, R x.1 [x.2]) : Reps R 1 (D.map Prod.fst) (D.map Prod.snd) := by
  refine ⟨by simp, fun j p hj => ?_⟩
  rw [List.getElem?_map] at hj
  obtain ⟨x, hx, rfl⟩ := Option.map_eq_some_iff.1 hj
  obtain ⟨hlt, rfl⟩ := List.getElem?_eq_some_iff.1 hx
  rw [Nat.mul_one, List.drop_eq_getElem_cons (by simpa using hlt)]
  simp only [List.take_succ_cons, List.take_zero, List.getElem_map]
  exact h _ (List.getElem_mem hlt)
theorem reps_ordAt {R : α → List Value → Prop} {ps : List α} {cs : List Value} (h : Reps R 1 ps cs) (i j : Nat) : Reps R 1 (ordAt ps i j) (ordAt cs i j) := by
  obtain ⟨D, rfl, rfl, h3⟩ := reps_pairs ps cs h
  rw [ordAt_map, ordAt_map]
  exact pairs_reps _ (fun x hx => h3 x (ordAt_mem hx))
end
/-- The headers of a row of rows. -/
theorem heads {β : Type} {d : Kd β} (hsz : d.sz = 1) {w : World} {A : Addr} {n : Nat} {ps : List β} (h : d.C w (some A) n ps) (hn : 0 < n) :
    ∃ hs : List Value, hs.length = n ∧ (∀ j u, hs[j]? = some u → w.cell? (A.add j) = some u) ∧ (∀ u ∈ hs, u.oneCell' = true) ∧ Reps (d.K w) 1 ps hs := by
  obtain ⟨h1, h2, h3⟩ := h
  obtain ⟨ad, he, h4⟩ := h3 hn
  injection he with he
  subst he
  have key : ∀ j p, ps[j]? = some p → ∃ u, d.K w p [u] ∧ w.cell? (A.add j) = some u := fun j p hj => by
    obtain ⟨c, hc, hK, hcell⟩ := h4 j p hj
    rw [hsz] at hc hcell
    obtain ⟨u, rfl⟩ := List.length_eq_one_iff.1 hc
    refine ⟨u, hK, ?_⟩
    have := hcell 0 u rfl
    rwa [Nat.mul_one, Nat.add_zero] at this
  have hget : ∀ j (hj : j < n), ((List.range n).map fun j => (w.cell? (A.add j)).getD (.slice none 0 0))[j]? = some ((w.cell? (A.add j)).getD (.slice none 0 0)) := fun j hj => by
    rw [List.getElem?_map, List.getElem?_range hj]; rfl
  have hval : ∀ j (hj : j < n), ∃ p u, ps[j]? = some p ∧ d.K w p [u] ∧ w.cell? (A.add j) = some u ∧ ((List.range n).map fun j => (w.cell? (A.add j)).getD (.slice none 0 0))[j]? = some u := fun j hj => by
    have hp : ps[j]? = some ps[j] := List.getElem?_eq_getElem (by omega)
    obtain ⟨u, hK, hc⟩ := key j _ hp
    exact ⟨_, u, hp, hK, hc, by rw [hget j hj, hc]; rfl⟩
  refine ⟨(List.range n).map fun j => (w.cell? (A.add j)).getD (.slice none 0 0), by rw [List.length_map, List.length_range], fun j u hj => ?_, fun u hu => ?_, ⟨by rw [List.length_map, List.length_range, h1, Nat.mul_one], fun j p hj => ?_⟩⟩
  · have hlt : j < n := by have := (List.getElem?_eq_some_iff.1 hj).1; simpa using this
    obtain ⟨_, u', _, _, hc, he⟩ := hval j hlt
    rw [hj] at he
    injection he with he
    rw [he]; exact hc
  · obtain ⟨j, hj⟩ := List.getElem?_of_mem hu
    have hlt : j < n := by have := (List.getElem?_eq_some_iff.1 hj).1; simpa using this
    obtain ⟨_, u', _, hK, _, he⟩ := hval j hlt
    rw [hj] at he
    injection he with he
    rw [he]; exact d.K_one hK _ (List.mem_singleton.2 rfl)
  · have hlt : j < n := by have := (List.getElem?_eq_some_iff.1 hj).1; omega
    obtain ⟨p', u', hp, hK, _, he⟩ := hval j hlt
    rw [hj] at hp
    injection hp with hp
    subst hp
    obtain ⟨hl, hv⟩ := List.getElem?_eq_some_iff.1 he
    rw [Nat.mul_one, List.drop_eq_getElem_cons hl, List.take_succ_cons, List.take_zero, hv]
    exact hK
/-! ### 2. The library's functions on rows of headers -/
/-- A row of n headers of the call's own, with room; block by block. -/
def HRow (W : World) (base : Nat) (v : Value) (n m : Nat) (hs : List Value) : Prop := ∃ g cap cur, v = .slice (some ⟨g, 0, none⟩) n cap ∧ base ≤ g ∧ W.heap[g]? = some (.cells cur 24 (0, 0)) ∧ n ≤ cap ∧ m ≤ cap ∧ cap ≤ maxLen ∧ cur.size = cap ∧ cur.toList.take n = hs
theorem HRow.below {W W' : World} {base : Nat} {v : Value} {n m : Nat} {hs : List Value} (h : HRow W base v n m hs) (hb : Below W.heap.size W W') : HRow W' base v n m hs := by
  obtain ⟨g, cap, cur, h1, h2, h3, h4⟩ := h
  exact ⟨g, cap, cur, h1, h2, (hb.block g ((Array.getElem?_eq_some_iff.1 h3).1)).trans h3, h4⟩
theorem HRow.alloc {W : World} {base : Nat} {v : Value} {n m : Nat} {hs : List Value} (h : HRow W base v n m hs) (o : Obj) : HRow (W.alloc o) base v n m hs := HRow.below h (below_alloc (Below.refl _ _) o)
theorem HRow.drewN {W : World} {base : Nat} {v : Value} {n m : Nat} {hs : List Value} (h : HRow W base v n m hs) (k : Nat) : HRow (W.drewN k) base v n m hs := h
theorem HRow.own {W : World} {base : Nat} {v : Value} {n m : Nat} {hs : List Value} (h : HRow W base v n m hs) (hl : hs.length = n) : W.ownsRow base 24 1 v n hs := by
  obtain ⟨g, cap, cur, h1, h2, h3, h4, h5, h6, h7, h8⟩ := h
  exact ⟨by omega, .inr ⟨g, cap, cur, h1, h2, h3, h4, h6, by omega, by rw [Nat.mul_one]; exact h8⟩⟩
/-- One header of its own, by itself. -/
def HOne (W : World) (b : Nat) (u : Value) : Prop := W.heap[b]? = some (.cells #[u] 24 (0, 0))
theorem HOne.below {W W' : World} {b : Nat} {u : Value} (h : HOne W b u) (hb : Below W.heap.size W W') : HOne W' b u := (hb.block b ((Array.getElem?_eq_some_iff.1 h).1)).trans h
theorem HOne.new (W : World) (u : Value) : HOne (W.alloc (.cells #[u] 24)) W.heap.size u := by
  show (W.heap.push _)[W.heap.size]? = _
  simp
/-- Rows of one cell are left as they are. -/
def Keeps1 (W W' : World) : Prop := ∀ b u, HOne W b u → HOne W' b u
set_option maxHeartbeats 4000000 in
set_option maxRecDepth 100000 in
theorem clone_heads (A : Addr) (n c : Nat) (hs : List Value) (w W : World) (hl : hs.length = n) (hn : 2 ≤ n) (hmax : n ≤ 4) (hc : ∀ j u, hs[j]? = some u → w.cell? (A.add j) = some u) (h1 : ∀ u ∈ hs, u.oneCell' = true) (hb : Below w.heap.size w W) :
    Calls Try.prog 112 #[.slice (some A) n c] W fun e W' => ∃ v, e = .returned v ∧ HRow W' w.heap.size v n n hs ∧ Below w.heap.size w W' ∧ Keeps1 W W' := by
  have HC := Aside0.mk (show ∀ j u, hs[j]? = some u → W.cell? (A.add j) = some u from fun j u hj => pw_cell_below hb (hc j u hj))
  have HB := Aside0.mk hb
  have H1 := Aside0.mk h1
  have hnil := fun (W : World) (n : Nat) => eql_some_nil (P := Try.prog) 44 24 Try.underlying44 A n c W
  clear hb hc h1
  refine Calls.mono (P := Try.prog) (R := fun e W' => ∃ v, e = .returned v ∧ W'.ownsRow W.heap.size 24 1 v n hs ∧ Below W.heap.size W W') ?_ ?_
  · obtain ⟨i0, hi0, hz0, hz1, hz2⟩ := info_parts (show (Try.prog.info? 24).map (fun i => (i.zero, i.size, i.bytes)) = some (some (Value.slice none 0 0), 1, 24) by kernel_rfl)
    go_enter Try.func112, Try.ntmps112
    go_wp2_with (at_builtin; refine wpList_append_own _ rfl _ _ 44 rfl W.heap.size 24 i0 (Value.slice none 0 0) 1 24 Try.underlying44 hi0 hz0 hz1 hz2 rfl (by omega) _ _ _ rfl (World.ownsRow_made W #[] 0 (Nat.le_refl _) (Nat.zero_le _) (by simp)) A n c hs rfl ?qc1 ?qc2 ?qc3 ?qc4 ?qc5 ?qc6 ?_)
    case qc1 => rw [Nat.mul_one]; exact hl
    case qc2 => exact fun j u hj => Lib.cell?_alloc_some _ (HC.out j u hj)
    case qc3 => exact H1.out
    case qc4 => rw [Nat.zero_add]; simp [maxLen]; omega
    case qc5 => rw [Nat.zero_add]; omega
    case qc6 => simp
    intro v' w1 hown hgrow hnil2
    go_wp2
    go_ret
    exact ⟨v', rfl, by simpa using hown, ((Below.refl _ W).alloc (Nat.le_refl _) _).grown hgrow (by simp) (by intro k hk; simp [Value.ownBlock] at hk; omega)⟩
  · rintro e W' ⟨v, rfl, ho, hb2⟩
    refine ⟨v, rfl, ?_, below_then HB.out HB.out.size hb2, fun b u hu => HOne.below hu hb2⟩
    rcases ho.2 with ⟨_, h0⟩ | ⟨g, cap, cur, e1, e2, e3, e4, e5, e6, e7⟩
    · omega
    · exact ⟨g, cap, cur, e1, Nat.le_trans HB.out.size e2, e3, e4, e4, e5, by omega, by rwa [Nat.mul_one] at e7⟩
/-- A header, as an element of one cell. -/
abbrev HV : Type := {v : Value // v.oneCell' = true}
instance : Inhabited HV := ⟨⟨.slice none 0 0, rfl⟩⟩
theorem hv_lift (hs : List Value) (h1 : ∀ u ∈ hs, u.oneCell' = true) : ∃ D : List HV, D.map Subtype.val = hs := by
  induction hs with
  | nil => exact ⟨[], rfl⟩
  | cons u us ih =>
    obtain ⟨D, hD⟩ := ih (fun x hx => h1 x (List.mem_cons_of_mem _ hx))
    exact ⟨⟨u, h1 u List.mem_cons_self⟩ :: D, by rw [List.map_cons, hD]⟩
theorem putCells_take_ {α : Type} [Inhabited α] (enc : α → Value) (D : Array α) (cur : Array Value) (h : D.size ≤ cur.size) : (Go.Sort.putCells enc 0 D cur).toList.take D.size = D.toList.map enc := by
  apply List.ext_getElem
  · simp [Go.Sort.putCells]; omega
  · intro i h1 h2
    have hi : i < D.size := by simpa using h2
    simp [Go.Sort.putCells, hi, getElem!_pos]
theorem delete_heads (n i : Nat) (hs : List Value) (w W : World) (v : Value) (hl : hs.length = n) (hn : 2 ≤ n) (hmax : n ≤ 4) (hi : i < n) (h1 : ∀ u ∈ hs, u.oneCell' = true) (hv : HRow W w.heap.size v n n hs) (hb : Below w.heap.size w W) (i1 : Int) (hi1 : i1 = (i : Int) + 1) :
    Calls Try.prog 111 #[v, .int .i64 i, .int .i64 i1] W fun e W' => ∃ v', e = .returned v' ∧ HRow W' w.heap.size v' (n - 1) n (hs.take i ++ hs.drop (i + 1)) ∧ Below w.heap.size w W' ∧ Keeps1 W W' := by
  subst hi1
  obtain ⟨g, cap, cur, rfl, hbg, hh, hnc, _, hcm, hsz, ht⟩ := hv
  obtain ⟨D, hD⟩ := hv_lift hs h1
  have hDl : D.length = n := by have := congrArg List.length hD; simpa [hl] using this
  obtain ⟨i0, hi0, hz0, hz1, hz2⟩ := info_parts (show (Try.prog.info? 24).map (fun i => (i.zero, i.size, i.bytes)) = some (some (Value.slice none 0 0), 1, 24) by kernel_rfl)
  have hH : Go.Sort.Holds (Subtype.val : HV → Value) W g 0 D.toArray := by
    intro j hj
    rw [Nat.zero_add]
    have hj2 : j < D.length := by simpa using hj
    refine ⟨?_, by simp [World.frozen?, hh]⟩
    rw [cell_of_row W g j cur 24 (0, 0) hh]
    have hlt : j < cur.size := by omega
    have e1 : (cur.toList.take n)[j]? = some cur[j] := by
      rw [List.getElem?_take, if_pos (by omega)]
      simp [hlt]
    have e2 : (D.map Subtype.val)[j]? = some (D[j]).val := by rw [List.getElem?_map, List.getElem?_eq_getElem hj2]; rfl
    rw [ht, ← hD, e2] at e1
    rw [Array.getElem?_eq_getElem hlt, ← e1]
    simp [hj2, getElem!_pos]
  have hcon := AnyE.slices_Delete deleteLL (Subtype.val : HV → Value) (fun x => x.2) ⟨.slice none 0 0, rfl⟩ (fun w => Try.zeroValue24 w) i0 hi0 hz1 g 0 cap i (i + 1) D.toArray W hH (by simp; omega) hcm (by omega) (by simp; omega)
  have e1 : D.toArray.size = n := by simp [hDl]
  rw [e1] at hcon
  refine Calls.mono (P := Try.prog) hcon ?_
  rintro e W' ⟨rfl, q, rfl⟩
  have hg : g < W.heap.size := (Array.getElem?_eq_some_iff.1 hh).1
  obtain ⟨E, hE⟩ : ∃ E : Array HV, E = (D.toArray.toList.take i ++ D.toArray.toList.drop (i + 1) ++ List.replicate (i + 1 - i) (⟨.slice none 0 0, rfl⟩ : HV)).toArray := ⟨_, rfl⟩
  have hEs : E.size = n := by rw [hE]; simp; omega
  rw [← hE]
  have hrow : (Go.Sort.putRow Subtype.val (Go.Sort.ahead W q) g 0 E).heap[g]? = some (.cells (Go.Sort.putCells Subtype.val 0 E cur) 24 (0, 0)) := by
    show (W.heap.modify g (Go.Sort.onCells (Go.Sort.putCells Subtype.val 0 E)))[g]? = _
    rw [Array.getElem?_modify, if_pos rfl, hh]
    rfl
  have hfar : ∀ k, k ≠ g → (Go.Sort.putRow Subtype.val (Go.Sort.ahead W q) g 0 E).heap[k]? = W.heap[k]? := fun k hk => by
    show (W.heap.modify g (Go.Sort.onCells (Go.Sort.putCells Subtype.val 0 E)))[k]? = W.heap[k]?
    rw [Array.getElem?_modify, if_neg (fun e => hk e.symm)]
  refine ⟨_, by rw [show i + 1 - i = 1 by omega], ⟨g, cap, _, rfl, hbg, hrow, by omega, by omega, hcm, by simp [Go.Sort.putCells]; omega, ?_⟩, ?_, ?_⟩
  · have h2 := putCells_take_ (Subtype.val : HV → Value) E cur (by omega)
    rw [hEs] at h2
    rw [show n - 1 = min (n - 1) n by omega, ← List.take_take, h2, hE]
    simp only [List.toList_toArray, List.map_append, List.map_take, List.map_drop, hD]
    rw [List.take_append_of_le_length (by simp; omega), List.take_of_length_le (by simp; omega)]
  · refine ⟨hb.os, hb.tape, hb.output, ?_, fun k hk => ?_⟩
    · show w.heap.size ≤ (W.heap.modify g _).size
      rw [Array.size_modify]; exact hb.size
    · rw [hfar k (by omega)]; exact hb.block k hk
  · intro b u hu
    refine (hfar b (fun e => ?_)).trans hu
    subst e
    rw [HOne, hh] at hu
    injection hu with hu
    injection hu with hu
    rw [hu] at hsz
    simp at hsz
    omega
theorem wp_copy_runJ {P : Program} (w : World) {o : Oper} {a : Act} {K : Act → World → Prop} {Q : Exit → Act → World → Prop} (d s : Operand) (t t' : TypeId)
    (ho : o.op = .call { callee := .builtin .copy, args := #[d, s], argTypes := #[t, t'] }) (v u : Value) (hd : a.eval d = v) (hs : a.eval s = u) {v' : Value} {w' : World}
    (hr : (Builtin.copy_ #[t, t'] o.type #[v, u]).run P w = .ok v' w') (h : K (a.put o.dst v') w') : o.wp P a w K Q := by
  unfold Oper.wp execOp
  simp only [ho, resolve, invoke, builtin, Sem.run_bind, Sem.run_pure, Result.andThen_ok, List.map_toArray, List.map_cons, List.map_nil, hd, hs, hr]
  exact h
theorem wpList_copy_runJ {P : Program} (w : World) {ops : Array Oper} {rest : List Oper} {o : Oper} {a : Act} {Q : Exit → Act → World → Prop} (hgd : o.guard = none) (d s : Operand) (t t' : TypeId)
    (ho : o.op = .call { callee := .builtin .copy, args := #[d, s], argTypes := #[t, t'] }) (v u : Value) (hd : a.eval d = v) (hs : a.eval s = u) {v' : Value} {w' : World}
    (hr : (Builtin.copy_ #[t, t'] o.type #[v, u]).run P w = .ok v' w') (h : wpList P ops Q rest (a.put o.dst v') w') : wpList P ops Q (o :: rest) a w :=
  wpList_plain hgd fun _ hK => wp_copy_runJ w d s t t' ho v u hd hs hr (hK _ _ h)
theorem step_copy_runJ {P : Program} {ops : Array Oper} {o : Oper} {a : Act} {w : World} {K : Act → World → Prop} {Q : Exit → Act → World → Prop} {E : Prop}
    (hg : o.guard = none) (d x : Operand) (dT sT : TypeId) (hop : o.op = Op.call { callee := Callee.builtin Builtin.copy, args := #[d, x], argTypes := #[dT, sT] })
    (v u : Value) (hd : a.eval d = v) (hx : a.eval x = u) {v' : Value} {w' : World} (hr : (Builtin.copy_ #[dT, sT] o.type #[v, u]).run P w = .ok v' w') (hK : K (a.put o.dst v') w') :
    if Region.wanted o (yielded ops a.tmps) = true then Oper.wp P o a w K Q else E := by
  have hw : Region.wanted o (yielded ops a.tmps) = true := by simp [Region.wanted, hg]
  rw [if_pos hw]
  unfold Oper.wp
  simp [execOp, hop, resolve, invoke, builtin, hd, hx, hr, Result.andThen]
  exact hK
theorem isSome_setCellsJ (b : Nat) (vs : List Value) (o : Nat) (w : World) (h : ∀ j, j < vs.length → (w.cell? ⟨b, o + j, none⟩).isSome = true) (k : Nat) (hk : (w.cell? ⟨b, k, none⟩).isSome = true) : ((w.setCells b o vs).cell? ⟨b, k, none⟩).isSome = true := by
  by_cases hin : o ≤ k ∧ k < o + vs.length
  · have := World.cell?_setCells_in b vs o w h (k - o) (by omega)
    rw [show o + (k - o) = k by omega] at this
    rw [this]; rfl
  · rw [World.cell?_setCells_out b vs o w ⟨b, k, none⟩ (fun _ _ => by show k < o ∨ o + vs.length ≤ k; omega)]
    exact hk
set_option maxHeartbeats 8000000 in
set_option maxRecDepth 100000 in
theorem insert_shift_heads (b n c i vb : Nat) (cs : List Value) (x : Value) (w : World) (hi : i < n) (hroom : n + 1 ≤ c) (hc63 : c ≤ 9223372036854775807) (hvb : vb ≠ b)
    (hcl : cs.length = n) (hcs : ∀ j v, cs[j]? = some v → w.cell? ⟨b, j, none⟩ = some v) (hsp : ∀ j, j < n + 1 → (w.cell? ⟨b, j, none⟩).isSome = true) (hfz : ∀ j, w.frozen? ⟨b, j, none⟩ = false)
    (hvs : w.cell? ⟨vb, 0, none⟩ = some x) (h1c : ∀ v ∈ cs, v.oneCell' = true) (h1v : x.oneCell' = true)
    (tA tB : TypeId) (kA kB : Nat) (hsa : w.shape? vb = some (tA, kA)) (hsb : w.shape? b = some (tB, kB)) (hkB : kB ≠ 0) (hfa : w.frozen? ⟨vb, 0, none⟩ = false) (hfe : w.frozen? ⟨vb, kA, none⟩ = false) :
    Calls Try.prog 73 #[.slice (some ⟨b, 0, none⟩) n c, .int .i64 i, .slice (some ⟨vb, 0, none⟩) 1 1] w fun e w' =>
      e = .returned (.slice (some ⟨b, 0, none⟩) (n + 1) c) ∧ w' = (w.drew.setCells b (i + 1) (cs.drop i)).setCells b i [x] := by
  have hz2 : ¬ ((i : Int) = (n : Int)) := by omega
  have hsz : (Try.prog.info? 24).map (·.size) = some 1 := by kernel_rfl
  have hov : ∀ lb cb, (callFunc 102 #[.slice (some ⟨vb, 0, none⟩) 1 1, .slice (some ⟨b, i + 1, none⟩) lb cb]).run Try.prog w = .ok (.value (.bool false)) w := fun lb cb => by
    rw [run_callFunc_extern Try.func102 (by kernel_rfl) (by kernel_rfl) (by kernel_rfl) (e := Extern.SlicesOverlaps.overlaps #[44, 44] #[4]) (by kernel_rfl),
      Lib.run_overlaps_apart w 44 4 24 Try.underlying44 1 Try.sizeOf24 ⟨vb, 0, none⟩ ⟨b, i + 1, none⟩ 1 1 lb cb hvb tA tB kA kB hsa hsb hkB hfa hfe]
    rfl
  have hdl : (cs.drop i).length = n - i := by rw [List.length_drop, hcl]
  have hw1 : IntKind.i64.wrap ((i : Int) + 1) = (i : Int) + 1 := by rw [IntKind.wrap_i64]; omega
  have hw2 : IntKind.i64.wrap ((n : Int) + 1) = (n : Int) + 1 := by rw [IntKind.wrap_i64]; omega
  have hb1 : (0 : Int) ≤ (i : Int) + 1 := by omega
  have hin : i ≤ n := by omega
  have htn : ((i : Int) + 1).toNat = i + 1 := by omega
  have htn2 : ((n : Int) + 1).toNat = n + 1 := by omega
  have hb2 : ¬ (c = i + 1) := by omega
  have hb3 : (i : Int) ≤ (n : Int) + 1 := by omega
  have hb4 : ¬ (c = i) := by omega
  have hcp1 : ∀ ty dc sc, (Builtin.copy_ #[44, 44] ty #[.slice (some ⟨b, i + 1, none⟩) (n - i) dc, .slice (some ⟨b, i, none⟩) (n + 1 - i) sc]).run Try.prog w.drew = .ok (goInt (cs.drop i).length) (w.drew.setCells b (i + 1) (cs.drop i)) := fun ty dc sc =>
    run_copy_cells w.drew _ _ ty 24 b (i + 1) (n - i) dc ⟨b, i, none⟩ (n + 1 - i) sc (cs.drop i) Try.underlying44 hsz (by rw [hdl]; simp only [Nat.min_def]; split <;> omega)
      (fun j v hj => by rw [Addr.add_lit]; exact hcs (i + j) v (by rwa [List.getElem?_drop] at hj))
      (fun j hj => hsp _ (by omega)) (fun j hj => hfz _) (fun v hv => h1c v (List.mem_of_mem_drop hv))
  obtain ⟨W1, hW1⟩ : ∃ W1, W1 = w.drew.setCells b (i + 1) (cs.drop i) := ⟨_, rfl⟩
  have hsp1 : ∀ k, k < n + 1 → (W1.cell? ⟨b, k, none⟩).isSome = true := fun k hk => by
    rw [hW1]
    exact isSome_setCellsJ b (cs.drop i) (i + 1) w.drew (fun j hj => hsp _ (by rw [hdl] at hj; omega)) k (hsp k hk)
  have hcp2 : ∀ (W : World), (∀ x, W.cell? x = W1.cell? x) → (∀ x, W.frozen? x = W1.frozen? x) → ∀ ty dc, (Builtin.copy_ #[44, 44] ty #[.slice (some ⟨b, i, none⟩) (n + 1 - i) dc, .slice (some ⟨vb, 0, none⟩) 1 1]).run Try.prog W = .ok (goInt [x].length) (W.setCells b i [x]) := fun W hWc hWf ty dc =>
    run_copy_cells W _ _ ty 24 b i (n + 1 - i) dc ⟨vb, 0, none⟩ 1 1 [x] Try.underlying44 hsz (by simp only [List.length_singleton, Nat.min_def]; split <;> omega)
      (fun j v hj => by
        rw [Addr.add_lit, hWc, hW1, World.cell?_setCells_out b _ _ _ _ (fun h _ => absurd h hvb)]
        cases j with
        | zero => injection hj with hj; subst hj; exact hvs
        | succ j => simp at hj)
      (fun j hj => by rw [hWc]; refine hsp1 _ ?_; have h0 : j < 1 := hj; omega) (fun j hj => by rw [hWf, hW1, World.frozen?_setCells]; exact hfz _) (fun v hv => by rw [List.mem_singleton.1 hv]; exact h1v)
  rw [← hW1] at hcp1
  go_enter Try.func73, Try.ntmps73
  go_wp2_with (simp only [hov])
  go_region_law (refine step_copy_runJ rfl _ _ 44 44 rfl _ _ (by simp [Act.eval, Act.put]) (by simp [Act.eval, Act.put]) (hcp1 _ _ _) ?_)
  go_wp2_with (at_builtin; refine wpList_copy_runJ _ rfl _ _ 44 44 rfl _ _ rfl rfl (hcp2 _ (fun _ => rfl) (fun _ => rfl) _ _) ?_)
  go_ret
  first | exact ⟨rfl, rfl⟩ | exact ⟨rfl, by rw [hW1]⟩
set_option maxHeartbeats 8000000 in
set_option maxRecDepth 100000 in
theorem insert_end_heads (b n c vb : Nat) (x : Value) (w : World) (hroom : n + 1 ≤ c) (hc63 : c ≤ 9223372036854775807)
    (hsp : (w.cell? ⟨b, n, none⟩).isSome = true) (hfz : ∀ j, w.frozen? ⟨b, j, none⟩ = false)
    (hvs : w.cell? ⟨vb, 0, none⟩ = some x) (h1v : x.oneCell' = true) :
    Calls Try.prog 73 #[.slice (some ⟨b, 0, none⟩) n c, .int .i64 n, .slice (some ⟨vb, 0, none⟩) 1 1] w fun e w' =>
      e = .returned (.slice (some ⟨b, 0, none⟩) (n + 1) c) ∧ w' = w.setCells b n [x] := by
  have hsrc : Src Try.prog 1 44 (.slice (some ⟨vb, 0, none⟩) 1 1) 1 [x] w := Src.ofSlice w Try.underlying44 ⟨vb, 0, none⟩ 1 1 [x] (by simp) (fun j u hj => by
    rw [Addr.add_lit]
    cases j with
    | zero => injection hj with hj; subst hj; exact hvs
    | succ j => simp at hj) (fun v hv => by rw [List.mem_singleton.1 hv]; exact h1v)
  have hs2 : ∀ j, j < [x].length → (w.cell? ⟨b, 0 + n + j, none⟩).isSome = true := fun j hj => by
    have h0 : j < 1 := hj
    obtain rfl : j = 0 := by omega
    rw [Nat.zero_add, Nat.add_zero]; exact hsp
  go_enter Try.func73, Try.ntmps73
  go_wp2_with (at_builtin; refine wpList_append_room1 _ rfl _ _ 44 44 rfl 24 _ _ Try.underlying44 (show (Try.prog.info? 24).map (fun i => (i.zero, i.size, i.bytes)) = some (some (Value.slice none 0 0), 1, 24) by kernel_rfl) b 0 n c rfl _ rfl 1 [x] hsrc hroom hs2 (fun j hj => hfz _) ?_)
  go_ret
  first | exact ⟨rfl, rfl⟩ | exact ⟨rfl, by simp⟩
theorem shape_of {w : World} {g : Nat} {cur : Array Value} (h : w.heap[g]? = some (.cells cur 24 (0, 0))) : w.shape? g = some (24, cur.size) := by
  simp [World.shape?, h]
theorem frozen_of {w : World} {g : Nat} {cur : Array Value} {e : TypeId} (h : w.heap[g]? = some (.cells cur e (0, 0))) (j : Nat) : w.frozen? ⟨g, j, none⟩ = false := by
  simp [World.frozen?, h]
theorem ins_list {α : Type} (L cs : List α) (n i : Nat) (x : α) (hL : n ≤ L.length) (hcs : L.take (n - 1) = cs) (hi : i < n - 1) (M : List α) (hM : M = L.take (i + 1) ++ cs.drop i ++ L.drop (i + 1 + (cs.drop i).length)) : (M.take i ++ [x] ++ M.drop (i + [x].length)).take n = cs.take i ++ [x] ++ cs.drop i := by
  have a : (L.take (i + 1)).length = i + 1 := by simp; omega
  have b : M.take i = cs.take i := by
    rw [hM, List.append_assoc, List.take_append_of_le_length (by omega), List.take_take, ← hcs, List.take_take]
    congr 1; omega
  have c : M.drop (i + 1) = cs.drop i ++ L.drop (i + 1 + (cs.drop i).length) := by rw [hM, List.append_assoc, List.drop_left' a]
  rw [b, show i + [x].length = i + 1 from rfl, c, ← List.append_assoc, List.take_left' (by simp [← hcs]; omega)]
theorem insert_heads (n i b : Nat) (cs : List Value) (x : Value) (w W : World) (v : Value) (hl : cs.length = n - 1) (hn : 2 ≤ n) (hmax : n ≤ 4) (hi : i < n) (h1 : ∀ u ∈ cs, u.oneCell' = true) (hx : x.oneCell' = true) (hv : HRow W w.heap.size v (n - 1) n cs) (ho : HOne W b x) (hb : Below w.heap.size w W) :
    Calls Try.prog 73 #[v, .int .i64 i, .slice (some ⟨b, 0, none⟩) 1 1] W fun e W' => ∃ v', e = .returned v' ∧ HRow W' w.heap.size v' n n (cs.take i ++ [x] ++ cs.drop i) ∧ Below w.heap.size w W' := by
  obtain ⟨g, cap, cur, rfl, hbg, hh, hnc, hnm, hcm, hsz, ht⟩ := hv
  have hne : b ≠ g := fun e => by
    subst e
    rw [HOne, hh] at ho
    injection ho with ho
    injection ho with ho
    rw [ho] at hsz
    simp at hsz
    omega
  have hcell : ∀ j, w.cell? ⟨g, j, none⟩ = w.cell? ⟨g, j, none⟩ := fun _ => rfl
  have hc : ∀ j, W.cell? ⟨g, j, none⟩ = cur[j]? := fun j => cell_of_row W g j cur 24 (0, 0) hh
  have hbx : W.cell? ⟨b, 0, none⟩ = some x := by rw [cell_of_row W b 0 _ 24 (0, 0) ho]; rfl
  have hsp : ∀ j, j < n → (W.cell? ⟨g, j, none⟩).isSome = true := fun j hj => by rw [hc, Array.getElem?_eq_getElem (by omega)]; rfl
  have hcur : cur.toList.take (n - 1) = cs := ht
  by_cases hlt : i < n - 1
  · have h2 := insert_shift_heads g (n - 1) cap i b cs x W hlt (by omega) hcm hne hl (fun j u hj => by
        have hjl : j < n - 1 := by have := (List.getElem?_eq_some_iff.1 hj).1; omega
        rw [hc, ← hj, ← hcur, List.getElem?_take, if_pos hjl, Array.getElem?_toList]) (fun j hj => hsp j (by omega)) (frozen_of hh) hbx h1 hx 24 24 1 cur.size (shape_of ho) (shape_of hh) (by omega) (frozen_of ho 0) (frozen_of ho 1)
    refine Calls.mono (P := Try.prog) h2 ?_
    rintro e W' ⟨rfl, rfl⟩
    obtain ⟨cur1, a1, a2, a3⟩ := setCells_row (g := g) (e := 24) (cs.drop i) (i + 1) W.drew cur hh (by rw [List.length_drop]; omega)
    obtain ⟨cur2, b1, b2, b3⟩ := setCells_row (g := g) (e := 24) [x] i _ cur1 a1 (by simp; omega)
    refine ⟨_, rfl, ⟨g, cap, cur2, by rw [show n - 1 + 1 = n by omega], hbg, b1, by omega, by omega, hcm, by omega, ?_⟩, ?_⟩
    · rw [b3, a3, ← hcur]
      have hcl : cur.toList.length = cap := by rw [Array.length_toList]; exact hsz
      exact ins_list cur.toList _ n i x (by omega) rfl hlt _ rfl
    · have hk : ∀ k, k ≠ g → ((W.drew.setCells g (i + 1) (cs.drop i)).setCells g i [x]).heap[k]? = W.heap[k]? := fun k hk => (setCells_far _ _ k hk).trans (setCells_far _ _ k hk)
      obtain ⟨c1, c2, c3, c4⟩ := setCells_same g [x] i (W.drew.setCells g (i + 1) (cs.drop i))
      obtain ⟨d1, d2, d3, d4⟩ := setCells_same g (cs.drop i) (i + 1) W.drew
      exact ⟨(c1.trans d1).trans hb.os, (c2.trans d2).trans hb.tape, (c3.trans d3).trans hb.output, by rw [c4, d4]; exact hb.size, fun k hk2 => (hk k (by omega)).trans (hb.block k hk2)⟩
  · obtain rfl : i = n - 1 := by omega
    have h2 := insert_end_heads g (n - 1) cap b x W (by omega) hcm (hsp _ (by omega)) (frozen_of hh) hbx hx
    refine Calls.mono (P := Try.prog) h2 ?_
    rintro e W' ⟨rfl, rfl⟩
    obtain ⟨cur2, b1, b2, b3⟩ := setCells_row (g := g) (e := 24) [x] (n - 1) W cur hh (by simp; omega)
    refine ⟨_, rfl, ⟨g, cap, cur2, by rw [show n - 1 + 1 = n by omega], hbg, b1, by omega, by omega, hcm, by omega, ?_⟩, ?_⟩
    · have hcl : cur.toList.length = cap := by rw [Array.length_toList]; exact hsz
      rw [b3, hcur, List.take_of_length_le (l := cs) (by omega), List.drop_of_length_le (l := cs) (by omega), List.append_nil]
      exact List.take_left' (by simp; omega)
    · obtain ⟨d1, d2, d3, d4⟩ := setCells_same g [x] (n - 1) W
      exact ⟨d1.trans hb.os, d2.trans hb.tape, d3.trans hb.output, by rw [d4]; exact hb.size, fun k hk2 => (setCells_far _ _ k (by omega)).trans (hb.block k hk2)⟩
def impl_GatherPiles.f (k : Nat) (l0 : List (List Int)) (a1 a2 : Int) : Option (List Int × Bool) :=
  if 2 ≤ l0.length ∧ l0.length ≤ 4 ∧ 0 ≤ a1 ∧ a1 < (l0.length : Int) ∧ 0 ≤ a2 ∧ a2 < (l0.length : Int) then
    (slices_Concat_Lint_int.f k (ordAt l0 a1.toNat a2.toNat)).bind fun out => (impl_PacketOk.f k out).bind fun b => some (if b then (out, true) else ([], false))
  else some ([], false)
theorem order_C {w W : World} {v : Value} {l0 : List (List Int)} {hs : List Value} {i j : Nat} {x : Value} (hl : hs.length = l0.length) (hi : i < l0.length) (hx : hs[i]? = some x) (hr : Reps ((Kd.slice 3 (Kd.int .i64)).K w) 1 l0 hs) (hb : Below w.heap.size w W)
    (hv : HRow W w.heap.size v l0.length l0.length ((hs.take i ++ hs.drop (i + 1)).take j ++ [x] ++ (hs.take i ++ hs.drop (i + 1)).drop j)) :
    ∃ A3 c3, v = .slice A3 (ordAt l0 i j).length c3 ∧ Aside0 ((ordAt l0 i j).length ≤ c3) ∧ Aside0 ((Kd.slice 3 (Kd.int .i64)).C W A3 (ordAt l0 i j).length (ordAt l0 i j)) ∧ Aside0 (Below w.heap.size w W) := by
  have e : (hs.take i ++ hs.drop (i + 1)).take j ++ [x] ++ (hs.take i ++ hs.drop (i + 1)).drop j = ordAt hs i j := by unfold ordAt; rw [hx]; rfl
  rw [e] at hv
  have hlen : (ordAt l0 i j).length = l0.length := ordAt_length l0 i j hi
  have hlen2 : (ordAt hs i j).length = l0.length := by rw [ordAt_length hs i j (by omega), hl]
  have ho := HRow.own hv hlen2
  have hR : Reps ((Kd.slice 3 (Kd.int .i64)).K W) 1 (ordAt l0 i j) (ordAt hs i j) := (reps_ordAt hr i j).imp_ (fun p c hp => (Kd.slice 3 (Kd.int .i64)).K_below hb hp)
  obtain ⟨A, c, e2, hC⟩ := own_reads_row ho hR hlen
  obtain ⟨g, cap, cur, e3, _, _, h4, _⟩ := hv
  rw [e2] at e3
  injection e3 with e4 e5 e6
  subst e4 e6
  rw [hlen]
  exact ⟨_, _, e2, ⟨h4⟩, ⟨hC⟩, ⟨hb⟩⟩
set_option maxHeartbeats 16000000 in
set_option maxRecDepth 100000 in
theorem impl_GatherPiles.calls_in (k : Nat) (A : Addr) (c0 : Nat) (l0 : List (List Int)) (i j : Nat) (out : List Int) (b : Bool) (w : World) (hr0 : Kd.C (Kd.slice 3 (Kd.int .i64)) w (some A) l0.length l0) (hc0 : l0.length ≤ c0)
    (h2 : 2 ≤ l0.length) (h4 : l0.length ≤ 4) (hi : i < l0.length) (hj : j < l0.length) (hcat : slices_Concat_Lint_int.f k (ordAt l0 i j) = some out) (hok : impl_PacketOk.f k out = some b) :
    Calls Try.prog 87 #[.slice (some A) l0.length c0, .int .i64 i, .int .i64 j] w fun e w' => ∃ v0_ : Value, e = .returned (.tuple #[v0_, .bool b]) ∧ Kd.R (Kd.int .i64) 3 w' w.heap.size (fun _ => True) v0_ (if b then out else []) ∧ Below w.heap.size w w' := by
  obtain ⟨hs, hl, hcell, h1, hreps⟩ := heads rfl hr0 (by omega)
  obtain ⟨x, hx⟩ : ∃ x, hs[i]? = some x := ⟨_, List.getElem?_eq_getElem (by omega)⟩
  have hx1 : x.oneCell' = true := h1 x (List.mem_of_getElem? hx)
  obtain ⟨A1, n1, c1, rfl⟩ : ∃ A1 n1 c1, x = .slice A1 n1 c1 := by
    have hp : l0[i]? = some l0[i] := List.getElem?_eq_getElem hi
    obtain ⟨A1, c1, he, _⟩ := hreps.2 i _ hp
    obtain ⟨hlt, hv⟩ := List.getElem?_eq_some_iff.1 hx
    rw [Nat.mul_one, List.drop_eq_getElem_cons hlt, List.take_succ_cons, List.take_zero, hv] at he
    exact ⟨_, _, _, List.head_eq_of_cons_eq he⟩
  have hcl : ∀ W, Below w.heap.size w W → W.cell? (A.add i) = some (.slice A1 n1 c1) := fun W hb => pw_cell_below hb (hcell i _ hx)
  have e1 : IntKind.i64.wrap ((i : Int) + 1) = (i : Int) + 1 := by rw [IntKind.wrap_i64]; omega
  go_enter Try.func87, Try.ntmps87
  go_upto_region 3 with (fail)
  have c0_ := hcl w.drew (below_drew (Below.refl _ _))
  have HCL := Aside0.mk hcl
  clear hcl
  go_cut [8] (fun v8 wc => ∃ A3 c3, v8 = .slice A3 (ordAt l0 i j).length c3 ∧ Aside0 ((ordAt l0 i j).length ≤ c3) ∧ Aside0 ((Kd.slice 3 (Kd.int .i64)).C wc A3 (ordAt l0 i j).length (ordAt l0 i j)) ∧ Aside0 (Below w.heap.size w wc))
  case first =>
    go_region_with (first
      | (go_at_call 112; refine (clone_heads A l0.length c0 hs w _ hl h2 h4 hcell h1 (by repeat (first | exact Below.refl _ _ | apply below_alloc | apply below_drew | apply pw_below_drewN))).mono ?_; rintro e W1 ⟨v1, rfl, hv1, hb1, hk1⟩; have c1_ := HCL.out W1 hb1)
      | (go_at_call 111; refine (delete_heads l0.length i hs w _ _ hl h2 h4 hi h1 (by repeat (first | exact hv1 | apply HRow.alloc | apply HRow.drewN)) (by repeat (first | exact hb1 | apply below_alloc | apply below_drew | apply pw_below_drewN)) _ rfl).mono ?_; rintro e W2 ⟨v2, rfl, hv2, hb2, hk2⟩; have c2_ := HCL.out W2 hb2)
      | (go_at_call 73; refine (insert_heads l0.length j _ (hs.take i ++ hs.drop (i + 1)) (.slice A1 n1 c1) w _ _ (by simp; omega) h2 h4 hj (fun u hu => by rcases List.mem_append.1 hu with h | h; exact h1 u (List.mem_of_mem_take h); exact h1 u (List.mem_of_mem_drop h)) hx1 (by repeat (first | exact hv2 | apply HRow.alloc | apply HRow.drewN)) (by first | exact HOne.new _ _ | exact hk2 _ _ (HOne.new _ _) | exact hk2 _ _ (hk1 _ _ (HOne.new _ _))) (by repeat (first | exact hb2 | apply below_alloc | apply below_drew | apply pw_below_drewN))).mono ?_; rintro e W3 ⟨v3, rfl, hv3, hb3⟩))
    all_goals (go_wp2; go_meet)
    all_goals exact order_C hl hi hx hreps hb3 hv3
  case rest =>
    obtain ⟨A3, c3, rfl, HC3, HR3, HB⟩ := hcut
    have A11 := Aside0.mk hcat
    have A12 := Aside0.mk hok
    clear hcat hok hreps hcell h1 hx HCL c0_
    cases b with
    | true =>
      go_wp2_with (first
        | (go_at_call 89; (with_reducible refine (slices_Concat_Lint_int.calls k _ _ (ordAt l0 i j) out _ HR3.out HC3.out A11.out).mono ?_); rintro e w14 ⟨v935, rfl, ho0, hb⟩; have HO := Aside0.mk (Kd.R_lower ho0 (below_size HB.out)); have HB2 := Aside0.mk (below_step HB.out hb); clear HB ho0 hb; obtain ⟨Ao15, co15, eo15⟩ := Kd.R_slice HO.out; subst eo15)
        | (go_at_call 56; (with_reducible refine (impl_PacketOk.calls k _ _ out true _ (Kd.R_reads' HO.out).2.2 (Kd.R_reads' HO.out).2.1 A12.out).mono ?_); rintro e w16 ⟨rfl, hb⟩; have HO2 := Aside0.mk (Kd.R_below HO.out hb); have HB3 := Aside0.mk (below_step HB2.out hb); clear HB2 HO hb))
      go_ret2
      exact ⟨_, rfl, HO2.out, HB3.out⟩
    | false =>
      go_wp2_with (first
        | (go_at_call 89; (with_reducible refine (slices_Concat_Lint_int.calls k _ _ (ordAt l0 i j) out _ HR3.out HC3.out A11.out).mono ?_); rintro e w14 ⟨v935, rfl, ho0, hb⟩; have HO := Aside0.mk (Kd.R_lower ho0 (below_size HB.out)); have HB2 := Aside0.mk (below_step HB.out hb); clear HB ho0 hb; obtain ⟨Ao15, co15, eo15⟩ := Kd.R_slice HO.out; subst eo15)
        | (go_at_call 56; (with_reducible refine (impl_PacketOk.calls k _ _ out false _ (Kd.R_reads' HO.out).2.2 (Kd.R_reads' HO.out).2.1 A12.out).mono ?_); rintro e w16 ⟨rfl, hb⟩; have HO2 := Aside0.mk (Kd.R_below HO.out hb); have HB3 := Aside0.mk (below_step HB2.out hb); clear HB2 HO hb))
      go_ret2
      exact ⟨_, rfl, Kd.R_nil _ _ _ _ _, HB3.out⟩
set_option maxHeartbeats 8000000 in
set_option maxRecDepth 100000 in
theorem impl_GatherPiles.calls_out (A0 : Option Addr) (c0 n : Nat) (a1 a2 : Int) (w : World) (hc : ¬ (2 ≤ n ∧ n ≤ 4 ∧ 0 ≤ a1 ∧ a1 < (n : Int) ∧ 0 ≤ a2 ∧ a2 < (n : Int))) :
    Calls Try.prog 87 #[.slice A0 n c0, .int .i64 a1, .int .i64 a2] w fun e w' => ∃ v0_ : Value, e = .returned (.tuple #[v0_, .bool false]) ∧ Kd.R (Kd.int .i64) 3 w' w.heap.size (fun _ => True) v0_ [] ∧ Below w.heap.size w w' := by
  go_enter Try.func87, Try.ntmps87
  go_wp2
  all_goals first
    | (go_ret2; exact ⟨_, rfl, Kd.R_nil _ _ _ _ _, Below.refl _ _⟩)
    | (exfalso; apply hc; omega)
theorem impl_GatherPiles.calls (k : Nat) (A0 : Option Addr) (c0 : Nat) (l0 : List (List Int)) (a1 : Int) (a2 : Int) (r1 : List Int) (r2 : Bool) (w : World) (hr0 : Kd.C (Kd.slice 3 (Kd.int .i64)) w A0 l0.length l0) (hc0 : l0.length ≤ c0) (h : impl_GatherPiles.f k l0 a1 a2 = some (r1, r2)) :
    Calls Try.prog 87 #[.slice A0 l0.length c0, .int .i64 a1, .int .i64 a2] w fun e w' => ∃ v0_ : Value, e = .returned (.tuple #[v0_, .bool r2]) ∧ Kd.R (Kd.int .i64) 3 w' w.heap.size (fun _ => True) v0_ r1 ∧ Below w.heap.size w w' := by
  unfold impl_GatherPiles.f at h
  by_cases hc : 2 ≤ l0.length ∧ l0.length ≤ 4 ∧ 0 ≤ a1 ∧ a1 < (l0.length : Int) ∧ 0 ≤ a2 ∧ a2 < (l0.length : Int)
  · rw [if_pos hc] at h
    obtain ⟨out, h1, h⟩ := Option.bind_eq_some_iff.mp h
    obtain ⟨b, h2, h⟩ := Option.bind_eq_some_iff.mp h
    obtain ⟨q1, q2, q3, q4, q5, q6⟩ := hc
    obtain ⟨A, rfl⟩ : ∃ A, A0 = some A := by
      obtain ⟨ad, e, _⟩ := hr0.2.2 (by omega)
      exact ⟨ad, e⟩
    obtain ⟨i, rfl⟩ : ∃ i : Nat, a1 = i := ⟨a1.toNat, by omega⟩
    obtain ⟨j, rfl⟩ : ∃ j : Nat, a2 = j := ⟨a2.toNat, by omega⟩
    have h3 := impl_GatherPiles.calls_in k A c0 l0 i j out b w hr0 hc0 q1 q2 (by omega) (by omega) h1 h2
    cases b
    · obtain ⟨rfl, rfl⟩ : ([], false) = (r1, r2) := Option.some.inj h
      exact h3
    · obtain ⟨rfl, rfl⟩ : (out, true) = (r1, r2) := Option.some.inj h
      exact h3
  · rw [if_neg hc] at h
    obtain ⟨rfl, rfl⟩ : ([], false) = (r1, r2) := Option.some.inj h
    exact impl_GatherPiles.calls_out A0 c0 l0.length a1 a2 w hc
end Go.Proofs.Ytbeehklibkeecaa.F
end
