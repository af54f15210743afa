import Derived.Lib.SliceRun
import Derived.Shelf.Abstract
import Derived.Deep.RegionWith
import Derived.Test.YtbeehklibkeecaaZFnRounds3
import Derived.Test.YtbeehklibkeecaaZFnRounds2
import Derived.Test.YtbeehklibkeecaaProg
import Derived.Below
import Derived.Deep.Draws
import Derived.Deep.AppendLies
import Derived.Maps.AppendAt
import Derived.OwnWalk
import Derived.Laws.BytesArg
import Derived.Laws.MakeOwn
import Derived.Laws.OwnMore
import Derived.Deep.OwnRows
import Derived.Tactics
import Derived.Lib.ConvBytes
import Derived.Laws.Slices
import Derived.WalkKit
import Derived.KernelRfl
import Derived.RowKit3
import Derived.Deep.LoopGhost
import Derived.Deep.QuietTactic
import Derived.BigQuiet
import Derived.WideLaws
import Derived.Deep.DeepCutAuto
import Derived.Deep.CutBlock
import Derived.Deep.RegionHeld3
import Derived.Laws.Rows
import Derived.Lib.AppendStr
import Derived.ArgAppend
import Derived.Laws.IdiomCopy
import Derived.OrdersHeld
import Derived.Laws.BitsLemmas
import Derived.RowKit
import Derived.Test.YtbeehklibkeecaaZFnRounds1
import Derived.Laws.StructEq
section
/- Lemmas of my own that name no function of the program: laws of single operations, and plain lemmas beside the kit's words. -/
namespace Go.Proofs.Ytbeehklibkeecaa.F
open Go.RowKit Go.Proofs.YtbeehklibkeecaaW.PrintWords Go.Proofs.YtbeehklibkeecaaW.PrintLast Go.Proofs.YtbeehklibkeecaaW.PrintMore
set_option linter.unusedVariables false
set_option linter.unusedSimpArgs false
theorem eql_some_nil {P : Program} (T e : TypeId) (h : P.underlying T = some (.slice e)) (ad : Addr) (n c : Nat) (w : World) :
    (binOp .eql T (.slice (some ad) n c) (.slice none 0 0)).run P w = .ok (.bool false) w := Lib.run_eql_slice_nil w T e (some ad) n c 0 0 h
theorem eql_none_nil {P : Program} (T e : TypeId) (h : P.underlying T = some (.slice e)) (n c : Nat) (w : World) :
    (binOp .eql T (.slice none n c) (.slice none 0 0)).run P w = .ok (.bool true) w := Lib.run_eql_slice_nil w T e none n c 0 0 h
theorem C_none {d : Kd Int} {w : World} {n : Nat} {l : List Int} (h : d.C w none n l) : l = [] ∧ n = 0 := by
  obtain ⟨h1, h2, h3⟩ := h
  have : n = 0 := by
    rcases Nat.eq_zero_or_pos n with h | h
    · exact h
    · obtain ⟨ad, e, _⟩ := h3 h
      cases e
  subst this
  exact ⟨List.eq_nil_of_length_eq_zero h1, rfl⟩
/-- Block g holds just the cells cs, of element type t, and none of them is frozen. -/
def Whole (w : World) (g : Nat) (t : TypeId) (cs : Array Value) : Prop := w.heap[g]? = some (.cells cs t (0, 0))
section
variable {w w' : World} {g : Nat} {t : TypeId} {cs : Array Value}
theorem Whole.lt (h : Whole w g t cs) : g < w.heap.size := by
  unfold Whole at h
  exact (Array.getElem?_eq_some_iff.1 h).1
theorem Whole.cell (h : Whole w g t cs) (i : Nat) : w.cell? ⟨g, i, none⟩ = cs[i]? := cell_of_row w g i cs t (0, 0) h
theorem Whole.free (h : Whole w g t cs) (i : Nat) : w.frozen? ⟨g, i, none⟩ = false := by
  unfold Whole at h
  simp [World.frozen?, h]
theorem Whole.new (w : World) (t : TypeId) (cs : Array Value) : Whole (w.alloc (.cells cs t)) w.heap.size t cs := heap_alloc_new w _
theorem Whole.drewN (h : Whole w g t cs) (n : Nat) : Whole (w.drewN n) g t cs := h
theorem Whole.put (h : Whole w g t cs) (i : Nat) (u : Value) : Whole (w.setCell ⟨g, i, none⟩ u) g t (cs.setIfInBounds i u) := by
  unfold Whole at h ⊢
  simp [World.setCell, Array.getElem?_modify, h]
end
/-- A row of bools, as it lies in memory. -/
def boolRow (l : List Bool) : Array Value := (l.map Value.bool).toArray
theorem boolRow_at (l : List Bool) (i : Nat) (h : i < l.length) : (boolRow l)[i]? = some (.bool (l.getD i false)) := by
  unfold boolRow
  simp [List.getElem?_eq_getElem h, List.getD_eq_getElem?_getD]
theorem boolRow_set (l : List Bool) (i : Nat) (b : Bool) : (boolRow l).setIfInBounds i (.bool b) = boolRow (l.set i b) := by
  unfold boolRow
  simp [List.map_set]
/-- An element of a row of rows that is read. -/
theorem at_slice {β : Type} {e : Nat} {d : Kd β} {w : World} {A : Option Addr} {n : Nat} {xs : List (List β)} (h : (Kd.slice e d).C w A n xs) (i : Int) (h0 : 0 ≤ i) (h1 : i < n) :
    ∃ ad A1 c1, A = some ad ∧ w.cell? (ad.add i.toNat) = some (.slice A1 (xs.getD i.toNat []).length c1) ∧ (xs.getD i.toNat []).length ≤ c1 ∧ d.C w A1 (xs.getD i.toNat []).length (xs.getD i.toNat []) := by
  obtain ⟨ad, c, e1, hl, hR, hc⟩ := ReadsRow.get_ h [] i h0 h1
  obtain ⟨A1, c1, rfl, hle, hC⟩ := hR
  have := hc 0 _ rfl
  refine ⟨ad, A1, c1, e1, ?_, hle, hC⟩
  simpa [Kd.slice] using this
end Go.Proofs.Ytbeehklibkeecaa.F
end
section
/- Plain lemmas of my own on lists, numbers and rounds: no function of the program is named here. -/
namespace Go.Proofs.Ytbeehklibkeecaa.F
open Go.RowKit Go.Proofs.YtbeehklibkeecaaW.PrintWords Go.Proofs.YtbeehklibkeecaaW.PrintLast Go.Proofs.YtbeehklibkeecaaW.PrintMore
theorem w64_id {x : Int} (h0 : -9223372036854775808 ≤ x) (h1 : x ≤ 9223372036854775807) : wrap64 x = x := by
  unfold wrap64
  omega
theorem w64_nat (n : Nat) (h : n ≤ 4611686018427387904) : wrap64 ((n : Int) + 1) = ((n + 1 : Nat) : Int) := by
  rw [w64_id (by omega) (by omega)]
  omega
theorem mid_lt {α : Type} (pre : List α) (x : α) (rest : List α) : (pre.length : Int) < ((pre ++ x :: rest).length : Int) := by
  simp
  omega
theorem mid_nlt {α : Type} (pre : List α) : ¬ (pre.length : Int) < ((pre ++ ([] : List α)).length : Int) := by simp
theorem mid_rd (pre : List Int) (x : Int) (rest : List Int) : rd (pre ++ x :: rest) (pre.length : Int) = x := by
  unfold rd
  simp
theorem mid_set {α : Type} (pre : List α) (x y : α) (rest : List α) : (pre ++ x :: rest).set ((pre.length : Int)).toNat y = (pre ++ [y]) ++ rest := by
  simp
theorem mid_cons {α : Type} (pre : List α) (x : α) (rest : List α) : pre ++ x :: rest = (pre ++ [x]) ++ rest := by simp
theorem mid_succ {α : Type} (pre : List α) (x : α) (h : pre.length ≤ 4611686018427387904) : wrap64 ((pre.length : Int) + 1) = ((pre ++ [x]).length : Int) := by
  rw [w64_nat _ h]
  simp
theorem nn (n : Nat) : 0 ≤ (n : Int) := Int.natCast_nonneg n
/-- The numbers from a on, n of them. -/
def seqFrom (a : Int) : Nat → List Int
  | 0 => []
  | n + 1 => a :: seqFrom (a + 1) n
theorem seqFrom_length (n : Nat) : ∀ a, (seqFrom a n).length = n := by
  induction n with
  | zero => intro a; rfl
  | succ n ih => intro a; simp [seqFrom, ih]
theorem Ev.some_ {α : Type} (r : α) : Ev (fun _ => some r) r := Ev.now r
/-- Two answers of one thing are one. -/
theorem Ev.uniq {α : Type} {g : Nat → Option α} {a b : α} (h : Ev g a) (k : Ev g b) : a = b := by
  obtain ⟨K, hK⟩ := h
  obtain ⟨L, hL⟩ := k
  have h1 := hK (max K L) (Nat.le_max_left _ _)
  have h2 := hL (max K L) (Nat.le_max_right _ _)
  rw [h1] at h2
  exact Option.some.inj h2
/-- At a number of rounds of our own choosing. -/
theorem Ev.at_ {α : Type} {g : Nat → Option α} {r : α} (K : Nat) (h : ∀ k, K ≤ k → g k = some r) : Ev g r := ⟨K, h⟩
/-- One round on, to a call. -/
theorem Ev.stepb {α β : Type} {a : Nat → Option β} {b : Nat → β → Option α} {f : Nat → Option α} {x : β} {r : α} (ha : Ev a x) (h : ∀ k, f (k + 1) = (a k).bind (b k)) (hb : Ev (fun k => b k x) r) : Ev f r :=
  Ev.step h (Ev.bind ha hb)
theorem Ev.succ {α : Type} {g : Nat → Option α} {r : α} (h : Ev (fun k => g (k + 1)) r) : Ev g r := Ev.step (f := fun k => g (k + 1)) (fun _ => rfl) h
end Go.Proofs.Ytbeehklibkeecaa.F
end
section
/- Laid by a program of this claim's own. What the Go function does, as a Lean function, and the proof that the Go code does just that; Lean checks it. -/
namespace Go.Proofs.Ytbeehklibkeecaa.F
open Go.RowKit Go.Proofs.YtbeehklibkeecaaW.PrintWords Go.Proofs.YtbeehklibkeecaaW.PrintLast Go.Proofs.YtbeehklibkeecaaW.PrintMore
attribute [local go_sem] max2_int min2_int max_two min_two max_three min_three max_four min_four   -- for this text's walks alone
set_option linter.unusedVariables false
set_option linter.unusedSimpArgs false
def errW : Option Int → Value
  | none => .nilIface
  | some c => .iface 0 (.int .i64 c)
theorem errW_none : errW none = .nilIface := rfl
theorem errW_some (c : Int) : errW (some c) = .iface 0 (.int .i64 c) := rfl
theorem info3 : (Try.prog.info? 3).map (fun i => (i.zero, i.size, i.bytes)) = some (some (.int .i64 0), 1, 8) := by kernel_rfl
theorem info24 : (Try.prog.info? 24).map (fun i => (i.zero, i.size, i.bytes)) = some (some (.slice none 0 0), 1, 24) := by kernel_rfl
-- the values' own types
def rd_L1 (xs : List (List Int)) (i : Int) : (List Int) := xs.getD i.toNat ([] : List Int)
theorem at_L1 {w : World} {A : Option Addr} {n : Nat} {xs : List (List Int)} (h : Kd.C (Kd.slice 3 (Kd.int .i64)) w A n xs) (i : Int) (h0 : 0 ≤ i) (h1 : i < n) : ∃ ad A0 c0, A = some ad ∧ w.cell? (ad.add i.toNat) = some (.slice A0 (rd_L1 xs i).length c0) ∧ (rd_L1 xs i).length ≤ c0 ∧ (Kd.int .i64).C w A0 (rd_L1 xs i).length (rd_L1 xs i) := by
  obtain ⟨ad, c, e, _, hK, hc0⟩ := Kd.C_get h ([] : List Int) i h0 h1
  have hc : ∀ j u, c[j]? = some u → w.cell? (ad.add (i.toNat * 1 + j)) = some u := hc0
  obtain ⟨A0, c0, rfl, l0, g0⟩ := hK
  exact ⟨ad, A0, c0, e, by have hq := hc 0 _ rfl; rwa [Nat.mul_one, Nat.add_zero] at hq, l0, g0⟩
end Go.Proofs.Ytbeehklibkeecaa.F
end
section
/- Laid by a program of this claim's own. What the Go function does, as a Lean function, and the proof that the Go code does just that; Lean checks it. -/
namespace Go.Proofs.Ytbeehklibkeecaa.F
open Go.RowKit Go.Proofs.YtbeehklibkeecaaW.PrintWords Go.Proofs.YtbeehklibkeecaaW.PrintLast Go.Proofs.YtbeehklibkeecaaW.PrintMore
attribute [local go_sem] max2_int min2_int max_two min_two max_three min_three max_four min_four   -- for this text's walks alone
set_option linter.unusedVariables false
set_option linter.unusedSimpArgs false
/-! ### impl_PilesOk: function 22 -/
def impl_PilesOk.f (a0 : Int) (a1 : Int) : Option (Bool) := if a1 ≥ 2 then (if a1 ≤ 4 then (if a0 ≥ a1 then (if a0 ≤ 12 then (if a1 = 0 then (none) else (some ((Int.tmod a0 a1) == 0))) else (some false)) else (some false)) else (some false)) else (some false)
set_option maxHeartbeats 8000000 in
set_option maxRecDepth 100000 in
theorem impl_PilesOk.calls (a0 : Int) (a1 : Int) (r : Bool) (w : World) (h : impl_PilesOk.f a0 a1 = some r) :
    Calls Try.prog 22 #[.int .i64 a0, .int .i64 a1] w fun e w' => e = .returned (.bool r) ∧ Drawn0 w w' := by
  have H : (if a1 ≥ 2 then (if a1 ≤ 4 then (if a0 ≥ a1 then (if a0 ≤ 12 then (if a1 = 0 then (none) else (some ((Int.tmod a0 a1) == 0))) else (some false)) else (some false)) else (some false)) else (some false)) = some r := h
  clear h
  by_cases c3 : a1 ≥ 2
  · rw [if_pos c3] at H
    have c3b0 : decide (2 ≤ a1) = true := decide_eq_true c3
    clear c3
    by_cases c4 : a1 ≤ 4
    · rw [if_pos c4] at H
      have c4b0 : decide (a1 ≤ 4) = true := decide_eq_true c4
      clear c4
      by_cases c5 : a0 ≥ a1
      · rw [if_pos c5] at H
        have c5b0 : decide (a1 ≤ a0) = true := decide_eq_true c5
        clear c5
        by_cases c6 : a0 ≤ 12
        · rw [if_pos c6] at H
          have c6b0 : decide (a0 ≤ 12) = true := decide_eq_true c6
          clear c6
          by_cases c7 : a1 = 0
          · rw [if_pos c7] at H
            exact absurd H (by simp)
          · rw [if_neg c7] at H
            have c7b0 : (a1 == 0) = false := beq_eq_false_iff_ne.mpr c7
            have c7b1 : (a1 != 0) = true := bne_iff_ne.mpr c7
            obtain rfl := Option.some.inj H
            go_enter Try.func22, Try.ntmps22
            go_wp2
            go_ret
            exact ⟨by first | rfl | (simp; done) | (simp [*]; done), by repeat (first | exact Drawn0.refl _ | apply Drawn0.step)⟩
        · rw [if_neg c6] at H
          have c6b0 : decide (a0 ≤ 12) = false := decide_eq_false c6
          clear c6
          obtain rfl := Option.some.inj H
          go_enter Try.func22, Try.ntmps22
          go_wp2
          go_ret
          exact ⟨by first | rfl | (simp; done) | (simp [*]; done), by repeat (first | exact Drawn0.refl _ | apply Drawn0.step)⟩
      · rw [if_neg c5] at H
        have c5b0 : decide (a1 ≤ a0) = false := decide_eq_false c5
        clear c5
        obtain rfl := Option.some.inj H
        go_enter Try.func22, Try.ntmps22
        go_wp2
        go_ret
        exact ⟨by first | rfl | (simp; done) | (simp [*]; done), by repeat (first | exact Drawn0.refl _ | apply Drawn0.step)⟩
    · rw [if_neg c4] at H
      have c4b0 : decide (a1 ≤ 4) = false := decide_eq_false c4
      clear c4
      obtain rfl := Option.some.inj H
      go_enter Try.func22, Try.ntmps22
      go_wp2
      go_ret
      exact ⟨by first | rfl | (simp; done) | (simp [*]; done), by repeat (first | exact Drawn0.refl _ | apply Drawn0.step)⟩
  · rw [if_neg c3] at H
    have c3b0 : decide (2 ≤ a1) = false := decide_eq_false c3
    clear c3
    obtain rfl := Option.some.inj H
    go_enter Try.func22, Try.ntmps22
    go_wp2
    go_ret
    exact ⟨by first | rfl | (simp; done) | (simp [*]; done), by repeat (first | exact Drawn0.refl _ | apply Drawn0.step)⟩
end Go.Proofs.Ytbeehklibkeecaa.F
end
section
/- Laid by a program of this claim's own. What the Go function does, as a Lean function, and the proof that the Go code does just that; Lean checks it. -/
namespace Go.Proofs.Ytbeehklibkeecaa.F
open Go.RowKit Go.Proofs.YtbeehklibkeecaaW.PrintWords Go.Proofs.YtbeehklibkeecaaW.PrintLast Go.Proofs.YtbeehklibkeecaaW.PrintMore
attribute [local go_sem] max2_int min2_int max_two min_two max_three min_three max_four min_four   -- for this text's walks alone
set_option linter.unusedVariables false
set_option linter.unusedSimpArgs false
/-! ### impl_CardOf: function 61 -/
def impl_CardOf.f (a0 : Int) : Option (Int) := if a0 < 0 then (if (wrap64 ((-1) - a0)) ≥ 12 then (some (-1)) else (some (wrap64 ((-1) - a0)))) else (if a0 ≥ 12 then (some (-1)) else (some a0))
set_option maxHeartbeats 8000000 in
set_option maxRecDepth 100000 in
theorem impl_CardOf.calls (a0 : Int) (r : Int) (w : World) (h : impl_CardOf.f a0 = some r) :
    Calls Try.prog 61 #[.int .i64 a0] w fun e w' => e = .returned (.int .i64 r) ∧ Drawn0 w w' := by
  have H : (if a0 < 0 then (if (wrap64 ((-1) - a0)) ≥ 12 then (some (-1)) else (some (wrap64 ((-1) - a0)))) else (if a0 ≥ 12 then (some (-1)) else (some a0))) = some r := h
  clear h
  by_cases c2 : a0 < 0
  · rw [if_pos c2] at H
    have c2b0 : decide (a0 < 0) = true := decide_eq_true c2
    clear c2
    by_cases c3 : (wrap64 ((-1) - a0)) ≥ 12
    · rw [if_pos c3] at H
      have c3b0 : decide (12 ≤ (wrap64 ((-1) - a0))) = true := decide_eq_true c3
      clear c3
      obtain rfl := Option.some.inj H
      go_enter Try.func61, Try.ntmps61
      go_wp2
      go_ret
      exact ⟨by first | rfl | (simp; done) | (simp [*]; done), by repeat (first | exact Drawn0.refl _ | apply Drawn0.step)⟩
    · rw [if_neg c3] at H
      have c3b0 : decide (12 ≤ (wrap64 ((-1) - a0))) = false := decide_eq_false c3
      clear c3
      obtain rfl := Option.some.inj H
      go_enter Try.func61, Try.ntmps61
      go_wp2
      go_ret
      exact ⟨by first | rfl | (simp; done) | (simp [*]; done), by repeat (first | exact Drawn0.refl _ | apply Drawn0.step)⟩
  · rw [if_neg c2] at H
    have c2b0 : decide (a0 < 0) = false := decide_eq_false c2
    clear c2
    by_cases c4 : a0 ≥ 12
    · rw [if_pos c4] at H
      have c4b0 : decide (12 ≤ a0) = true := decide_eq_true c4
      clear c4
      obtain rfl := Option.some.inj H
      go_enter Try.func61, Try.ntmps61
      go_wp2
      go_ret
      exact ⟨by first | rfl | (simp; done) | (simp [*]; done), by repeat (first | exact Drawn0.refl _ | apply Drawn0.step)⟩
    · rw [if_neg c4] at H
      have c4b0 : decide (12 ≤ a0) = false := decide_eq_false c4
      clear c4
      obtain rfl := Option.some.inj H
      go_enter Try.func61, Try.ntmps61
      go_wp2
      go_ret
      exact ⟨by first | rfl | (simp; done) | (simp [*]; done), by repeat (first | exact Drawn0.refl _ | apply Drawn0.step)⟩
end Go.Proofs.Ytbeehklibkeecaa.F
end
section
/- Laid by a program of this claim's own. What the Go function does, as a Lean function, and the proof that the Go code does just that; Lean checks it. -/
namespace Go.Proofs.Ytbeehklibkeecaa.F
open Go.RowKit Go.Proofs.YtbeehklibkeecaaW.PrintWords Go.Proofs.YtbeehklibkeecaaW.PrintLast Go.Proofs.YtbeehklibkeecaaW.PrintMore
attribute [local go_sem] max2_int min2_int max_two min_two max_three min_three max_four min_four   -- for this text's walks alone
set_option linter.unusedVariables false
set_option linter.unusedSimpArgs false
/-! ### impl_PacketOk: function 56 -/
def impl_PacketOk.l0 : Nat → List Int → List Bool → Int → Option (Bool)
  | 0, _, _, _ => none
  | k + 1, l, met, x => if x < (l.length : Int) then (if 0 ≤ x then ((impl_CardOf.f (rd l x)).bind fun c => (if c < 0 then (some false) else (if c < 12 then (if met.getD c.toNat false = true then (some false) else (impl_PacketOk.l0 k l (met.set c.toNat true) (wrap64 (x + 1)))) else (none)))) else (none)) else (some true)
def impl_PacketOk.f (k : Nat) (l0 : List Int) : Option (Bool) := impl_PacketOk.l0 k l0 (List.replicate 12 false) 0
set_option maxHeartbeats 8000000 in
set_option maxRecDepth 100000 in
theorem impl_PacketOk.calls (k : Nat) (A0 : Option Addr) (c0 : Nat) (l0 : List Int) (r : Bool) (w : World) (hr0 : Kd.C (Kd.int .i64) w A0 l0.length l0) (hc0 : l0.length ≤ c0) (h : impl_PacketOk.f k l0 = some r) :
    Calls Try.prog 56 #[.slice A0 l0.length c0] w fun e w' => e = .returned (.bool r) ∧ Below w.heap.size w w' := by
  have HR0 := Aside0.mk hr0
  have HC0 := Aside0.mk hc0
  clear hr0 hc0
  have H' := Aside0.mk h
  clear h
  go_enter Try.func56, Try.ntmps56
  go_wp2
  go_loopg [9] k (fun kq v9 w' => ∃ (x9 : Int) (met : List Bool), v9 = .int .i64 x9 ∧ Aside0 (impl_PacketOk.l0 kq l0 met x9 = some r) ∧ Aside0 (kq ≤ k) ∧ Aside0 (met.length = 12) ∧ Aside0 (Whole w' w.heap.size 84 (boolRow met)) ∧ Aside0 (Below w.heap.size w w'))
  case atStart => exact ⟨0, List.replicate 12 false, rfl, H', ⟨Nat.le_refl _⟩, ⟨rfl⟩, ⟨Whole.new w 84 _⟩, ⟨(Below.refl _ _).alloc (Nat.le_refl _) _⟩⟩
  case round =>
    clear H'
    obtain ⟨x9, met, rfl, HA, HK1, HL, HW, HB⟩ := hrel
    cases gk with
    | zero => exact absurd HA.out (by simp [impl_PacketOk.l0])
    | succ k1 =>
      have H := HA.out
      clear HA
      simp only [impl_PacketOk.l0] at H
      by_cases c4 : x9 < (l0.length : Int)
      · rw [if_pos c4] at H
        have c4b0 : decide (x9 < (l0.length : Int)) = true := decide_eq_true c4
        by_cases c5 : 0 ≤ x9
        · rw [if_pos c5] at H
          have c5b0 : decide (0 ≤ x9) = true := decide_eq_true c5
          obtain ⟨ad, ead, hx0⟩ := Kd.at_int (Kd.C_below HR0.out HB.out) x9 c5 c4
          cases ead
          replace c4 := eq_true c4
          replace c5 := eq_true c5
          replace H := Option.bind_eq_some_iff.mp H
          obtain ⟨c, A7, H⟩ := H
          have A8 := Aside0.mk A7
          clear A7
          by_cases c6 : c < 0
          · rw [if_pos c6] at H
            have c6b0 : decide (c < 0) = true := decide_eq_true c6
            clear c6
            obtain rfl := Option.some.inj H
            go_wp2_with (go_at_call 61; (with_reducible refine (impl_CardOf.calls (rd l0 x9) c _ A8.out).mono ?_); rintro e w' ⟨rfl, ⟨nd, rfl⟩⟩)
            go_ret
            exact ⟨rfl, by repeat (first | (with_reducible first | exact HB.out | apply below_alloc | apply pw_below_drewN | apply below_drew1) | exact HB.out)⟩
          · rw [if_neg c6] at H
            have c6b0 : decide (c < 0) = false := decide_eq_false c6
            have c6b1 : decide (0 ≤ c) = true := decide_eq_true (by omega)
            by_cases c7 : c < 12
            · rw [if_pos c7] at H
              have c7b0 : decide (c < 12) = true := decide_eq_true c7
              have hcl : c.toNat < met.length := by have := HL.out; omega
              have hcell := HW.out.cell c.toNat
              rw [boolRow_at met c.toNat hcl] at hcell
              have hfr := HW.out.free c.toNat
              have p7 := eq_true (show 0 ≤ c by omega)
              have q7 := eq_true c7
              clear c6 c7
              by_cases c8 : met.getD c.toNat false = true
              · rw [if_pos c8] at H
                rw [c8] at hcell
                obtain rfl := Option.some.inj H
                go_wp2_with (go_at_call 61; (with_reducible refine (impl_CardOf.calls (rd l0 x9) c _ A8.out).mono ?_); rintro e w' ⟨rfl, ⟨nd, rfl⟩⟩)
                go_ret
                exact ⟨rfl, by repeat (first | (with_reducible first | exact HB.out | apply below_alloc | apply pw_below_drewN | apply below_drew1) | exact HB.out)⟩
              · rw [if_neg c8] at H
                replace c8 := Bool.eq_false_iff.mpr c8
                rw [c8] at hcell
                have H' := Aside0.mk H
                clear H
                go_wp2_with (go_at_call 61; (with_reducible refine (impl_CardOf.calls (rd l0 x9) c _ A8.out).mono ?_); rintro e w' ⟨rfl, ⟨nd, rfl⟩⟩)
                go_roundg k1
                case measure => have := HK1.out; omega
                case rel => exact ⟨wrap64 (x9 + 1), met.set c.toNat true, rfl, H', ⟨by have := HK1.out; omega⟩, ⟨by rw [List.length_set]; exact HL.out⟩, ⟨by first | (rw [← boolRow_set]; exact (HW.out.put c.toNat (.bool true)).drewN _) | (rw [← boolRow_set]; exact (HW.out.drewN _).put c.toNat (.bool true))⟩, ⟨by first | exact (pw_below_drewN HB.out _).setCell (Nat.le_refl _) _ | exact pw_below_drewN (HB.out.setCell (Nat.le_refl _) _) _⟩⟩
            · rw [if_neg c7] at H
              exact absurd H (by simp)
        · rw [if_neg c5] at H
          exact absurd H (by simp)
      · rw [if_neg c4] at H
        have c4b0 : decide (x9 < (l0.length : Int)) = false := decide_eq_false c4
        clear c4
        obtain rfl := Option.some.inj H
        go_wp2
        go_ret
        exact ⟨rfl, by repeat (first | (with_reducible first | exact HB.out | apply below_alloc | apply pw_below_drewN | apply below_drew1) | exact HB.out)⟩
end Go.Proofs.Ytbeehklibkeecaa.F
end
section
/- Laid by a program of this claim's own. What the Go function does, as a Lean function, and the proof that the Go code does just that; Lean checks it. -/
namespace Go.Proofs.Ytbeehklibkeecaa.F
open Go.RowKit Go.Proofs.YtbeehklibkeecaaW.PrintWords Go.Proofs.YtbeehklibkeecaaW.PrintLast Go.Proofs.YtbeehklibkeecaaW.PrintMore
attribute [local go_sem] max2_int min2_int max_two min_two max_three min_three max_four min_four   -- for this text's walks alone
set_option linter.unusedVariables false
set_option linter.unusedSimpArgs false
/-! ### impl_PilesOf: function 84 -/
mutual
def impl_PilesOf.j0 : Nat → List Int → Int → Bool → Option ((List (List Int)))
  | 0, _, _, _ => none
  | k + 1, x0, x1, x16 => if x16 = true then (some ([] : List (List Int))) else (if 0 ≤ x1 then (if (x1 : Int).toNat ≤ 11728124029610 then (impl_PilesOf.l0 k x0 x1 (List.replicate (x1 : Int).toNat []) (wrap64 ((x0.length : Int) - 1))) else (none)) else (none))
def impl_PilesOf.l0 : Nat → List Int → Int → List (List Int) → Int → Option ((List (List Int)))
  | 0, _, _, _, _ => none
  | k + 1, x0, x1, x5, x6 => if x6 ≥ 0 then (if x1 = 0 then (none) else (if 0 ≤ (Int.tmod x6 x1) then (if (Int.tmod x6 x1) < (x5.length : Int) then (if 0 ≤ x6 then (if x6 < (x0.length : Int) then (if (rd_L1 x5 (Int.tmod x6 x1)).length < 17592186044416 then (impl_PilesOf.l0 k x0 x1 (x5.set ((Int.tmod x6 x1) : Int).toNat ((rd_L1 x5 (Int.tmod x6 x1)) ++ [rd x0 x6])) (wrap64 (x6 - 1))) else (none)) else (none)) else (none)) else (none)) else (none))) else (some x5)
end
def impl_PilesOf.f (k : Nat) (l0 : List Int) (a1 : Int) : Option ((List (List Int))) := (impl_PacketOk.f k l0).bind fun t195 => (if t195 = true then ((impl_PilesOk.f (l0.length : Int) a1).bind fun t196 => (impl_PilesOf.j0 k l0 a1 (!t196))) else (impl_PilesOf.j0 k l0 a1 true))
def impl_PilesOf.T7 : Bool × List (List Nat × List Nat) := (true, [([], []), ([], []), ([], []), ([1, 2], [1, 2]), ([], []), ([], []), ([], []), ([5, 6], [5, 6]), ([4, 7], [4, 7]), ([8], [8]), ([], []), ([], []), ([10, 11], [10, 11]), ([12], [12]), ([13], [13]), ([9, 14], [9, 14]), ([0, 3, 0, 1, 2, 3, 4, 5, 6, 7, 8, 9, 10, 11, 12, 13, 14, 15], [0, 3]), ([16, 15, 15, 0, 1, 2, 3, 4, 5, 6, 7, 8, 9, 10, 11, 12, 13, 14, 15], [15, 16])])
def impl_PilesOf.B7 : List Nat := [0, 0, 0, 6, 0, 0, 0, 96, 240, 496, 0, 0, 3072, 7168, 15360, 32752, 65535, 131071]
theorem impl_PilesOf.tab7 : rtab .any (opsOf Try.f84 7) = impl_PilesOf.T7 := by kernel_rfl
theorem impl_PilesOf.bits7 : waitsOk impl_PilesOf.T7.2 impl_PilesOf.B7 = true := by kernel_rfl
set_option maxHeartbeats 8000000 in
set_option maxRecDepth 100000 in
theorem impl_PilesOf.calls (k : Nat) (A0 : Option Addr) (c0 : Nat) (l0 : List Int) (a1 : Int) (r : List (List Int)) (w : World) (hr0 : Kd.C (Kd.int .i64) w A0 l0.length l0) (hc0 : l0.length ≤ c0) (h : impl_PilesOf.f k l0 a1 = some r) :
    Calls Try.prog 84 #[.slice A0 l0.length c0, .int .i64 a1] w fun e w' => ∃ v0_ : Value, e = .returned (v0_) ∧ Kd.S (Kd.slice 3 (Kd.int .i64)) 24 w' w.heap.size (fun _ => True) v0_ r ∧ Below w.heap.size w w' := by
  have HR0 := Aside0.mk hr0
  have HC0 := Aside0.mk hc0
  clear hr0 hc0
  have HB := Aside0.mk (Below.refl w.heap.size w)
  have H : ((impl_PacketOk.f k l0).bind fun t195 => (if t195 = true then ((impl_PilesOk.f (l0.length : Int) a1).bind fun t196 => (impl_PilesOf.j0 k l0 a1 (!t196))) else (impl_PilesOf.j0 k l0 a1 true))) = some r := h
  clear h
  have HC3 := Aside0.mk H
  clear H
  go_enter Try.func84, Try.ntmps84
  go_upto_region 1 with (fail)
  go_cut [16] (fun v16 wc => ∃ (kq : Nat) (x16_2 : Bool), v16 = .bool x16_2 ∧ Aside0 (impl_PilesOf.j0 kq l0 a1 x16_2 = some r) ∧ Aside0 (kq ≤ k) ∧ Aside0 (Below w.heap.size w wc))
  case first =>
    have H := HC3.out
    clear HC3
    replace H := Option.bind_eq_some_iff.mp H
    obtain ⟨t195, A40, H⟩ := H
    replace H : (if t195 = true then ((impl_PilesOk.f (l0.length : Int) a1).bind fun t196 => (impl_PilesOf.j0 k l0 a1 (!t196))) else (impl_PilesOf.j0 k l0 a1 true)) = some r := H
    have A4 := Aside0.mk A40
    clear A40
    by_cases c5 : t195 = true
    · subst c5
      have H1 : ((impl_PilesOk.f (l0.length : Int) a1).bind fun t196 => (impl_PilesOf.j0 k l0 a1 (!t196))) = some r := by rw [if_pos rfl] at H; exact H
      clear H
      have H := H1
      clear H1
      replace H := Option.bind_eq_some_iff.mp H
      obtain ⟨t196, A60, H⟩ := H
      replace H : (impl_PilesOf.j0 k l0 a1 (!t196)) = some r := H
      have A6 := Aside0.mk A60
      clear A60
      have H' := Aside0.mk H
      clear H
      go_wp2_with (first | ((with_reducible refine gate_callee (f := 56) rfl ?_); refine goesL_ (some 8) rfl rfl Try.func56 (by kernel_rfl) rfl #[.slice A0 l0.length c0] rfl (by (try simp only [List.map_toArray, List.map_cons, List.map_nil]); first | done | rfl | (simp only [List.length_drop, List.length_take]; rfl)) ?_; (with_reducible refine (impl_PacketOk.calls k _ _ l0 true _ ?side1 ?side2 A4.out).mono ?_); (case side1 => repeat (first | exact (Kd.C_below HR0.out HB.out) | (with_reducible refine Kd.C_alloc ?_ _) | (with_reducible refine Kd.C_drewN ?_ _) | (with_reducible refine Kd.C_drew ?_))); (case side2 => exact HC0.out); rintro e w7 ⟨rfl, hb⟩; refine ⟨_, rfl, ?_⟩; have n0_ := Aside0.mk (below_step (by repeat (first | (with_reducible first | exact HB.out | apply below_alloc | apply pw_below_drewN | apply below_drew1) | exact HB.out)) hb); clear HB; have HB := n0_; clear n0_; (try clear hb); (try clear hb2); (try clear hk); (try clear hi)) | (go_at_call 22; (with_reducible refine (impl_PilesOk.calls (l0.length : Int) a1 t196 _ A6.out).mono ?_); rintro e w' ⟨rfl, ⟨nd, rfl⟩⟩))
      go_meet
      case rel => exact ⟨_, (!t196), (by first | rfl | (simp; done) | (simp [*]; done)), H', ⟨by first | omega | exact Nat.le_refl _⟩, ⟨by repeat (first | (with_reducible first | exact HB.out | apply below_alloc | apply pw_below_drewN | apply below_drew1) | exact HB.out)⟩⟩
    · replace c5 := Bool.eq_false_iff.mpr c5
      subst c5
      have H1 : (impl_PilesOf.j0 k l0 a1 true) = some r := by rw [if_neg (show ¬ (false = true) by decide)] at H; exact H
      clear H
      have H := H1
      clear H1
      have H' := Aside0.mk H
      clear H
      go_wp2_with (first | ((with_reducible refine gate_callee (f := 56) rfl ?_); refine goesL_ (some 8) rfl rfl Try.func56 (by kernel_rfl) rfl #[.slice A0 l0.length c0] rfl (by (try simp only [List.map_toArray, List.map_cons, List.map_nil]); first | done | rfl | (simp only [List.length_drop, List.length_take]; rfl)) ?_; (with_reducible refine (impl_PacketOk.calls k _ _ l0 false _ ?side1 ?side2 A4.out).mono ?_); (case side1 => repeat (first | exact (Kd.C_below HR0.out HB.out) | (with_reducible refine Kd.C_alloc ?_ _) | (with_reducible refine Kd.C_drewN ?_ _) | (with_reducible refine Kd.C_drew ?_))); (case side2 => exact HC0.out); rintro e w8 ⟨rfl, hb⟩; refine ⟨_, rfl, ?_⟩; have n0_ := Aside0.mk (below_step (by repeat (first | (with_reducible first | exact HB.out | apply below_alloc | apply pw_below_drewN | apply below_drew1) | exact HB.out)) hb); clear HB; have HB := n0_; clear n0_; (try clear hb); (try clear hb2); (try clear hk); (try clear hi)))
      go_meet
      case rel => exact ⟨_, (true), (by first | rfl | (simp; done) | (simp [*]; done)), H', ⟨by first | omega | exact Nat.le_refl _⟩, ⟨by repeat (first | (with_reducible first | exact HB.out | apply below_alloc | apply pw_below_drewN | apply below_drew1) | exact HB.out)⟩⟩
  case rest =>
    clear HC3
    try clear p2
    try clear c5
    try clear c8
    obtain ⟨kq, x16_2, rfl, HA, HJ2, HB⟩ := hcut
    cases kq with
    | zero => exact absurd HA.out (by simp [impl_PilesOf.j0])
    | succ kj2 =>
      have H := HA.out
      clear HA
      simp only [impl_PilesOf.j0] at H
      by_cases c9 : x16_2 = true
      · subst c9
        have H1 : (some ([] : List (List Int))) = some r := by rw [if_pos rfl] at H; exact H
        clear H
        have H := H1
        clear H1
        obtain rfl := Option.some.inj H
        go_wp2
        go_ret
        exact ⟨_, by first | rfl | (simp [errW_none, errW_some] <;> rfl) | (simp [*, errW_none, errW_some] <;> rfl), by first | exact Kd.S_nil _ _ _ _ _ | exact Kd.N_nil _ _ _ _ _ | exact Kd.V_nil _ _ _ _ _ | exact Kd.Q_nil _ _ _ _ _ | exact Kd.R_nil _ _ _ _ _, by repeat (first | (with_reducible first | exact HB.out | apply below_alloc | apply pw_below_drewN | apply below_drew1) | exact HB.out)⟩
      · replace c9 := Bool.eq_false_iff.mpr c9
        subst c9
        have H1 : (if 0 ≤ a1 then (if (a1 : Int).toNat ≤ 11728124029610 then (impl_PilesOf.l0 kj2 l0 a1 (List.replicate (a1 : Int).toNat []) (wrap64 ((l0.length : Int) - 1))) else (none)) else (none)) = some r := by rw [if_neg (show ¬ (false = true) by decide)] at H; exact H
        clear H
        have H := H1
        clear H1
        by_cases c10 : 0 ≤ a1
        · rw [if_pos c10] at H
          have c10b0 := eq_true c10
          have c10b1 : decide (0 ≤ a1) = true := decide_eq_true c10
          clear c10
          by_cases c11 : (a1 : Int).toNat ≤ 11728124029610
          · rw [if_pos c11] at H
            have c11b0 := eq_true c11
            have c11b1 : decide ((a1 : Int).toNat ≤ 11728124029610) = true := decide_eq_true c11
            clear c11
            obtain ⟨y197, hy197⟩ : ∃ y_ : List (List Int), y_ = (List.replicate (a1 : Int).toNat []) := ⟨_, rfl⟩
            replace H : (impl_PilesOf.l0 kj2 l0 a1 y197 (wrap64 ((l0.length : Int) - 1))) = some r := by first | (rw [hy197]; with_reducible exact H) | (have H2_ := (Option.bind_some _ _).symm.trans H; rw [hy197]; with_reducible exact H2_) | (have H2_ := (Option.bind_some _ _).symm.trans H; with_reducible exact H2_) | with_reducible exact H | (rw [hy197]; exact H) | exact H
            have Ny197 := Aside0.mk hy197
            clear hy197
            have H' := Aside0.mk H
            clear H
            go_wp2_with (first | ((with_reducible refine gate_dst (N := 18) rfl ?_); (try (refine gate_guard (by rfl) ?_; dsimp only)); refine Kd.S_make (Kd.slice 3 (Kd.int .i64)) _ 24 rfl (N := 18) rfl 44 _ _ rfl a1 rfl rfl Try.underlying44 (.slice none 0 0) 24 info24 rfl (by decide) (by omega) [] (ok := fun _ => True) (okp := fun _ => True) ⟨_, rfl, Kd.R_nil _ _ _ _ _⟩ (fun _ hk => hk) trivial (of_decide_eq_true (by first | (with_reducible assumption) | assumption)) (Nat.le_trans (Nat.mul_le_mul_right _ (of_decide_eq_true (by first | (with_reducible assumption) | assumption) : a1.toNat ≤ 11728124029610)) (by omega)) (Below.refl _ _) (Nat.le_refl _) ?_; intro v198 w12 ho13 hb hg_ hnew_; clear hg_ hnew_; (first | rw [← Ny197.out] at ho13 | (simp only [Int.reduceToNat] at ho13; rw [← Ny197.out] at ho13)); have n0_ := Aside0.mk (Kd.S_lower ho13 (below_size (by repeat (first | (with_reducible first | exact HB.out | apply below_alloc | apply pw_below_drewN | apply below_drew1) | exact HB.out)))); have n1_ := Aside0.mk (below_step (by repeat (first | (with_reducible first | exact HB.out | apply below_alloc | apply pw_below_drewN | apply below_drew1) | exact HB.out)) hb); clear HB; have HO199 := n0_; have HB := n1_; clear n0_ n1_; clear hb ho13))
            go_loopg [6] kj2 (fun kq v6 w' => ∃ (x5_2 : List (List Int)) (x6_2 : Int), v6 = .int .i64 x6_2 ∧ Aside0 (impl_PilesOf.l0 kq l0 a1 x5_2 x6_2 = some r) ∧ Aside0 (kq ≤ kj2) ∧ Aside0 (Kd.S (Kd.slice 3 (Kd.int .i64)) 24 w' w.heap.size (fun _ => True) v198 x5_2) ∧ Aside0 (Below w.heap.size w w'))
            case atStart => exact ⟨(y197), (wrap64 ((l0.length : Int) - 1)), (by first | rfl | (simp; done) | (simp [*]; done)), H', ⟨Nat.le_refl _⟩, ⟨by (with_reducible repeat (first | apply Kd.S_alloc | apply Kd.S_drewN | apply Kd.S_drew)); exact HO199.out⟩, ⟨by repeat (first | (with_reducible first | exact HB.out | apply below_alloc | apply pw_below_drewN | apply below_drew1) | exact HB.out)⟩⟩
            case round =>
              clear H'
              try clear c1
              try clear p2
              try clear c5
              try clear p6
              try clear c8
              try clear c9
              try clear c10
              try clear c10b0
              try clear c10b1
              try clear c11
              try clear c11b0
              try clear c11b1
              try clear p2
              obtain ⟨x5_2, x6_2, rfl, HA, HK2, HO_5, HB⟩ := hrel
              cases gk with
              | zero => exact absurd HA.out (by simp [impl_PilesOf.l0])
              | succ k2 =>
                have H := HA.out
                clear HA
                simp only [impl_PilesOf.l0] at H
                by_cases c14 : x6_2 ≥ 0
                · rw [if_pos c14] at H
                  have c14b0 : decide (0 ≤ x6_2) = true := decide_eq_true c14
                  clear c14
                  by_cases c15 : a1 = 0
                  · rw [if_pos c15] at H
                    exact absurd H (by simp)
                  · rw [if_neg c15] at H
                    have c15b0 : (a1 == 0) = false := beq_eq_false_iff_ne.mpr c15
                    have c15b1 : (a1 != 0) = true := bne_iff_ne.mpr c15
                    obtain ⟨ji16, hji16⟩ : ∃ j_ : Int, (Int.tmod x6_2 a1) = j_ := ⟨_, rfl⟩
                    replace H : (if 0 ≤ (ji16) then (if (ji16) < (x5_2.length : Int) then (if 0 ≤ x6_2 then (if x6_2 < (l0.length : Int) then (if (rd_L1 x5_2 (ji16)).length < 17592186044416 then (impl_PilesOf.l0 k2 l0 a1 (x5_2.set ((ji16) : Int).toNat ((rd_L1 x5_2 (ji16)) ++ [rd l0 x6_2])) (wrap64 (x6_2 - 1))) else (none)) else (none)) else (none)) else (none)) else (none)) = some r := by first | (rw [hji16] at H; exact H) | (simp only [hji16] at H ⊢; exact H)
                    by_cases c17 : 0 ≤ (ji16)
                    · rw [if_pos c17] at H
                      have c17b0 : decide (0 ≤ (ji16)) = true := decide_eq_true c17
                      clear c17
                      by_cases c18 : (ji16) < (x5_2.length : Int)
                      · rw [if_pos c18] at H
                        have c18b0 : decide ((ji16) < (x5_2.length : Int)) = true := decide_eq_true c18
                        clear c18
                        by_cases c19 : 0 ≤ x6_2
                        · rw [if_pos c19] at H
                          have c19b0 : decide (0 ≤ x6_2) = true := decide_eq_true c19
                          clear c19
                          by_cases c20 : x6_2 < (l0.length : Int)
                          · rw [if_pos c20] at H
                            have c20b0 : decide (x6_2 < (l0.length : Int)) = true := decide_eq_true c20
                            clear c20
                            by_cases c21 : (rd_L1 x5_2 (ji16)).length < 17592186044416
                            · rw [if_pos c21] at H
                              have LMc21 := Aside0.mk c21
                              clear c21
                              obtain ⟨y202, hy202⟩ : ∃ y_ : List Int, y_ = ((rd_L1 x5_2 (ji16)) ++ [rd l0 x6_2]) := ⟨_, rfl⟩
                              replace H : (impl_PilesOf.l0 k2 l0 a1 (x5_2.set ((ji16) : Int).toNat y202) (wrap64 (x6_2 - 1))) = some r := by first | (rw [hy202]; with_reducible exact H) | (have H2_ := (Option.bind_some _ _).symm.trans H; rw [hy202]; with_reducible exact H2_) | (have H2_ := (Option.bind_some _ _).symm.trans H; with_reducible exact H2_) | with_reducible exact H | (rw [hy202]; exact H) | exact H
                              have Ny202 := Aside0.mk hy202
                              clear hy202
                              obtain ⟨y205, hy205⟩ : ∃ y_ : List (List Int), y_ = (x5_2.set ((ji16) : Int).toNat y202) := ⟨_, rfl⟩
                              replace H : (impl_PilesOf.l0 k2 l0 a1 y205 (wrap64 (x6_2 - 1))) = some r := by first | (rw [hy205]; with_reducible exact H) | (have H2_ := (Option.bind_some _ _).symm.trans H; rw [hy205]; with_reducible exact H2_) | (have H2_ := (Option.bind_some _ _).symm.trans H; with_reducible exact H2_) | with_reducible exact H | (rw [hy205]; exact H) | exact H
                              have Ny205 := Aside0.mk hy205
                              clear hy205
                              have H' := Aside0.mk H
                              clear H
                              try go_wp2
                              have n0_ := Aside0.mk (Kd.S_drew HO_5.out)
                              have n1_ := Aside0.mk (below_drew1 HB.out)
                              clear HO_5
                              clear HB
                              have HO_5 := n0_
                              have HB := n1_
                              clear n0_ n1_
                              obtain ⟨Ao24, co24, eo24⟩ := Kd.S_slice HO_5.out
                              (first | subst eo24 | (injection eo24 with f1_ f2_ f3_; have f4_ := f1_.symm; have f5_ := f3_.symm; clear f1_ f2_ f3_; subst f4_; subst f5_))
                              have p200 : 0 ≤ ((ji16) : Int) := of_decide_eq_true (by first | (with_reducible assumption) | assumption)
                              have q200 : (ji16) < (x5_2.length : Int) := of_decide_eq_true (by first | (with_reducible assumption) | assumption)
                              obtain ⟨ad200, A200_0, c200_0, e200, hx200_0, hl200_0, hi200_0⟩ := at_L1 (Kd.S_reads' HO_5.out).2.2 (ji16) p200 q200
                              cases e200
                              obtain ⟨ce200, hce200, hMe200, hcc200⟩ := Kd.S_get HO_5.out [] (ji16) p200 (by first | exact q200 | exact of_decide_eq_true (by first | (with_reducible assumption) | assumption) | (have e_ := (Kd.S_reads' HO_5.out).1; omega))
                              obtain ⟨ve200_0, rfl, ge200_0⟩ := hMe200
                              have hv200_0 := hcc200 0 _ rfl
                              rw [Nat.add_zero, show ((Kd.slice 3 (Kd.int .i64))).sz = 1 from rfl, Nat.mul_one] at hv200_0
                              replace hv200_0 := Option.some.inj (hv200_0.symm.trans hx200_0)
                              rw [hv200_0] at ge200_0
                              have HL200_0 := Aside0.mk (show Kd.R (Kd.int .i64) 3 _ _ _ _ (rd_L1 x5_2 (ji16)) from ge200_0)
                              clear hv200_0 ge200_0
                              have HX200_0 := Aside0.mk hx200_0
                              clear hcc200 hce200
                              have HR200_0 := Aside0.mk hi200_0
                              have HC200_0 := Aside0.mk hl200_0
                              clear hi200_0 hl200_0
                              replace p200 := eq_true p200
                              replace q200 := eq_true q200
                              have p201 : 0 ≤ (x6_2 : Int) := of_decide_eq_true (by first | (with_reducible assumption) | assumption)
                              have q201 : x6_2 < (l0.length : Int) := of_decide_eq_true (by first | (with_reducible assumption) | assumption)
                              obtain ⟨ad201, e201, hx201_0⟩ := Kd.at_int HR0.out x6_2 p201 q201
                              have hw201_0 := hx201_0
                              cases e201
                              replace hx201_0 := (HB.out.cell (World.block_lt_of_cell? w _ hx201_0)).trans hx201_0
                              replace p201 := eq_true p201
                              replace q201 := eq_true q201
                              obtain ⟨go25, co25, eo25, gb25, gl25, cl25, HG25⟩ := Kd.S_form HO_5.out (by have h_ : ((ji16) : Int) < ((x5_2.length : Int) : Int) := of_decide_eq_true (by first | (with_reducible assumption) | assumption); have h2_ : 0 ≤ ((ji16) : Int) := (of_decide_eq_true (by first | (with_reducible assumption) | assumption)); omega)
                              (first | cases eo25 | (injection eo25 with ea_ en_ ec_; (first | subst ea_ | (injection ea_ with ea_; subst ea_)); subst ec_; clear en_))
                              have GB25 := Aside0.mk gb25
                              have GG25 := Aside0.mk HG25
                              clear gb25 gl25 HG25
                              (first | simp only [add_plain] at hx200_0 | skip)
                              obtain ⟨oki25, ce25, hcl25, hM25, hcc25, _, _, hH25⟩ := Kd.S_elem HO_5.out [] ((ji16) : Int) (of_decide_eq_true (by first | (with_reducible assumption) | assumption)) (by have h_ : ((ji16) : Int) < ((x5_2.length : Int) : Int) := of_decide_eq_true (by first | (with_reducible assumption) | assumption); first | exact h_ | (have e_ := (Kd.S_reads' HO_5.out).1; omega) | simpa using h_)
                              obtain ⟨ve25_0, rfl, ge25_0⟩ := hM25
                              have hv25 := hcc25 0 _ rfl
                              have hX25 := HX200_0.out
                              (try simp only [add_plain] at hX25)
                              (try simp only [Nat.add_zero] at hv25)
                              (try rw [show ((Kd.slice 3 (Kd.int .i64))).sz = 1 from rfl, Nat.mul_one] at hv25)
                              replace hv25 := Option.some.inj (hv25.symm.trans hX25)
                              subst hv25
                              clear hX25 hcc25 hcl25
                              have UU25 := Aside0.mk (show Kd.R (Kd.int .i64) 3 _ w.heap.size oki25 (.slice A200_0 (rd_L1 x5_2 (ji16)).length c200_0) (rd_L1 x5_2 (ji16)) from ge25_0)
                              have HH25 := Aside0.mk hH25
                              have HN25 := Aside0.mk (Kd.S_reads' HO_5.out).1
                              clear hH25 ge25_0
                              refine start_ (n := 18) (S := fun w' => w'.cell? ⟨go25, ((ji16)).toNat, none⟩ = some (.slice A200_0 (rd_L1 x5_2 (ji16)).length c200_0) ∧ w'.cell? (ad201.add (x6_2).toNat) = some (.int .i64 (rd l0 x6_2))) (ds := [17]) #[false, false, false, false, false, false, false, false, false, false, false, false, false, false, false, false, false, false] (by kernel_rfl) rfl rfl ⟨hx200_0, ((HB.out.cell (World.block_lt_of_cell? w _ hw201_0)).trans hw201_0)⟩ (fun hHeld => ?_); refine with_tabW impl_PilesOf.tab7 impl_PilesOf.bits7 (fun HT_ HW_ => ?_)
                              generalize wr.drew = w23 at HO_5 HB GG25 HH25 HL200_0 HR200_0 HX200_0 UU25 hx200_0 hx201_0 hHeld ⊢
                              refine pure_ (i := 0) (N := some 26) (v := ?_) (a' := ?_) #[true, false, false, false, false, false, false, false, false, false, false, false, false, false, false, false, false, false] rfl rfl (any_of HT_.out (by kernel_rfl)) (fun _ _ _ h => h) (Or.inl ⟨by rfl, ?_⟩) ?_ ?_
                              rotate_left
                              · intro w'
                                go_simp
                                with_reducible rfl
                              rotate_left
                              · simp only [Act.put, List.setIfInBounds_toArray, List.set_cons_zero, List.set_cons_succ, i64_w, i32_w]
                                rfl
                              refine pure_ (i := 1) (N := some 27) (v := ?_) (a' := ?_) #[true, true, false, false, false, false, false, false, false, false, false, false, false, false, false, false, false, false] rfl rfl (any_of HT_.out (by kernel_rfl)) (fun _ _ _ h => h) (Or.inl ⟨by rfl, ?_⟩) ?_ ?_
                              rotate_left
                              · intro w'
                                go_simp
                                with_reducible rfl
                              rotate_left
                              · simp only [Act.put, List.setIfInBounds_toArray, List.set_cons_zero, List.set_cons_succ, i64_w, i32_w]
                                rfl
                              refine pure_ (i := 2) (N := some 28) (v := ?_) (a' := ?_) #[true, true, true, false, false, false, false, false, false, false, false, false, false, false, false, false, false, false] rfl rfl (any_of HT_.out (by kernel_rfl)) (fun _ _ _ h => h) (Or.inl ⟨by rfl, ?_⟩) ?_ ?_
                              rotate_left
                              · intro w'
                                go_simp
                                with_reducible rfl
                              rotate_left
                              · simp only [Act.put, List.setIfInBounds_toArray, List.set_cons_zero, List.set_cons_succ, i64_w, i32_w]
                                rfl
                              refine pure_ (i := 3) (N := some 29) (v := ?_) (a' := ?_) #[true, true, true, true, false, false, false, false, false, false, false, false, false, false, false, false, false, false] rfl rfl (any_of HT_.out (by kernel_rfl)) (fun _ _ _ h => h) (Or.inl ⟨by rfl, ?_⟩) ?_ ?_
                              rotate_left
                              · intro w'
                                go_simp
                                with_reducible rfl
                              rotate_left
                              · simp only [Act.put, List.setIfInBounds_toArray, List.set_cons_zero, List.set_cons_succ, i64_w, i32_w]
                                rfl
                              refine pure_ (i := 4) (N := some 30) (v := ?_) (a' := ?_) #[true, true, true, true, true, false, false, false, false, false, false, false, false, false, false, false, false, false] rfl rfl (any_of HT_.out (by kernel_rfl)) (fun _ _ _ h => h) (Or.inl ⟨by rfl, ?_⟩) ?_ ?_
                              rotate_left
                              · intro w'
                                go_simp
                                with_reducible rfl
                              rotate_left
                              · simp only [Act.put, List.setIfInBounds_toArray, List.set_cons_zero, List.set_cons_succ, i64_w, i32_w]
                                rfl
                              refine pure_ (i := 5) (N := some 31) (v := ?_) (a' := ?_) #[true, true, true, true, true, true, false, false, false, false, false, false, false, false, false, false, false, false] rfl rfl (any_of HT_.out (by kernel_rfl)) (fun _ _ _ h => h) (Or.inl ⟨by rfl, ?_⟩) ?_ ?_
                              rotate_left
                              · intro w'
                                go_simp
                                with_reducible rfl
                              rotate_left
                              · simp only [Act.put, List.setIfInBounds_toArray, List.set_cons_zero, List.set_cons_succ, i64_w, i32_w]
                                rfl
                              refine pure_ (i := 6) (N := some 32) (v := ?_) (a' := ?_) #[true, true, true, true, true, true, true, false, false, false, false, false, false, false, false, false, false, false] rfl rfl (any_of HT_.out (by kernel_rfl)) (fun _ _ _ h => h) (Or.inl ⟨by rfl, ?_⟩) ?_ ?_
                              rotate_left
                              · intro w'
                                go_simp
                                with_reducible rfl
                              rotate_left
                              · simp only [Act.put, List.setIfInBounds_toArray, List.set_cons_zero, List.set_cons_succ, i64_w, i32_w]
                                rfl
                              refine pure_ (i := 7) (N := some 33) (v := ?_) (a' := ?_) #[true, true, true, true, true, true, true, true, false, false, false, false, false, false, false, false, false, false] rfl rfl (any_of HT_.out (by kernel_rfl)) (fun _ _ _ h => h) (Or.inl ⟨by rfl, ?_⟩) ?_ ?_
                              rotate_left
                              · intro w'
                                go_simp
                                with_reducible rfl
                              rotate_left
                              · simp only [Act.put, List.setIfInBounds_toArray, List.set_cons_zero, List.set_cons_succ, i64_w, i32_w]
                                rfl
                              refine pure_ (i := 8) (N := some 34) (v := ?_) (a' := ?_) #[true, true, true, true, true, true, true, true, true, false, false, false, false, false, false, false, false, false] rfl rfl (any_of HT_.out (by kernel_rfl)) (fun _ _ _ h => h) (Or.inl ⟨by rfl, ?_⟩) ?_ ?_
                              rotate_left
                              · intro w'
                                go_simp
                                with_reducible rfl
                              rotate_left
                              · simp only [Act.put, List.setIfInBounds_toArray, List.set_cons_zero, List.set_cons_succ, i64_w, i32_w]
                                rfl
                              refine pure_ (i := 10) (N := some 36) (v := ?_) (a' := ?_) #[true, true, true, true, true, true, true, true, true, false, true, false, false, false, false, false, false, false] rfl rfl (any_of HT_.out (by kernel_rfl)) (fun _ _ _ h => h) (Or.inl ⟨by rfl, ?_⟩) ?_ ?_
                              rotate_left
                              · intro w'
                                go_simp
                                with_reducible rfl
                              rotate_left
                              · simp only [Act.put, List.setIfInBounds_toArray, List.set_cons_zero, List.set_cons_succ, i64_w, i32_w]
                                rfl
                              refine pure_ (i := 11) (N := some 37) (v := ?_) (a' := ?_) #[true, true, true, true, true, true, true, true, true, false, true, true, false, false, false, false, false, false] rfl rfl (any_of HT_.out (by kernel_rfl)) (fun _ _ _ h => h) (Or.inl ⟨by rfl, ?_⟩) ?_ ?_
                              rotate_left
                              · intro w'
                                go_simp
                                with_reducible rfl
                              rotate_left
                              · simp only [Act.put, List.setIfInBounds_toArray, List.set_cons_zero, List.set_cons_succ, i64_w, i32_w]
                                rfl
                              refine pure_ (i := 12) (N := some 38) (v := ?_) (a' := ?_) #[true, true, true, true, true, true, true, true, true, false, true, true, true, false, false, false, false, false] rfl rfl (any_of HT_.out (by kernel_rfl)) (fun _ _ _ h => h) (Or.inl ⟨by rfl, ?_⟩) ?_ ?_
                              rotate_left
                              · intro w'
                                go_simp
                                with_reducible rfl
                              rotate_left
                              · simp only [Act.put, List.setIfInBounds_toArray, List.set_cons_zero, List.set_cons_succ, i64_w, i32_w]
                                rfl
                              refine take_ (i := 9) (N := some 35) (v := ?_) (a' := ?_) #[true, true, true, true, true, true, true, true, true, true, true, true, true, false, false, false, false, false] rfl rfl (take_ofW HT_.out HW_.out (by kernel_rfl)) (fun _ _ _ h => h) (Or.inl ⟨by rfl, ?_⟩) hHeld ?_ ?_
                              rotate_left
                              · rintro w' ⟨s0, s1⟩
                                go_simp
                                with_reducible rfl
                              rotate_left
                              · simp only [Act.put, List.setIfInBounds_toArray, List.set_cons_zero, List.set_cons_succ, i64_w, i32_w]
                                rfl
                              refine take_ (i := 13) (N := some 39) (v := ?_) (a' := ?_) #[true, true, true, true, true, true, true, true, true, true, true, true, true, true, false, false, false, false] rfl rfl (take_ofW HT_.out HW_.out (by kernel_rfl)) (fun _ _ _ h => h) (Or.inl ⟨by rfl, ?_⟩) hHeld ?_ ?_
                              rotate_left
                              · rintro w' ⟨s0, s1⟩
                                go_simp
                                with_reducible rfl
                              rotate_left
                              · simp only [Act.put, List.setIfInBounds_toArray, List.set_cons_zero, List.set_cons_succ, i64_w, i32_w]
                                rfl
                              refine one_ (i := 14) (N := some 40) #[true, true, true, true, true, true, true, true, true, true, true, true, true, true, true, false, false, false] rfl rfl (one_of HT_.out (by kernel_rfl)) (by decide) (fun K hK => ?_)
                              refine value_ (w1 := ?_) (v := ?_) (by rfl) rfl ?_ ?_
                              rotate_left 2
                              · go_simp
                                constructor
                                · rfl
                                · rfl
                              refine hK.out _ _ ⟨(World.cell?_alloc_lt _ _ _ (World.block_lt_of_cell? _ _ (hHeld.1))).trans (hHeld.1), (World.cell?_alloc_lt _ _ _ (World.block_lt_of_cell? _ _ (((HB.out.cell (World.block_lt_of_cell? w _ hw201_0)).trans hw201_0)))).trans (((HB.out.cell (World.block_lt_of_cell? w _ hw201_0)).trans hw201_0))⟩ (fun hHeld => ?_)
                              clear hK K
                              refine norm_ (a' := ?_) ?_ ?_
                              rotate_left
                              · show Act.put _ (some 40) _ = _
                                simp only [Act.put, List.setIfInBounds_toArray, List.set_cons_zero, List.set_cons_succ, i64_w, i32_w]
                                rfl
                              refine one_ (i := 15) (N := some 41) #[true, true, true, true, true, true, true, true, true, true, true, true, true, true, true, true, false, false] rfl rfl (one_of HT_.out (by kernel_rfl)) (by decide) (fun K hK => ?_)
                              refine Kd.R_append_step (Kd.int .i64) (w0 := w) w.heap.size (by rfl) (.tmp 35) (.tmp 40) 24 3 (.int .i64 0) 8 rfl Try.underlying24 info3 rfl (by decide) (by omega) (.slice A200_0 (rd_L1 x5_2 (ji16)).length c200_0) (rd_L1 x5_2 (ji16)) (rd l0 x6_2) [.int .i64 (rd l0 x6_2)] (fun k_ => oki25 k_ ∨ ((fun _ => True)) k_ ∧ w23.heap.size ≤ k_) (fun _ => False) rfl rfl ?aP (fun _ hk => hk.elim) ?aF ?aO ?aB ?aS ?aL ?_
                              (case aP => exact rfl)
                              (case aB => exact (by repeat (first | (with_reducible first | exact HB.out | apply below_alloc | apply pw_below_drewN | apply below_drew1) | exact HB.out)))
                              (case aF => exact (fun k_ hk => .inr ⟨trivial, hk⟩))
                              (case aO => exact (by (with_reducible repeat (first | apply Kd.R_alloc | apply Kd.R_drewN | apply Kd.R_drew)); exact Kd.R_mono UU25.out (fun _ hk => .inl hk)))
                              (case aS => exact (below_size (by repeat (first | (with_reducible first | exact HB.out | apply below_alloc | apply pw_below_drewN | apply below_drew1) | exact HB.out))))
                              (case aL => have := LMc21.out; omega)
                              intro v203 w26 ho hb hg hat
                              (first | have HS0_ := cell_grown hg (hHeld.1) (by first | (rw [add_block]; exact (fun e_ => ((HL200_0.out.1 _ e_.symm).2) rfl)) | (show some (Addr.add _ _).block ≠ _; rw [add_block]; exact (fun e_ => ((HL200_0.out.1 _ e_.symm).2) rfl)) | exact (fun e_ => ((HL200_0.out.1 _ e_.symm).2) rfl)) | have HS0_ := cell_grown hg (cell_unalloc (hHeld.1) (by first | (rw [add_block]; exact Kd.S_lt HO_5.out _ rfl) | (show (Addr.add _ _).block < _; rw [add_block]; exact Kd.S_lt HO_5.out _ rfl) | exact Kd.S_lt HO_5.out _ rfl)) (by first | (rw [add_block]; exact (fun e_ => ((HL200_0.out.1 _ e_.symm).2) rfl)) | (show some (Addr.add _ _).block ≠ _; rw [add_block]; exact (fun e_ => ((HL200_0.out.1 _ e_.symm).2) rfl)) | exact (fun e_ => ((HL200_0.out.1 _ e_.symm).2) rfl)))
                              rw [← Ny202.out] at ho
                              have n0_ := Aside0.mk (hb)
                              have n1_ := Aside0.mk (Kd.H_grown (Kd.H_widen (by repeat (first | exact HH25.out | refine Kd.H_alloc ?_ _ | refine Kd.H_drewN ?_ _ | refine Kd.H_drew ?_))) hg (fun k_ e_ => .inl (UU25.out.1 k_ e_)))
                              have n2_ := Aside0.mk (ho)
                              clear HB
                              clear HH25
                              clear HO_5
                              clear UU25
                              clear HL200_0
                              have HB := n0_
                              have HH25 := n1_
                              have HO204 := n2_
                              clear n0_ n1_ n2_
                              clear ho hb hg hat
                              have p22 : 0 ≤ ((ji16) : Int) := of_decide_eq_true (by first | (with_reducible assumption) | assumption)
                              have q22 : ((ji16) : Int) < ((x5_2.length : Int) : Int) := of_decide_eq_true (by first | (with_reducible assumption) | assumption)
                              replace p22 := eq_true p22
                              replace q22 := eq_true q22
                              obtain ⟨Ao29, co29, eo29⟩ := Kd.R_slice HO204.out
                              (first | subst eo29 | (injection eo29 with f1_ f2_ f3_; have f4_ := f1_.symm; have f5_ := f3_.symm; clear f1_ f2_ f3_; subst f4_; subst f5_))
                              obtain ⟨_, _, hraw27, _, _, hcc27, _⟩ := Kd.H_raw HH25.out (of_decide_eq_true (by first | (with_reducible assumption) | assumption)) (by have h_ : ((ji16) : Int) < ((x5_2.length : Int) : Int) := of_decide_eq_true (by first | (with_reducible assumption) | assumption); first | exact h_ | (have e_ := (HN25.out); omega) | simpa using h_)
                              obtain ⟨_, hfr27⟩ := Kd.H_at HH25.out (of_decide_eq_true (by first | (with_reducible assumption) | assumption)) (by have h_ : ((ji16) : Int) < ((x5_2.length : Int) : Int) := of_decide_eq_true (by first | (with_reducible assumption) | assumption); first | exact h_ | (have e_ := (HN25.out); omega) | simpa using h_)
                              have hx27_0 := hcc27 0 _ rfl
                              have hf27_0 := hfr27 0
                              (try simp only [Nat.add_zero] at hx27_0 hf27_0)
                              (try rw [show ((Kd.slice 3 (Kd.int .i64))).sz = 1 from rfl, Nat.mul_one] at hx27_0)
                              (try rw [show ((Kd.slice 3 (Kd.int .i64))).sz = 1 from rfl, Nat.mul_one] at hf27_0)
                              have HP27 := Kd.S_seg0 HH25.out (of_decide_eq_true (by first | (with_reducible assumption) | assumption)) (by have h_ : ((ji16) : Int) < ((x5_2.length : Int) : Int) := of_decide_eq_true (by first | (with_reducible assumption) | assumption); first | exact h_ | (have e_ := (HN25.out); omega) | simpa using h_) (seg := [.slice Ao29 y202.length co29]) (j := 0) (show 1 ≤ 1 from by decide) (x' := y202) (Kd.M_row HO204.out) (fun _ hk => hk)
                              (try simp only [show ((Kd.slice 3 (Kd.int .i64))).sz = 1 from rfl, Nat.mul_one, Nat.add_zero] at HP27)
                              clear hcc27 hfr27
                              have HS27 := HP27.1
                              rw [← Ny205.out] at HS27
                              have HQ27 := Aside0.mk HS27
                              obtain ⟨_, hgg27⟩ := Kd.R_typed hraw27 go25 rfl
                              have GG27_ := Aside0.mk hgg27
                              clear HP27 HS27 hgg27
                              refine hK.out _ _ ⟨HS0_, ((HB.out.cell (World.block_lt_of_cell? w _ hw201_0)).trans hw201_0)⟩ (fun hHeld => ?_)
                              clear hK K
                              refine norm_ (a' := ?_) ?_ ?_
                              rotate_left
                              · show Act.put _ (some 41) _ = _
                                simp only [Act.put, List.setIfInBounds_toArray, List.set_cons_zero, List.set_cons_succ, i64_w, i32_w]
                                rfl
                              refine pure_ (i := 16) (N := some 42) (v := ?_) (a' := ?_) #[true, true, true, true, true, true, true, true, true, true, true, true, true, true, true, true, true, false] rfl rfl (any_of HT_.out (by kernel_rfl)) (fun _ _ _ h => h) (Or.inl ⟨by rfl, ?_⟩) ?_ ?_
                              rotate_left
                              · intro w'
                                go_simp
                                with_reducible rfl
                              rotate_left
                              · simp only [Act.put, List.setIfInBounds_toArray, List.set_cons_zero, List.set_cons_succ, i64_w, i32_w]
                                rfl
                              refine last_ (i := 17) (N := none) #[true, true, true, true, true, true, true, true, true, true, true, true, true, true, true, true, true, true] rfl rfl (one_of HT_.out (by kernel_rfl)) (by decide) (fun K hK => ?_)
                              refine skip_ (w1 := ?_) (by rfl) rfl ?_ ?_
                              rotate_left
                              · go_simp
                                rfl
                              refine hK.out _ _ ?_
                              clear hK K
                              refine done_ (done_of HT_.out (by kernel_rfl)) ?_
                              try go_wp2
                              go_roundg k2
                              case measure => have := HJ2.out; have := HK2.out; omega
                              case rel => exact ⟨(y205), (wrap64 (x6_2 - 1)), (by first | rfl | (simp; done) | (simp [*]; done)), H', ⟨by have := HJ2.out; have := HK2.out; omega⟩, ⟨by (with_reducible repeat (first | apply Kd.S_alloc | apply Kd.S_drewN | apply Kd.S_drew)); exact HQ27.out⟩, ⟨by repeat (first | (with_reducible first | exact HB.out | apply below_alloc | apply pw_below_drewN | apply below_drew1 | refine below_set ?_ GB25.out) | exact HB.out)⟩⟩
                            · rw [if_neg c21] at H
                              exact absurd H (by simp)
                          · rw [if_neg c20] at H
                            exact absurd H (by simp)
                        · rw [if_neg c19] at H
                          exact absurd H (by simp)
                      · rw [if_neg c18] at H
                        exact absurd H (by simp)
                    · rw [if_neg c17] at H
                      exact absurd H (by simp)
                · rw [if_neg c14] at H
                  have c14b0 : decide (0 ≤ x6_2) = false := decide_eq_false c14
                  clear c14
                  obtain rfl := Option.some.inj H
                  go_wp2
                  go_ret
                  exact ⟨_, by first | rfl | (simp [errW_none, errW_some] <;> rfl) | (simp [*, errW_none, errW_some] <;> rfl), by (with_reducible repeat (first | apply Kd.S_alloc | apply Kd.S_drewN | apply Kd.S_drew)); exact HO_5.out, by repeat (first | (with_reducible first | exact HB.out | apply below_alloc | apply pw_below_drewN | apply below_drew1) | exact HB.out)⟩
          · rw [if_neg c11] at H
            exact absurd H (by simp)
        · rw [if_neg c10] at H
          exact absurd H (by simp)
end Go.Proofs.Ytbeehklibkeecaa.F
end
