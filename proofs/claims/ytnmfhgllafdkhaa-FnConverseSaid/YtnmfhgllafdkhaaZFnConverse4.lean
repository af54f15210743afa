import Derived.Lib.SliceRun
import Derived.Shelf.Abstract
import Derived.Deep.RegionWith
import Derived.Test.YtnmfhgllafdkhaaZFnConverse2
import Derived.Test.YtnmfhgllafdkhaaProg
import Derived.Below
import Derived.Deep.Draws
import Derived.Deep.AppendLies
import Derived.Maps.AppendAt
import Derived.OwnWalk
import Derived.Laws.BytesArg
import Derived.Laws.MakeOwn
import Derived.Laws.OwnMore
import Derived.Deep.OwnRows
import Derived.Tactics
import Derived.Lib.ConvBytes
import Derived.Laws.Slices
import Derived.WalkKit
import Derived.KernelRfl
import Derived.RowKit3
import Derived.Deep.LoopGhost
import Derived.Deep.QuietTactic
import Derived.BigQuiet
import Derived.WideLaws
import Derived.Deep.DeepCutAuto
import Derived.Deep.CutBlock
import Derived.Deep.RegionHeld3
import Derived.Laws.Rows
import Derived.Lib.AppendStr
import Derived.ArgAppend
import Derived.Laws.IdiomCopy
import Derived.OrdersHeld
import Derived.Laws.BitsLemmas
import Derived.RowKit
import Derived.Test.YtnmfhgllafdkhaaZFnConverse1
import Derived.Test.YtnmfhgllafdkhaaZFnConverse3
import Derived.Laws.StructEq
section
/- Lemmas of my own that name no function of the program: laws of single operations, and plain lemmas beside the kit's words. -/
namespace Go.Proofs.Ytnmfhgllafdkhaa.F
open Go.RowKit Go.Proofs.YtnmfhgllafdkhaaW.PrintWords Go.Proofs.YtnmfhgllafdkhaaW.PrintLast Go.Proofs.YtnmfhgllafdkhaaW.PrintMore
set_option linter.unusedVariables false
set_option linter.unusedSimpArgs false
theorem eql_some_nil {P : Program} (T e : TypeId) (h : P.underlying T = some (.slice e)) (ad : Addr) (n c : Nat) (w : World) :
    (binOp .eql T (.slice (some ad) n c) (.slice none 0 0)).run P w = .ok (.bool false) w := Lib.run_eql_slice_nil w T e (some ad) n c 0 0 h
theorem eql_none_nil {P : Program} (T e : TypeId) (h : P.underlying T = some (.slice e)) (n c : Nat) (w : World) :
    (binOp .eql T (.slice none n c) (.slice none 0 0)).run P w = .ok (.bool true) w := Lib.run_eql_slice_nil w T e none n c 0 0 h
theorem C_none {d : Kd Int} {w : World} {n : Nat} {l : List Int} (h : d.C w none n l) : l = [] ∧ n = 0 := by
  obtain ⟨h1, h2, h3⟩ := h
  have : n = 0 := by
    rcases Nat.eq_zero_or_pos n with h | h
    · exact h
    · obtain ⟨ad, e, _⟩ := h3 h
      cases e
  subst this
  exact ⟨List.eq_nil_of_length_eq_zero h1, rfl⟩
/-- Block g holds just the cells cs, of element type t, and none of them is frozen. -/
def Whole (w : World) (g : Nat) (t : TypeId) (cs : Array Value) : Prop := w.heap[g]? = some (.cells cs t (0, 0))
section
variable {w w' : World} {g : Nat} {t : TypeId} {cs : Array Value}
theorem Whole.lt (h : Whole w g t cs) : g < w.heap.size := by
  unfold Whole at h
  exact (Array.getElem?_eq_some_iff.1 h).1
theorem Whole.cell (h : Whole w g t cs) (i : Nat) : w.cell? ⟨g, i, none⟩ = cs[i]? := cell_of_row w g i cs t (0, 0) h
theorem Whole.free (h : Whole w g t cs) (i : Nat) : w.frozen? ⟨g, i, none⟩ = false := by
  unfold Whole at h
  simp [World.frozen?, h]
theorem Whole.new (w : World) (t : TypeId) (cs : Array Value) : Whole (w.alloc (.cells cs t)) w.heap.size t cs := heap_alloc_new w _
theorem Whole.drewN (h : Whole w g t cs) (n : Nat) : Whole (w.drewN n) g t cs := h
theorem Whole.put (h : Whole w g t cs) (i : Nat) (u : Value) : Whole (w.setCell ⟨g, i, none⟩ u) g t (cs.setIfInBounds i u) := by
  unfold Whole at h ⊢
  simp [World.setCell, Array.getElem?_modify, h]
end
/-- A row of bools, as it lies in memory. -/
def boolRow (l : List Bool) : Array Value := (l.map Value.bool).toArray
theorem boolRow_at (l : List Bool) (i : Nat) (h : i < l.length) : (boolRow l)[i]? = some (.bool (l.getD i false)) := by
  unfold boolRow
  simp [List.getElem?_eq_getElem h, List.getD_eq_getElem?_getD]
theorem boolRow_set (l : List Bool) (i : Nat) (b : Bool) : (boolRow l).setIfInBounds i (.bool b) = boolRow (l.set i b) := by
  unfold boolRow
  simp [List.map_set]
end Go.Proofs.Ytnmfhgllafdkhaa.F
end
section
/- Plain lemmas of my own on lists, numbers and rounds: no function of the program is named here. -/
namespace Go.Proofs.Ytnmfhgllafdkhaa.F
open Go.RowKit Go.Proofs.YtnmfhgllafdkhaaW.PrintWords Go.Proofs.YtnmfhgllafdkhaaW.PrintLast Go.Proofs.YtnmfhgllafdkhaaW.PrintMore
theorem w64_id {x : Int} (h0 : -9223372036854775808 ≤ x) (h1 : x ≤ 9223372036854775807) : wrap64 x = x := by
  unfold wrap64
  omega
theorem w64_nat (n : Nat) (h : n ≤ 4611686018427387904) : wrap64 ((n : Int) + 1) = ((n + 1 : Nat) : Int) := by
  rw [w64_id (by omega) (by omega)]
  omega
theorem mid_lt {α : Type} (pre : List α) (x : α) (rest : List α) : (pre.length : Int) < ((pre ++ x :: rest).length : Int) := by
  simp
  omega
theorem mid_nlt {α : Type} (pre : List α) : ¬ (pre.length : Int) < ((pre ++ ([] : List α)).length : Int) := by simp
theorem mid_rd (pre : List Int) (x : Int) (rest : List Int) : rd (pre ++ x :: rest) (pre.length : Int) = x := by
  unfold rd
  simp
theorem mid_set {α : Type} (pre : List α) (x y : α) (rest : List α) : (pre ++ x :: rest).set ((pre.length : Int)).toNat y = (pre ++ [y]) ++ rest := by
  simp
theorem mid_cons {α : Type} (pre : List α) (x : α) (rest : List α) : pre ++ x :: rest = (pre ++ [x]) ++ rest := by simp
theorem mid_succ {α : Type} (pre : List α) (x : α) (h : pre.length ≤ 4611686018427387904) : wrap64 ((pre.length : Int) + 1) = ((pre ++ [x]).length : Int) := by
  rw [w64_nat _ h]
  simp
theorem nn (n : Nat) : 0 ≤ (n : Int) := Int.natCast_nonneg n
/-- The numbers from a on, n of them. -/
def seqFrom (a : Int) : Nat → List Int
  | 0 => []
  | n + 1 => a :: seqFrom (a + 1) n
theorem seqFrom_length (n : Nat) : ∀ a, (seqFrom a n).length = n := by
  induction n with
  | zero => intro a; rfl
  | succ n ih => intro a; simp [seqFrom, ih]
theorem Ev.some_ {α : Type} (r : α) : Ev (fun _ => some r) r := Ev.now r
/-- At a number of rounds of our own choosing. -/
theorem Ev.at_ {α : Type} {g : Nat → Option α} {r : α} (K : Nat) (h : ∀ k, K ≤ k → g k = some r) : Ev g r := ⟨K, h⟩
theorem Ev.succ {α : Type} {g : Nat → Option α} {r : α} (h : Ev (fun k => g (k + 1)) r) : Ev g r := Ev.step (f := fun k => g (k + 1)) (fun _ => rfl) h
end Go.Proofs.Ytnmfhgllafdkhaa.F
end
section
/- Laid by a program of this claim's own. What the Go function does, as a Lean function, and the proof that the Go code does just that; Lean checks it. -/
namespace Go.Proofs.Ytnmfhgllafdkhaa.F
open Go.RowKit Go.Proofs.YtnmfhgllafdkhaaW.PrintWords Go.Proofs.YtnmfhgllafdkhaaW.PrintLast Go.Proofs.YtnmfhgllafdkhaaW.PrintMore
attribute [local go_sem] max2_int min2_int max_two min_two max_three min_three max_four min_four   -- for this text's walks alone
set_option linter.unusedVariables false
set_option linter.unusedSimpArgs false
def errW : Option Int → Value
  | none => .nilIface
  | some c => .iface 0 (.int .i64 c)
theorem errW_none : errW none = .nilIface := rfl
theorem errW_some (c : Int) : errW (some c) = .iface 0 (.int .i64 c) := rfl
theorem info3 : (Try.prog.info? 3).map (fun i => (i.zero, i.size, i.bytes)) = some (some (.int .i64 0), 1, 8) := by kernel_rfl
theorem info24 : (Try.prog.info? 24).map (fun i => (i.zero, i.size, i.bytes)) = some (some (.slice none 0 0), 1, 24) := by kernel_rfl
-- the values' own types
def rd_L2 (xs : List (List Int)) (i : Int) : (List Int) := xs.getD i.toNat ([] : List Int)
theorem at_L2 {w : World} {A : Option Addr} {n : Nat} {xs : List (List Int)} (h : Kd.C (Kd.slice 3 (Kd.int .i64)) w A n xs) (i : Int) (h0 : 0 ≤ i) (h1 : i < n) : ∃ ad A0 c0, A = some ad ∧ w.cell? (ad.add i.toNat) = some (.slice A0 (rd_L2 xs i).length c0) ∧ (rd_L2 xs i).length ≤ c0 ∧ (Kd.int .i64).C w A0 (rd_L2 xs i).length (rd_L2 xs i) := by
  obtain ⟨ad, c, e, _, hK, hc0⟩ := Kd.C_get h ([] : List Int) i h0 h1
  have hc : ∀ j u, c[j]? = some u → w.cell? (ad.add (i.toNat * 1 + j)) = some u := hc0
  obtain ⟨A0, c0, rfl, l0, g0⟩ := hK
  exact ⟨ad, A0, c0, e, by have hq := hc 0 _ rfl; rwa [Nat.mul_one, Nat.add_zero] at hq, l0, g0⟩
end Go.Proofs.Ytnmfhgllafdkhaa.F
end
section
/- Laid by a program of this claim's own. What the Go function does, as a Lean function, and the proof that the Go code does just that; Lean checks it. -/
namespace Go.Proofs.Ytnmfhgllafdkhaa.F
open Go.RowKit Go.Proofs.YtnmfhgllafdkhaaW.PrintWords Go.Proofs.YtnmfhgllafdkhaaW.PrintLast Go.Proofs.YtnmfhgllafdkhaaW.PrintMore
attribute [local go_sem] max2_int min2_int max_two min_two max_three min_three max_four min_four   -- for this text's walks alone
set_option linter.unusedVariables false
set_option linter.unusedSimpArgs false
/-- A state of type 52 at block g of W; what its slices lead to came in by w0. -/
def IsS52 (w0 W : World) (g : Nat) (f0 : List Int) (f1 : Int) (f2 : Int) : Prop := ∃ A0 c0, W.heap[g]? = some (.cells #[.slice A0 f0.length c0, .int .i64 f1, .int .i64 f2] 52 (0, 0)) ∧ w0.heap.size ≤ g ∧ Kd.C (Kd.int .u8) w0 A0 f0.length f0
theorem IsS52.grown {w0 W : World} {g : Nat} {f0 : List Int} {f1 : Int} {f2 : Int} {W1 : World} {row : Option Nat} (h : IsS52 w0 W g f0 f1 f2) (hw : W.grownBy W1 row) (hne : some g ≠ row) : IsS52 w0 W1 g f0 f1 f2 := by
  obtain ⟨A0, c0, hb, hg, hr0⟩ := h
  exact ⟨A0, c0, blk_grown hb hw hne, hg, hr0⟩
theorem IsS52.kept {w0 W : World} {g : Nat} {f0 : List Int} {f1 : Int} {f2 : Int} {W1 : World} {S : Nat → Prop} (h : IsS52 w0 W g f0 f1 f2) (hk : Kept W W1 S) (hne : ¬ S g) : IsS52 w0 W1 g f0 f1 f2 := by
  obtain ⟨A0, c0, hb, hg, hr0⟩ := h
  exact ⟨A0, c0, blk_kept hb hk hne, hg, hr0⟩
theorem IsS52.below {w0 W : World} {g : Nat} {f0 : List Int} {f1 : Int} {f2 : Int} {W1 : World} (h : IsS52 w0 W g f0 f1 f2) (hw : Below W.heap.size W W1) : IsS52 w0 W1 g f0 f1 f2 := h.grown (grown_of_below hw none) (by simp)
theorem IsS52.alloc {w0 W : World} {g : Nat} {f0 : List Int} {f1 : Int} {f2 : Int} (h : IsS52 w0 W g f0 f1 f2) (o : Obj) : IsS52 w0 (W.alloc o) g f0 f1 f2 := h.below (below_alloc (Below.refl _ _) o)
theorem IsS52.drewN {w0 W : World} {g : Nat} {f0 : List Int} {f1 : Int} {f2 : Int} (h : IsS52 w0 W g f0 f1 f2) (m : Nat) : IsS52 w0 (W.drewN m) g f0 f1 f2 := h
theorem IsS52.drew {w0 W : World} {g : Nat} {f0 : List Int} {f1 : Int} {f2 : Int} (h : IsS52 w0 W g f0 f1 f2) : IsS52 w0 W.drew g f0 f1 f2 := h
theorem IsS52.at_ {w0 W : World} {g : Nat} {f0 : List Int} {f1 : Int} {f2 : Int} {w' : World} {m : Nat} (hq : W.drewN m = w') (h : IsS52 w0 W g f0 f1 f2) : IsS52 w0 w' g f0 f1 f2 := by subst hq; exact IsS52.drewN h m
theorem IsS52.apart {w0 W : World} {g : Nat} {f0 : List Int} {f1 : Int} {f2 : Int} {α : Type} {d : Kd α} {e : Nat} {base : Nat} {ok : Nat → Prop} {v : Value} {xs : List α} (h : IsS52 w0 W g f0 f1 f2) (ho : d.R e W base ok v xs) (ht : ∀ q, q ∈ e :: d.E → q ≠ 52) : d.R e W base (fun k => ok k ∧ k ≠ g) v xs := by
  obtain ⟨A0, c0, hb, hg, hr0⟩ := h
  exact Kd.R_types ho hb ht
theorem IsS52.own_ne {w0 W : World} {g : Nat} {f0 : List Int} {f1 : Int} {f2 : Int} {α : Type} {d : Kd α} {e : Nat} {base : Nat} {ok : Nat → Prop} {v : Value} {xs : List α} (h : IsS52 w0 W g f0 f1 f2) (ho : d.R e W base ok v xs) (ht : e ≠ 52) : some g ≠ v.ownBlock := by
  obtain ⟨A0, c0, hb, hg, hr0⟩ := h
  exact Kd.R_ne ho hb ht
theorem IsS52.apartS {w0 W : World} {g : Nat} {f0 : List Int} {f1 : Int} {f2 : Int} {α : Type} {d : Kd α} {e : Nat} {base : Nat} {ok : Nat → Prop} {v : Value} {xs : List α} (h : IsS52 w0 W g f0 f1 f2) (ho : d.S e W base ok v xs) (ht : ∀ q, q ∈ e :: d.E → q ≠ 52) : d.S e W base (fun k => ok k ∧ k ≠ g) v xs := by
  obtain ⟨A0, c0, hb, hg, hr0⟩ := h
  exact Kd.S_types ho hb ht
theorem IsS52.lt {w0 W : World} {g : Nat} {f0 : List Int} {f1 : Int} {f2 : Int} (h : IsS52 w0 W g f0 f1 f2) : g < W.heap.size := by
  obtain ⟨A0, c0, hb, hg, hr0⟩ := h
  exact blk_lt hb
theorem IsS52.ge {w0 W : World} {g : Nat} {f0 : List Int} {f1 : Int} {f2 : Int} (h : IsS52 w0 W g f0 f1 f2) : w0.heap.size ≤ g := by
  obtain ⟨A0, c0, hb, hg, hr0⟩ := h
  exact hg
theorem IsS52.far {w0 W : World} {g : Nat} {f0 : List Int} {f1 : Int} {f2 : Int} {p : Addr} (h : IsS52 w0 W g f0 f1 f2) (hne : g ≠ p.block) (u : Value) : IsS52 w0 (W.setCell p u) g f0 f1 f2 := by
  obtain ⟨A0, c0, hb, hg, hr0⟩ := h
  exact ⟨A0, c0, blk_far hb hne u, hg, hr0⟩
theorem cellS52_0 {W : World} {g : Nat} {A0 : Option Addr} {c0 : Nat} {f0 : List Int} {f1 : Int} {f2 : Int} (h : W.heap[g]? = some (.cells #[.slice A0 f0.length c0, .int .i64 f1, .int .i64 f2] 52 (0, 0))) : W.cell? ⟨g, 0, none⟩ = some (.slice A0 f0.length c0) := (blk_cell h 0).trans rfl
theorem cellS52_1 {W : World} {g : Nat} {A0 : Option Addr} {c0 : Nat} {f0 : List Int} {f1 : Int} {f2 : Int} (h : W.heap[g]? = some (.cells #[.slice A0 f0.length c0, .int .i64 f1, .int .i64 f2] 52 (0, 0))) : W.cell? ⟨g, 1, none⟩ = some (.int .i64 f1) := (blk_cell h 1).trans rfl
theorem IsS52.set_1 {w0 W : World} {g : Nat} {f0 : List Int} {f1 : Int} {f2 : Int} (h : IsS52 w0 W g f0 f1 f2) (x : Int) : IsS52 w0 (W.setCell ⟨g, 1, none⟩ (.int .i64 x)) g f0 x f2 := by
  obtain ⟨A0, c0, hb, hg, hr0⟩ := h
  exact ⟨A0, c0, by simpa using blk_set hb 1 (.int .i64 x), hg, hr0⟩
theorem cellS52_2 {W : World} {g : Nat} {A0 : Option Addr} {c0 : Nat} {f0 : List Int} {f1 : Int} {f2 : Int} (h : W.heap[g]? = some (.cells #[.slice A0 f0.length c0, .int .i64 f1, .int .i64 f2] 52 (0, 0))) : W.cell? ⟨g, 2, none⟩ = some (.int .i64 f2) := (blk_cell h 2).trans rfl
theorem IsS52.set_2 {w0 W : World} {g : Nat} {f0 : List Int} {f1 : Int} {f2 : Int} (h : IsS52 w0 W g f0 f1 f2) (x : Int) : IsS52 w0 (W.setCell ⟨g, 2, none⟩ (.int .i64 x)) g f0 f1 x := by
  obtain ⟨A0, c0, hb, hg, hr0⟩ := h
  exact ⟨A0, c0, by simpa using blk_set hb 2 (.int .i64 x), hg, hr0⟩
theorem IsS52.new (w0 W : World) (A0 : Option Addr) (c0 : Nat) (f0 : List Int) (f1 : Int) (f2 : Int) (hB : Below w0.heap.size w0 W) (hr0 : Kd.C (Kd.int .u8) w0 A0 f0.length f0) : IsS52 w0 (W.alloc (.cells #[.slice A0 f0.length c0, .int .i64 f1, .int .i64 f2] 52)) W.heap.size f0 f1 f2 := ⟨A0, c0, by simpa using heap_alloc_new W _, hB.size, hr0⟩
/-! ### spec_l01Byte: function 14 -/
def spec_l01Byte.f (s0_0 : List Int) (s0_1 : Int) (s0_2 : Int) : Option (Int × Int × Int) := if s0_1 < (s0_0.length : Int) then (if 0 ≤ s0_1 then (some (Go.bits .and .i64 (wrap64 ((Go.bits .and .i64 (Go.bits .xor .i64 ((wrap64 ((wrap64 (s0_2 * 6364136223846793005)) + 1442695040888963407)) / 8589934592) ((wrap64 ((wrap64 (s0_2 * 6364136223846793005)) + 1442695040888963407)) / 35184372088832)) 255) + (wrap64 (rd s0_0 s0_1)))) 255, wrap64 (s0_1 + 1), wrap64 ((wrap64 (s0_2 * 6364136223846793005)) + 1442695040888963407))) else (none)) else (some (Go.bits .and .i64 (Go.bits .xor .i64 ((wrap64 ((wrap64 (s0_2 * 6364136223846793005)) + 1442695040888963407)) / 8589934592) ((wrap64 ((wrap64 (s0_2 * 6364136223846793005)) + 1442695040888963407)) / 35184372088832)) 255, s0_1, wrap64 ((wrap64 (s0_2 * 6364136223846793005)) + 1442695040888963407)))
set_option maxHeartbeats 8000000 in
set_option maxRecDepth 100000 in
theorem spec_l01Byte.calls (g : Nat) (s0_0 : List Int) (s0_1 : Int) (s0_2 : Int) (r1 : Int) (r2 : Int) (r3 : Int) (w0 w : World) (hI : IsS52 w0 w g s0_0 s0_1 s0_2) (hB : Below w0.heap.size w0 w) (h : spec_l01Byte.f s0_0 s0_1 s0_2 = some (r1, r2, r3)) :
    Calls Try.prog 14 #[.pointer (some ⟨g, 0, none⟩)] w fun e w' => e = .returned (.int .i64 r1) ∧ IsS52 w0 w' g s0_0 r2 r3 ∧ Below w0.heap.size w0 w' ∧ KeepBut w w' g none := by
  have HI0 := Aside0.mk hI
  have HK := Aside0.mk (KeepBut.refl w g none)
  have HL := Aside0.mk hB.size
  clear hI
  have HW0 := Aside0.mk hB.size
  have HB := Aside0.mk hB
  clear hB
  have H : (if s0_1 < (s0_0.length : Int) then (if 0 ≤ s0_1 then (some (Go.bits .and .i64 (wrap64 ((Go.bits .and .i64 (Go.bits .xor .i64 ((wrap64 ((wrap64 (s0_2 * 6364136223846793005)) + 1442695040888963407)) / 8589934592) ((wrap64 ((wrap64 (s0_2 * 6364136223846793005)) + 1442695040888963407)) / 35184372088832)) 255) + (wrap64 (rd s0_0 s0_1)))) 255, wrap64 (s0_1 + 1), wrap64 ((wrap64 (s0_2 * 6364136223846793005)) + 1442695040888963407))) else (none)) else (some (Go.bits .and .i64 (Go.bits .xor .i64 ((wrap64 ((wrap64 (s0_2 * 6364136223846793005)) + 1442695040888963407)) / 8589934592) ((wrap64 ((wrap64 (s0_2 * 6364136223846793005)) + 1442695040888963407)) / 35184372088832)) 255, s0_1, wrap64 ((wrap64 (s0_2 * 6364136223846793005)) + 1442695040888963407)))) = some (r1, r2, r3) := h
  clear h
  by_cases c2 : s0_1 < (s0_0.length : Int)
  · rw [if_pos c2] at H
    have c2b0 : decide (s0_1 < (s0_0.length : Int)) = true := decide_eq_true c2
    clear c2
    by_cases c3 : 0 ≤ s0_1
    · rw [if_pos c3] at H
      have c3b0 : decide (0 ≤ s0_1) = true := decide_eq_true c3
      clear c3
      simp only [Option.some.injEq, Prod.mk.injEq] at H
      obtain ⟨rfl, rfl, rfl⟩ := H
      obtain ⟨ASz4_0, cSz4_0, HGz4, hgz4, HSz4_0⟩ := HI0.out
      have hcz4_0 := cellS52_0 HGz4
      have hcz4_1 := cellS52_1 HGz4
      have hcz4_2 := cellS52_2 HGz4
      have hfz4_1 := blk_frozen HGz4 1
      have hfz4_2 := blk_frozen HGz4 2
      clear HGz4 hgz4
      have p101 : 0 ≤ (s0_1 : Int) := of_decide_eq_true (by first | (with_reducible assumption) | assumption)
      have q101 : s0_1 < (s0_0.length : Int) := of_decide_eq_true (by first | (with_reducible assumption) | assumption)
      obtain ⟨ad101, e101, hx101_0⟩ := Kd.at_int HSz4_0 s0_1 p101 q101
      cases e101
      have hn101_0 : ad101.block ≠ g := Nat.ne_of_lt (Nat.lt_of_lt_of_le (by have := World.block_lt_of_cell? _ _ hx101_0; first | rwa [add_block] at this | exact this) (IsS52.ge HI0.out))
      replace hx101_0 := pw_cell_below HB.out hx101_0
      replace hx101_0 := (cell_far (p := ⟨g, 2, none⟩) (by first | (rw [add_block]; exact hn101_0) | (show (Addr.add _ _).block ≠ _; rw [add_block]; exact hn101_0) | exact hn101_0) (.int .i64 (wrap64 ((wrap64 (s0_2 * 6364136223846793005)) + 1442695040888963407)))).trans hx101_0
      (try have hy101_0 := fun (n_ : Nat) => (show (((w.drewN n_).setCell ⟨g, 2, none⟩ (.int .i64 (wrap64 ((wrap64 (s0_2 * 6364136223846793005)) + 1442695040888963407))))).cell? _ = some _ from hx101_0))
      clear hn101_0
      replace p101 := eq_true p101
      replace q101 := eq_true q101
      go_enter Try.func14, Try.ntmps14
      go_wp2
      repeat (go_quiet (fail); try go_wp2)
      go_ret
      exact ⟨by first | rfl | (simp [errW_none, errW_some] <;> rfl) | (simp [*, errW_none, errW_some] <;> rfl), by repeat (first | (with_reducible first | exact HI0.out | apply IsS52.alloc | apply IsS52.drewN | apply IsS52.drew | apply IsS52.set_1 | apply IsS52.set_2) | exact HI0.out), by repeat (first | (with_reducible first | exact HB.out | apply below_alloc | apply pw_below_drewN | apply below_drew1 | refine below_set ?_ (IsS52.ge HI0.out)) | exact HB.out), by repeat (first | (with_reducible first | exact HK.out | apply KeepBut.set_ | apply keep_drewN | apply keep_drew | apply keep_alloc) | exact HK.out)⟩
    · rw [if_neg c3] at H
      exact absurd H (by simp)
  · rw [if_neg c2] at H
    have c2b0 : decide (s0_1 < (s0_0.length : Int)) = false := decide_eq_false c2
    clear c2
    simp only [Option.some.injEq, Prod.mk.injEq] at H
    obtain ⟨rfl, rfl, rfl⟩ := H
    obtain ⟨ASz5_0, cSz5_0, HGz5, hgz5, HSz5_0⟩ := HI0.out
    have hcz5_0 := cellS52_0 HGz5
    have hcz5_1 := cellS52_1 HGz5
    have hcz5_2 := cellS52_2 HGz5
    have hfz5_1 := blk_frozen HGz5 1
    have hfz5_2 := blk_frozen HGz5 2
    clear HGz5 hgz5
    go_enter Try.func14, Try.ntmps14
    go_wp2
    repeat (go_quiet (fail); try go_wp2)
    go_ret
    exact ⟨by first | rfl | (simp [errW_none, errW_some] <;> rfl) | (simp [*, errW_none, errW_some] <;> rfl), by repeat (first | (with_reducible first | exact HI0.out | apply IsS52.alloc | apply IsS52.drewN | apply IsS52.drew | apply IsS52.set_1 | apply IsS52.set_2) | exact HI0.out), by repeat (first | (with_reducible first | exact HB.out | apply below_alloc | apply pw_below_drewN | apply below_drew1 | refine below_set ?_ (IsS52.ge HI0.out)) | exact HB.out), by repeat (first | (with_reducible first | exact HK.out | apply KeepBut.set_ | apply keep_drewN | apply keep_drew | apply keep_alloc) | exact HK.out)⟩
end Go.Proofs.Ytnmfhgllafdkhaa.F
end
section
/- Laid by a program of this claim's own. What the Go function does, as a Lean function, and the proof that the Go code does just that; Lean checks it. -/
namespace Go.Proofs.Ytnmfhgllafdkhaa.F
open Go.RowKit Go.Proofs.YtnmfhgllafdkhaaW.PrintWords Go.Proofs.YtnmfhgllafdkhaaW.PrintLast Go.Proofs.YtnmfhgllafdkhaaW.PrintMore
attribute [local go_sem] max2_int min2_int max_two min_two max_three min_three max_four min_four   -- for this text's walks alone
set_option linter.unusedVariables false
set_option linter.unusedSimpArgs false
/-! ### spec_l01New: function 16 -/
def spec_l01New.l0 : Nat → List Int → Int → Int → Option (List Int × Int × Int)
  | 0, _, _, _ => none
  | k + 1, x0, x3, x4 => if x4 < (x0.length : Int) then (if x4 < 4000 then (if 0 ≤ x4 then (spec_l01New.l0 k x0 (Go.bits .and .i64 (wrap64 ((wrap64 ((wrap64 (x3 * 101)) + (wrap64 (rd x0 x4)))) + 7)) 1073741823) (wrap64 (x4 + 1))) else (none)) else (some (x0, 0, x3))) else (some (x0, 0, x3))
def spec_l01New.f (k : Nat) (l0 : List Int) : Option (List Int × Int × Int) := spec_l01New.l0 k l0 (wrap64 (2070 + (l0.length : Int))) 0
theorem spec_l01New.mono_l : ∀ k, (∀ y0 y1 y2, LeO (spec_l01New.l0 k y0 y1 y2) (spec_l01New.l0 (k + 1) y0 y1 y2))
  | 0 => fun _ _ _ r h => by simp [spec_l01New.l0] at h
  | k + 1 => by
    have ih0 := spec_l01New.mono_l k
    · intro y0 y1 y2
      unfold spec_l01New.l0
      repeat' first
      | (with_reducible exact ih0 _ _ _)
      | (with_reducible exact LeO.refl _)
      | (with_reducible exact LeO.none _)
      | (with_reducible refine LeO.ite ?_ ?_)
      | (with_reducible refine LeO.bind ?_ (fun _ => ?_))
      | exact ih0 _ _ _
      | exact LeO.none _
      | refine LeO.ite ?_ ?_
      | refine LeO.bind ?_ (fun _ => ?_)
theorem spec_l01New.mono : ∀ a0 k, LeO (spec_l01New.f k a0) (spec_l01New.f (k + 1) a0) := by
  intro a0 k
  have ih0 := spec_l01New.mono_l k
  unfold spec_l01New.f
  repeat' first
      | (with_reducible exact ih0 _ _ _)
      | (with_reducible exact LeO.refl _)
      | (with_reducible exact LeO.none _)
      | (with_reducible refine LeO.ite ?_ ?_)
      | (with_reducible refine LeO.bind ?_ (fun _ => ?_))
      | exact ih0 _ _ _
      | exact LeO.none _
      | refine LeO.ite ?_ ?_
      | refine LeO.bind ?_ (fun _ => ?_)
set_option maxHeartbeats 8000000 in
set_option maxRecDepth 100000 in
theorem spec_l01New.calls (k : Nat) (A0 : Option Addr) (c0 : Nat) (l0 : List Int) (r1 : List Int) (r2 : Int) (r3 : Int) (w0 w : World) (hB : Below w0.heap.size w0 w) (hr0 : Kd.C (Kd.int .u8) w0 A0 l0.length l0) (hc0 : l0.length ≤ c0) (h : spec_l01New.f k l0 = some (r1, r2, r3)) :
    Calls Try.prog 16 #[.slice A0 l0.length c0] w fun e w' => ∃ g_ : Nat, e = .returned (.pointer (some ⟨g_, 0, none⟩)) ∧ IsS52 w0 w' g_ r1 r2 r3 ∧ Below w0.heap.size w0 w' ∧ Below w.heap.size w w' := by
  have hu52 := Try.underlying52
  have HR0 := Aside0.mk hr0
  have HC0 := Aside0.mk hc0
  clear hr0 hc0
  have HBW := Aside0.mk (Below.refl w.heap.size w)
  have HW0 := Aside0.mk hB.size
  have HB := Aside0.mk hB
  clear hB
  have H : (spec_l01New.l0 k l0 (wrap64 (2070 + (l0.length : Int))) 0) = some (r1, r2, r3) := h
  clear h
  have H' := Aside0.mk H
  clear H
  go_enter Try.func16, Try.ntmps16
  go_wp2
  go_loopg [3, 4] k (fun kq v3 v4 w' => ∃ (x3_1 : Int) (x4_1 : Int), v3 = .int .i64 x3_1 ∧ v4 = .int .i64 x4_1 ∧ Aside0 (spec_l01New.l0 kq l0 x3_1 x4_1 = some (r1, r2, r3)) ∧ Aside0 (kq ≤ k) ∧ Aside0 (Below w0.heap.size w0 w') ∧ Aside0 (Below w.heap.size w w'))
  case atStart => exact ⟨(wrap64 (2070 + (l0.length : Int))), (0), (by first | rfl | (simp; done) | (simp [*]; done)), (by first | rfl | (simp; done) | (simp [*]; done)), H', ⟨Nat.le_refl _⟩, ⟨by repeat (first | (with_reducible first | exact HB.out | apply below_alloc | apply pw_below_drewN | apply below_drew1) | exact HB.out)⟩, ⟨by repeat (first | exact HBW.out | apply below_alloc | apply pw_below_drewN | apply below_drew1)⟩⟩
  case round =>
    clear H'
    try clear c1
    obtain ⟨x3_1, x4_1, rfl, rfl, HA, HK1, HB, HBW⟩ := hrel
    cases gk with
    | zero => exact absurd HA.out (by simp [spec_l01New.l0])
    | succ k1 =>
      have H := HA.out
      clear HA
      simp only [spec_l01New.l0] at H
      by_cases c2 : x4_1 < (l0.length : Int)
      · rw [if_pos c2] at H
        have c2b0 : decide (x4_1 < (l0.length : Int)) = true := decide_eq_true c2
        clear c2
        by_cases c3 : x4_1 < 4000
        · rw [if_pos c3] at H
          have c3b0 : decide (x4_1 < 4000) = true := decide_eq_true c3
          clear c3
          by_cases c4 : 0 ≤ x4_1
          · rw [if_pos c4] at H
            have c4b0 : decide (0 ≤ x4_1) = true := decide_eq_true c4
            clear c4
            have H' := Aside0.mk H
            clear H
            have p102 : 0 ≤ (x4_1 : Int) := of_decide_eq_true (by first | (with_reducible assumption) | assumption)
            have q102 : x4_1 < (l0.length : Int) := of_decide_eq_true (by first | (with_reducible assumption) | assumption)
            obtain ⟨ad102, e102, hx102_0⟩ := Kd.at_int HR0.out x4_1 p102 q102
            cases e102
            replace hx102_0 := pw_cell_below HB.out hx102_0
            replace p102 := eq_true p102
            replace q102 := eq_true q102
            go_wp2
            go_roundg k1
            case measure => have := HK1.out; omega
            case rel => exact ⟨(Go.bits .and .i64 (wrap64 ((wrap64 ((wrap64 (x3_1 * 101)) + (wrap64 (rd l0 x4_1)))) + 7)) 1073741823), (wrap64 (x4_1 + 1)), (by first | rfl | (simp; done) | (simp [*]; done)), (by first | rfl | (simp; done) | (simp [*]; done)), H', ⟨by have := HK1.out; omega⟩, ⟨by repeat (first | (with_reducible first | exact HB.out | apply below_alloc | apply pw_below_drewN | apply below_drew1) | exact HB.out)⟩, ⟨by repeat (first | exact HBW.out | apply below_alloc | apply pw_below_drewN | apply below_drew1)⟩⟩
          · rw [if_neg c4] at H
            exact absurd H (by simp)
        · rw [if_neg c3] at H
          have c3b0 : decide (x4_1 < 4000) = false := decide_eq_false c3
          clear c3
          simp only [Option.some.injEq, Prod.mk.injEq] at H
          obtain ⟨rfl, rfl, rfl⟩ := H
          go_wp2_with (first | ((with_reducible refine gate_dst (N := 31) rfl ?_); refine box_event ?hg (N := 31) ?hd (cs := #[.slice A0 l0.length c0, .int .i64 0, .int .i64 x3_1]) (t := 52) ?hr ?_; (case hd => rfl); (case hg => rfl); (case hr => first | (go_simp; done) | (go_simp; rfl)); intro gb103 hg w5 hbox hb; have n0_ := Aside0.mk (below_step HBW.out hb); have n1_ := Aside0.mk (below_step (by repeat (first | (with_reducible first | exact HB.out | apply below_alloc | apply pw_below_drewN | apply below_drew1) | exact HB.out)) hb); have n2_ := Aside0.mk (hbox); have n3_ := Aside0.mk ((by rw [hg]; exact (below_size (by repeat (first | (with_reducible first | exact HBW.out | apply below_alloc | apply pw_below_drewN | apply below_drew1) | exact HBW.out))) : w.heap.size ≤ gb103)); have n4_ := Aside0.mk ((Nat.le_trans HW0.out (by rw [hg]; exact (below_size (by repeat (first | (with_reducible first | exact HBW.out | apply below_alloc | apply pw_below_drewN | apply below_drew1) | exact HBW.out))) : w.heap.size ≤ gb103) : w0.heap.size ≤ gb103)); clear HBW; clear HB; have HBW := n0_; have HB := n1_; have BK103 := n2_; have GW103 := n3_; have GE103 := n4_; clear n0_ n1_ n2_ n3_ n4_; clear hb hbox hg))
          go_ret
          exact ⟨_, rfl, (show IsS52 w0 _ gb103 l0 0 x3_1 from ⟨_, _, by (with_reducible repeat (first | refine blk_drewN ?_ _ | refine blk_drew ?_ | refine blk_alloc ?_ _)); exact BK103.out, GE103.out, HR0.out⟩), by repeat (first | (with_reducible first | exact HB.out | apply below_alloc | apply pw_below_drewN | apply below_drew1 | refine below_set ?_ GE103.out) | exact HB.out), by repeat (first | (with_reducible first | exact HBW.out | apply below_alloc | apply pw_below_drewN | apply below_drew1 | refine below_set ?_ GW103.out) | exact HBW.out)⟩
      · rw [if_neg c2] at H
        have c2b0 : decide (x4_1 < (l0.length : Int)) = false := decide_eq_false c2
        clear c2
        simp only [Option.some.injEq, Prod.mk.injEq] at H
        obtain ⟨rfl, rfl, rfl⟩ := H
        go_wp2_with (first | ((with_reducible refine gate_dst (N := 31) rfl ?_); refine box_event ?hg (N := 31) ?hd (cs := #[.slice A0 l0.length c0, .int .i64 0, .int .i64 x3_1]) (t := 52) ?hr ?_; (case hd => rfl); (case hg => rfl); (case hr => first | (go_simp; done) | (go_simp; rfl)); intro gb104 hg w6 hbox hb; have n0_ := Aside0.mk (below_step HBW.out hb); have n1_ := Aside0.mk (below_step (by repeat (first | (with_reducible first | exact HB.out | apply below_alloc | apply pw_below_drewN | apply below_drew1) | exact HB.out)) hb); have n2_ := Aside0.mk (hbox); have n3_ := Aside0.mk ((by rw [hg]; exact (below_size (by repeat (first | (with_reducible first | exact HBW.out | apply below_alloc | apply pw_below_drewN | apply below_drew1) | exact HBW.out))) : w.heap.size ≤ gb104)); have n4_ := Aside0.mk ((Nat.le_trans HW0.out (by rw [hg]; exact (below_size (by repeat (first | (with_reducible first | exact HBW.out | apply below_alloc | apply pw_below_drewN | apply below_drew1) | exact HBW.out))) : w.heap.size ≤ gb104) : w0.heap.size ≤ gb104)); clear HBW; clear HB; have HBW := n0_; have HB := n1_; have BK104 := n2_; have GW104 := n3_; have GE104 := n4_; clear n0_ n1_ n2_ n3_ n4_; clear hb hbox hg))
        go_ret
        exact ⟨_, rfl, (show IsS52 w0 _ gb104 l0 0 x3_1 from ⟨_, _, by (with_reducible repeat (first | refine blk_drewN ?_ _ | refine blk_drew ?_ | refine blk_alloc ?_ _)); exact BK104.out, GE104.out, HR0.out⟩), by repeat (first | (with_reducible first | exact HB.out | apply below_alloc | apply pw_below_drewN | apply below_drew1 | refine below_set ?_ GE104.out) | exact HB.out), by repeat (first | (with_reducible first | exact HBW.out | apply below_alloc | apply pw_below_drewN | apply below_drew1 | refine below_set ?_ GW104.out) | exact HBW.out)⟩
end Go.Proofs.Ytnmfhgllafdkhaa.F
-- MADE BEHIND A LOOP
end
section
/- Laid by a program of this claim's own. What the Go function does, as a Lean function, and the proof that the Go code does just that; Lean checks it. -/
namespace Go.Proofs.Ytnmfhgllafdkhaa.F
open Go.RowKit Go.Proofs.YtnmfhgllafdkhaaW.PrintWords Go.Proofs.YtnmfhgllafdkhaaW.PrintLast Go.Proofs.YtnmfhgllafdkhaaW.PrintMore
attribute [local go_sem] max2_int min2_int max_two min_two max_three min_three max_four min_four   -- for this text's walks alone
set_option linter.unusedVariables false
set_option linter.unusedSimpArgs false
/-! ### spec_l23New: function 13 -/
def spec_l23New.l0 : Nat → Int → List Int → Int → Int → Int → Option (List Int × Int × Int)
  | 0, _, _, _, _, _ => none
  | k + 1, x1, f0, f1, f2, x6 => if x6 < x1 then ((spec_l01Byte.f f0 f1 f2).bind fun b => (spec_l23New.l0 k x1 f0 b.2.1 b.2.2 (wrap64 (x6 + 1)))) else (some (f0, f1, f2))
def spec_l23New.f (k : Nat) (l0 : List Int) (a1 : Int) : Option (List Int × Int × Int) := (spec_l01New.f k l0).bind fun s => spec_l23New.l0 k a1 s.1 s.2.1 s.2.2 0
theorem spec_l23New.mono_l : ∀ k y0 y1 y2 y3 y4, LeO (spec_l23New.l0 k y0 y1 y2 y3 y4) (spec_l23New.l0 (k + 1) y0 y1 y2 y3 y4)
  | 0, _, _, _, _, _ => fun r h => by simp [spec_l23New.l0] at h
  | k + 1, y0, y1, y2, y3, y4 => by
    have ih0 := spec_l23New.mono_l k
    unfold spec_l23New.l0
    repeat' first
      | (with_reducible exact ih0 _ _ _ _ _)
      | (with_reducible exact LeO.refl _)
      | (with_reducible refine LeO.ite ?_ ?_)
      | (with_reducible refine LeO.bind ?_ (fun _ => ?_))
      | exact ih0 _ _ _ _ _
      | refine LeO.ite ?_ ?_
theorem spec_l23New.mono : ∀ a0 a1 k, LeO (spec_l23New.f k a0 a1) (spec_l23New.f (k + 1) a0 a1) := by
  intro a0 a1 k
  unfold spec_l23New.f
  exact LeO.bind (spec_l01New.mono _ _) (fun _ => spec_l23New.mono_l k _ _ _ _ _)
set_option maxHeartbeats 8000000 in
set_option maxRecDepth 100000 in
theorem spec_l23New.calls (k : Nat) (A0 : Option Addr) (c0 : Nat) (l0 : List Int) (a1 : Int) (r1 : List Int) (r2 : Int) (r3 : Int) (w : World) (hr0 : Kd.C (Kd.int .u8) w A0 l0.length l0) (hc0 : l0.length ≤ c0) (h : spec_l23New.f k l0 a1 = some (r1, r2, r3)) :
    Calls Try.prog 13 #[.slice A0 l0.length c0, .int .i64 a1] w fun e w' => ∃ g_ : Nat, e = .returned (.pointer (some ⟨g_, 0, none⟩)) ∧ IsS52 w w' g_ r1 r2 r3 ∧ Below w.heap.size w w' := by
  have HR0 := Aside0.mk hr0
  have HC0 := Aside0.mk hc0
  clear hr0 hc0
  obtain ⟨⟨t1, t2, t3⟩, A1, H⟩ := Option.bind_eq_some_iff.mp h
  have A1 := Aside0.mk A1
  have H' := Aside0.mk H
  clear h H
  have HB := Aside0.mk (Below.refl w.heap.size w)
  go_enter Try.func13, Try.ntmps13
  go_wp2_with (go_at_call 16; (with_reducible refine (spec_l01New.calls k A0 c0 l0 t1 t2 t3 w _ ?side1 ?side2 HC0.out A1.out).mono ?_); (case side1 => repeat (first | exact HB.out | apply below_alloc | apply pw_below_drewN | apply below_drew1)); (case side2 => exact HR0.out); rintro e w7 ⟨g, rfl, hi, hb, hb2⟩; have HI := Aside0.mk hi; clear HB; have HB := Aside0.mk hb; clear hi hb hb2)
  go_loopg [6] k (fun kq v6 w' => ∃ (x6 y1 y2 : Int), v6 = .int .i64 x6 ∧ Aside0 (spec_l23New.l0 kq a1 t1 y1 y2 x6 = some (r1, r2, r3)) ∧ Aside0 (kq ≤ k) ∧ Aside0 (IsS52 w w' g t1 y1 y2) ∧ Aside0 (Below w.heap.size w w'))
  case atStart => exact ⟨0, t2, t3, rfl, H', ⟨Nat.le_refl _⟩, ⟨by repeat (first | exact HI.out | apply IsS52.drewN | apply IsS52.drew)⟩, ⟨by repeat (first | exact HB.out | apply pw_below_drewN | apply below_drew1)⟩⟩
  case round =>
    clear H' HI HB
    obtain ⟨x6, y1, y2, rfl, HA, HK1, HI, HB⟩ := hrel
    cases gk with
    | zero => exact absurd HA.out (by simp [spec_l23New.l0])
    | succ k1 =>
      have H := HA.out
      clear HA
      simp only [spec_l23New.l0] at H
      by_cases c : x6 < a1
      · rw [if_pos c] at H
        obtain ⟨⟨b1, b2, b3⟩, A2, H⟩ := Option.bind_eq_some_iff.mp H
        have A2 := Aside0.mk A2
        have H' := Aside0.mk H
        clear H
        have cb : decide (x6 < a1) = true := decide_eq_true c
        clear c
        go_wp2_with (go_at_call 14; (with_reducible refine (spec_l01Byte.calls g t1 y1 y2 b1 b2 b3 w _ ?side1 ?side2 A2.out).mono ?_); (case side1 => repeat (first | exact HI.out | apply IsS52.drewN | apply IsS52.drew)); (case side2 => repeat (first | exact HB.out | apply pw_below_drewN | apply below_drew1)); rintro e w8 ⟨rfl, hi, hb, hk⟩; clear HI HB; have HI := Aside0.mk hi; have HB := Aside0.mk hb; clear hi hb hk)
        go_roundg k1
        case measure => have := HK1.out; omega
        case rel => exact ⟨wrap64 (x6 + 1), b2, b3, rfl, H', ⟨by have := HK1.out; omega⟩, ⟨by repeat (first | exact HI.out | apply IsS52.drewN | apply IsS52.drew)⟩, ⟨by repeat (first | exact HB.out | apply pw_below_drewN | apply below_drew1)⟩⟩
      · rw [if_neg c] at H
        simp only [Option.some.injEq, Prod.mk.injEq] at H
        obtain ⟨rfl, rfl, rfl⟩ := H
        have cb : decide (x6 < a1) = false := decide_eq_false c
        clear c
        go_wp2
        go_ret
        exact ⟨g, rfl, by repeat (first | exact HI.out | apply IsS52.drewN | apply IsS52.drew), by repeat (first | exact HB.out | apply pw_below_drewN | apply below_drew1)⟩
end Go.Proofs.Ytnmfhgllafdkhaa.F
end
section
/- Laid by a program of this claim's own. What the Go function does, as a Lean function, and the proof that the Go code does just that; Lean checks it. -/
namespace Go.Proofs.Ytnmfhgllafdkhaa.F
open Go.RowKit Go.Proofs.YtnmfhgllafdkhaaW.PrintWords Go.Proofs.YtnmfhgllafdkhaaW.PrintLast Go.Proofs.YtnmfhgllafdkhaaW.PrintMore
attribute [local go_sem] max2_int min2_int max_two min_two max_three min_three max_four min_four   -- for this text's walks alone
set_option linter.unusedVariables false
set_option linter.unusedSimpArgs false
/-! ### spec_MakeNum: function 4 -/
def spec_MakeNum.f (k : Nat) (l0 : List Int) (a1 : Int) : Option (Int) := (spec_l23New.f k l0 a1).bind fun s => (spec_l01Byte.f s.1 s.2.1 s.2.2).bind fun b => (spec_l01Byte.f s.1 b.2.1 b.2.2).bind fun d => some (wrap64 ((wrap64 (b.1 * 256)) + d.1))
theorem spec_MakeNum.mono : ∀ a0 a1 k, LeO (spec_MakeNum.f k a0 a1) (spec_MakeNum.f (k + 1) a0 a1) := by
  intro a0 a1 k
  unfold spec_MakeNum.f
  exact LeO.bind (spec_l23New.mono _ _ _) (fun _ => LeO.refl _)
set_option maxHeartbeats 8000000 in
set_option maxRecDepth 100000 in
theorem spec_MakeNum.calls (k : Nat) (A0 : Option Addr) (c0 : Nat) (l0 : List Int) (a1 : Int) (r : Int) (w : World) (hr0 : Kd.C (Kd.int .u8) w A0 l0.length l0) (hc0 : l0.length ≤ c0) (h : spec_MakeNum.f k l0 a1 = some r) :
    Calls Try.prog 4 #[.slice A0 l0.length c0, .int .i64 a1] w fun e w' => e = .returned (.int .i64 r) ∧ Below w.heap.size w w' := by
  have HR0 := Aside0.mk hr0
  have HC0 := Aside0.mk hc0
  obtain ⟨⟨t1, t2, t3⟩, h1, h⟩ := Option.bind_eq_some_iff.mp h
  obtain ⟨⟨b1, b2, b3⟩, h2, h⟩ := Option.bind_eq_some_iff.mp h
  obtain ⟨⟨d1, d2, d3⟩, h3, h⟩ := Option.bind_eq_some_iff.mp h
  obtain rfl := Option.some.inj h
  have A1 := Aside0.mk h1
  have A2 := Aside0.mk h2
  have A3 := Aside0.mk h3
  clear hr0 hc0 h1 h2 h3 h
  go_enter Try.func4, Try.ntmps4
  go_wp2_with (go_at_call 13; (with_reducible refine (spec_l23New.calls k A0 c0 l0 a1 t1 t2 t3 _ HR0.out HC0.out A1.out).mono ?_); rintro e w7 ⟨g, rfl, hi, hb⟩; have HI := Aside0.mk hi; have HB := Aside0.mk hb; clear hi hb)
  go_wp2_with (go_at_call 14; (with_reducible refine (spec_l01Byte.calls g t1 t2 t3 b1 b2 b3 w _ HI.out HB.out A2.out).mono ?_); rintro e w8 ⟨rfl, hi, hb, hk⟩; clear HI HB; have HI := Aside0.mk hi; have HB := Aside0.mk hb; clear hi hb hk)
  go_wp2_with (go_at_call 14; (with_reducible refine (spec_l01Byte.calls g t1 b2 b3 d1 d2 d3 w _ HI.out HB.out A3.out).mono ?_); rintro e w9 ⟨rfl, hi, hb, hk⟩; clear HI HB; have HI := Aside0.mk hi; have HB := Aside0.mk hb; clear hi hb hk)
  go_ret
  exact ⟨by first | rfl | (simp [i64_w]; done), HB.out⟩
end Go.Proofs.Ytnmfhgllafdkhaa.F
end
section
/- Laid by a program of this claim's own. What the Go function does, as a Lean function, and the proof that the Go code does just that; Lean checks it. -/
namespace Go.Proofs.Ytnmfhgllafdkhaa.F
open Go.RowKit Go.Proofs.YtnmfhgllafdkhaaW.PrintWords Go.Proofs.YtnmfhgllafdkhaaW.PrintLast Go.Proofs.YtnmfhgllafdkhaaW.PrintMore
attribute [local go_sem] max2_int min2_int max_two min_two max_three min_three max_four min_four   -- for this text's walks alone
set_option linter.unusedVariables false
set_option linter.unusedSimpArgs false
/-! ### spec_l01Below: function 18 -/
def spec_l01Below.f (s0_0 : List Int) (s0_1 : Int) (s0_2 : Int) (a1 : Int) : Option (Int × Int × Int) := if a1 ≤ 0 then (some (0, s0_1, s0_2)) else (if a1 ≤ 256 then ((spec_l01Byte.f s0_0 s0_1 s0_2).bind fun bt105 => (if a1 = 0 then (none) else (some (Int.tmod bt105.1 a1, bt105.2.1, bt105.2.2)))) else ((spec_l01Byte.f s0_0 s0_1 s0_2).bind fun bt108 => ((spec_l01Byte.f s0_0 bt108.2.1 bt108.2.2).bind fun bt111 => ((spec_l01Byte.f s0_0 bt111.2.1 bt111.2.2).bind fun bt114 => ((spec_l01Byte.f s0_0 bt114.2.1 bt114.2.2).bind fun bt117 => (if a1 = 0 then (none) else (some (Int.tmod (wrap64 ((wrap64 ((wrap64 ((wrap64 (bt108.1 * 16777216)) + (wrap64 (bt111.1 * 65536)))) + (wrap64 (bt114.1 * 256)))) + bt117.1)) a1, bt117.2.1, bt117.2.2))))))))
set_option maxHeartbeats 8000000 in
set_option maxRecDepth 100000 in
theorem spec_l01Below.calls (g : Nat) (s0_0 : List Int) (s0_1 : Int) (s0_2 : Int) (a1 : Int) (r1 : Int) (r2 : Int) (r3 : Int) (w0 w : World) (hI : IsS52 w0 w g s0_0 s0_1 s0_2) (hB : Below w0.heap.size w0 w) (h : spec_l01Below.f s0_0 s0_1 s0_2 a1 = some (r1, r2, r3)) :
    Calls Try.prog 18 #[.pointer (some ⟨g, 0, none⟩), .int .i64 a1] w fun e w' => e = .returned (.int .i64 r1) ∧ IsS52 w0 w' g s0_0 r2 r3 ∧ Below w0.heap.size w0 w' ∧ KeepBut w w' g none := by
  have HI0 := Aside0.mk hI
  have HK := Aside0.mk (KeepBut.refl w g none)
  have HL := Aside0.mk hB.size
  clear hI
  have HW0 := Aside0.mk hB.size
  have HB := Aside0.mk hB
  clear hB
  have H : (if a1 ≤ 0 then (some (0, s0_1, s0_2)) else (if a1 ≤ 256 then ((spec_l01Byte.f s0_0 s0_1 s0_2).bind fun bt105 => (if a1 = 0 then (none) else (some (Int.tmod bt105.1 a1, bt105.2.1, bt105.2.2)))) else ((spec_l01Byte.f s0_0 s0_1 s0_2).bind fun bt108 => ((spec_l01Byte.f s0_0 bt108.2.1 bt108.2.2).bind fun bt111 => ((spec_l01Byte.f s0_0 bt111.2.1 bt111.2.2).bind fun bt114 => ((spec_l01Byte.f s0_0 bt114.2.1 bt114.2.2).bind fun bt117 => (if a1 = 0 then (none) else (some (Int.tmod (wrap64 ((wrap64 ((wrap64 ((wrap64 (bt108.1 * 16777216)) + (wrap64 (bt111.1 * 65536)))) + (wrap64 (bt114.1 * 256)))) + bt117.1)) a1, bt117.2.1, bt117.2.2))))))))) = some (r1, r2, r3) := h
  clear h
  by_cases c3 : a1 ≤ 0
  · rw [if_pos c3] at H
    have c3b0 : decide (a1 ≤ 0) = true := decide_eq_true c3
    clear c3
    simp only [Option.some.injEq, Prod.mk.injEq] at H
    obtain ⟨rfl, rfl, rfl⟩ := H
    go_enter Try.func18, Try.ntmps18
    go_wp2
    go_ret
    exact ⟨by first | rfl | (simp [errW_none, errW_some] <;> rfl) | (simp [*, errW_none, errW_some] <;> rfl), by repeat (first | (with_reducible first | exact HI0.out | apply IsS52.alloc | apply IsS52.drewN | apply IsS52.drew | apply IsS52.set_1 | apply IsS52.set_2) | exact HI0.out), by repeat (first | (with_reducible first | exact HB.out | apply below_alloc | apply pw_below_drewN | apply below_drew1 | refine below_set ?_ (IsS52.ge HI0.out)) | exact HB.out), by repeat (first | (with_reducible first | exact HK.out | apply KeepBut.set_ | apply keep_drewN | apply keep_drew | apply keep_alloc) | exact HK.out)⟩
  · rw [if_neg c3] at H
    have c3b0 : decide (a1 ≤ 0) = false := decide_eq_false c3
    clear c3
    by_cases c4 : a1 ≤ 256
    · rw [if_pos c4] at H
      have c4b0 : decide (a1 ≤ 256) = true := decide_eq_true c4
      clear c4
      replace H := Option.bind_eq_some_iff.mp H
      obtain ⟨⟨t105, t106, t107⟩, A50, H⟩ := H
      replace H : (if a1 = 0 then (none) else (some (Int.tmod t105 a1, t106, t107))) = some (r1, r2, r3) := H
      have A5 := Aside0.mk A50
      clear A50
      by_cases c6 : a1 = 0
      · rw [if_pos c6] at H
        exact absurd H (by simp)
      · rw [if_neg c6] at H
        have c6b0 : (a1 == 0) = false := beq_eq_false_iff_ne.mpr c6
        have c6b1 : (a1 != 0) = true := bne_iff_ne.mpr c6
        simp only [Option.some.injEq, Prod.mk.injEq] at H
        obtain ⟨rfl, rfl, rfl⟩ := H
        go_enter Try.func18, Try.ntmps18
        go_wp2_with (first | ((with_reducible refine gate_callee (f := 14) rfl ?_); refine goesL_ (some 14) rfl rfl Try.func14 (by kernel_rfl) rfl #[.pointer (some ⟨g, 0, none⟩)] rfl (by (try simp only [List.map_toArray, List.map_cons, List.map_nil]); first | done | rfl | (simp only [List.length_drop, List.length_take]; rfl)) ?_; (with_reducible refine (spec_l01Byte.calls g s0_0 s0_1 s0_2 t105 t106 t107 w0 _ ?side1 ?side2 A5.out).mono ?_); (case side1 => repeat (first | (with_reducible first | exact HI0.out | apply IsS52.alloc | apply IsS52.drewN | apply IsS52.drew | apply IsS52.set_1 | apply IsS52.set_2) | exact HI0.out)); (case side2 => repeat (first | (with_reducible first | exact HB.out | apply below_alloc | apply pw_below_drewN | apply below_drew1 | refine below_set ?_ (IsS52.ge HI0.out)) | exact HB.out)); rintro e w7 ⟨rfl, hi, hb, hk⟩; refine ⟨_, rfl, ?_⟩; have n0_ := Aside0.mk (KeepBut.trans (by repeat (first | (with_reducible first | exact HK.out | apply KeepBut.set_ | apply keep_drewN | apply keep_drew | apply keep_alloc) | exact HK.out)) hk (.inl rfl)); have n1_ := Aside0.mk (hb); have n2_ := Aside0.mk (hi); clear HK; clear HB; clear HI0; have HK := n0_; have HB := n1_; have HI0 := n2_; clear n0_ n1_ n2_; (try clear hb); (try clear hb2); (try clear hk); (try clear hi)))
        go_ret
        exact ⟨by first | rfl | (simp [errW_none, errW_some] <;> rfl) | (simp [*, errW_none, errW_some] <;> rfl), by repeat (first | (with_reducible first | exact HI0.out | apply IsS52.alloc | apply IsS52.drewN | apply IsS52.drew | apply IsS52.set_1 | apply IsS52.set_2) | exact HI0.out), by repeat (first | (with_reducible first | exact HB.out | apply below_alloc | apply pw_below_drewN | apply below_drew1 | refine below_set ?_ (IsS52.ge HI0.out)) | exact HB.out), by repeat (first | (with_reducible first | exact HK.out | apply KeepBut.set_ | apply keep_drewN | apply keep_drew | apply keep_alloc) | exact HK.out)⟩
    · rw [if_neg c4] at H
      have c4b0 : decide (a1 ≤ 256) = false := decide_eq_false c4
      clear c4
      replace H := Option.bind_eq_some_iff.mp H
      obtain ⟨⟨t108, t109, t110⟩, A80, H⟩ := H
      replace H : ((spec_l01Byte.f s0_0 t109 t110).bind fun bt111 => ((spec_l01Byte.f s0_0 bt111.2.1 bt111.2.2).bind fun bt114 => ((spec_l01Byte.f s0_0 bt114.2.1 bt114.2.2).bind fun bt117 => (if a1 = 0 then (none) else (some (Int.tmod (wrap64 ((wrap64 ((wrap64 ((wrap64 (t108 * 16777216)) + (wrap64 (bt111.1 * 65536)))) + (wrap64 (bt114.1 * 256)))) + bt117.1)) a1, bt117.2.1, bt117.2.2)))))) = some (r1, r2, r3) := H
      have A8 := Aside0.mk A80
      clear A80
      replace H := Option.bind_eq_some_iff.mp H
      obtain ⟨⟨t111, t112, t113⟩, A90, H⟩ := H
      replace H : ((spec_l01Byte.f s0_0 t112 t113).bind fun bt114 => ((spec_l01Byte.f s0_0 bt114.2.1 bt114.2.2).bind fun bt117 => (if a1 = 0 then (none) else (some (Int.tmod (wrap64 ((wrap64 ((wrap64 ((wrap64 (t108 * 16777216)) + (wrap64 (t111 * 65536)))) + (wrap64 (bt114.1 * 256)))) + bt117.1)) a1, bt117.2.1, bt117.2.2))))) = some (r1, r2, r3) := H
      have A9 := Aside0.mk A90
      clear A90
      replace H := Option.bind_eq_some_iff.mp H
      obtain ⟨⟨t114, t115, t116⟩, A100, H⟩ := H
      replace H : ((spec_l01Byte.f s0_0 t115 t116).bind fun bt117 => (if a1 = 0 then (none) else (some (Int.tmod (wrap64 ((wrap64 ((wrap64 ((wrap64 (t108 * 16777216)) + (wrap64 (t111 * 65536)))) + (wrap64 (t114 * 256)))) + bt117.1)) a1, bt117.2.1, bt117.2.2)))) = some (r1, r2, r3) := H
      have A10 := Aside0.mk A100
      clear A100
      replace H := Option.bind_eq_some_iff.mp H
      obtain ⟨⟨t117, t118, t119⟩, A110, H⟩ := H
      replace H : (if a1 = 0 then (none) else (some (Int.tmod (wrap64 ((wrap64 ((wrap64 ((wrap64 (t108 * 16777216)) + (wrap64 (t111 * 65536)))) + (wrap64 (t114 * 256)))) + t117)) a1, t118, t119))) = some (r1, r2, r3) := H
      have A11 := Aside0.mk A110
      clear A110
      by_cases c12 : a1 = 0
      · rw [if_pos c12] at H
        exact absurd H (by simp)
      · rw [if_neg c12] at H
        have c12b0 : (a1 == 0) = false := beq_eq_false_iff_ne.mpr c12
        have c12b1 : (a1 != 0) = true := bne_iff_ne.mpr c12
        simp only [Option.some.injEq, Prod.mk.injEq] at H
        obtain ⟨rfl, rfl, rfl⟩ := H
        go_enter Try.func18, Try.ntmps18
        go_wp2_with (first | ((with_reducible refine gate_callee (f := 14) rfl ?_); refine goesL_ (some 18) rfl rfl Try.func14 (by kernel_rfl) rfl #[.pointer (some ⟨g, 0, none⟩)] rfl (by (try simp only [List.map_toArray, List.map_cons, List.map_nil]); first | done | rfl | (simp only [List.length_drop, List.length_take]; rfl)) ?_; (with_reducible refine (spec_l01Byte.calls g s0_0 s0_1 s0_2 t108 t109 t110 w0 _ ?side1 ?side2 A8.out).mono ?_); (case side1 => repeat (first | (with_reducible first | exact HI0.out | apply IsS52.alloc | apply IsS52.drewN | apply IsS52.drew | apply IsS52.set_1 | apply IsS52.set_2) | exact HI0.out)); (case side2 => repeat (first | (with_reducible first | exact HB.out | apply below_alloc | apply pw_below_drewN | apply below_drew1 | refine below_set ?_ (IsS52.ge HI0.out)) | exact HB.out)); rintro e w13 ⟨rfl, hi, hb, hk⟩; refine ⟨_, rfl, ?_⟩; have n0_ := Aside0.mk (KeepBut.trans (by repeat (first | (with_reducible first | exact HK.out | apply KeepBut.set_ | apply keep_drewN | apply keep_drew | apply keep_alloc) | exact HK.out)) hk (.inl rfl)); have n1_ := Aside0.mk (hb); have n2_ := Aside0.mk (hi); clear HK; clear HB; clear HI0; have HK := n0_; have HB := n1_; have HI0 := n2_; clear n0_ n1_ n2_; (try clear hb); (try clear hb2); (try clear hk); (try clear hi)) | ((with_reducible refine gate_callee (f := 14) rfl ?_); refine goesL_ (some 20) rfl rfl Try.func14 (by kernel_rfl) rfl #[.pointer (some ⟨g, 0, none⟩)] rfl (by (try simp only [List.map_toArray, List.map_cons, List.map_nil]); first | done | rfl | (simp only [List.length_drop, List.length_take]; rfl)) ?_; (with_reducible refine (spec_l01Byte.calls g s0_0 t109 t110 t111 t112 t113 w0 _ ?side1 ?side2 A9.out).mono ?_); (case side1 => repeat (first | (with_reducible first | exact HI0.out | apply IsS52.alloc | apply IsS52.drewN | apply IsS52.drew | apply IsS52.set_1 | apply IsS52.set_2) | exact HI0.out)); (case side2 => repeat (first | (with_reducible first | exact HB.out | apply below_alloc | apply pw_below_drewN | apply below_drew1 | refine below_set ?_ (IsS52.ge HI0.out)) | exact HB.out)); rintro e w14 ⟨rfl, hi, hb, hk⟩; refine ⟨_, rfl, ?_⟩; have n0_ := Aside0.mk (KeepBut.trans (by repeat (first | (with_reducible first | exact HK.out | apply KeepBut.set_ | apply keep_drewN | apply keep_drew | apply keep_alloc) | exact HK.out)) hk (.inl rfl)); have n1_ := Aside0.mk (hb); have n2_ := Aside0.mk (hi); clear HK; clear HB; clear HI0; have HK := n0_; have HB := n1_; have HI0 := n2_; clear n0_ n1_ n2_; (try clear hb); (try clear hb2); (try clear hk); (try clear hi)) | ((with_reducible refine gate_callee (f := 14) rfl ?_); refine goesL_ (some 22) rfl rfl Try.func14 (by kernel_rfl) rfl #[.pointer (some ⟨g, 0, none⟩)] rfl (by (try simp only [List.map_toArray, List.map_cons, List.map_nil]); first | done | rfl | (simp only [List.length_drop, List.length_take]; rfl)) ?_; (with_reducible refine (spec_l01Byte.calls g s0_0 t112 t113 t114 t115 t116 w0 _ ?side1 ?side2 A10.out).mono ?_); (case side1 => repeat (first | (with_reducible first | exact HI0.out | apply IsS52.alloc | apply IsS52.drewN | apply IsS52.drew | apply IsS52.set_1 | apply IsS52.set_2) | exact HI0.out)); (case side2 => repeat (first | (with_reducible first | exact HB.out | apply below_alloc | apply pw_below_drewN | apply below_drew1 | refine below_set ?_ (IsS52.ge HI0.out)) | exact HB.out)); rintro e w15 ⟨rfl, hi, hb, hk⟩; refine ⟨_, rfl, ?_⟩; have n0_ := Aside0.mk (KeepBut.trans (by repeat (first | (with_reducible first | exact HK.out | apply KeepBut.set_ | apply keep_drewN | apply keep_drew | apply keep_alloc) | exact HK.out)) hk (.inl rfl)); have n1_ := Aside0.mk (hb); have n2_ := Aside0.mk (hi); clear HK; clear HB; clear HI0; have HK := n0_; have HB := n1_; have HI0 := n2_; clear n0_ n1_ n2_; (try clear hb); (try clear hb2); (try clear hk); (try clear hi)) | ((with_reducible refine gate_callee (f := 14) rfl ?_); refine goesL_ (some 24) rfl rfl Try.func14 (by kernel_rfl) rfl #[.pointer (some ⟨g, 0, none⟩)] rfl (by (try simp only [List.map_toArray, List.map_cons, List.map_nil]); first | done | rfl | (simp only [List.length_drop, List.length_take]; rfl)) ?_; (with_reducible refine (spec_l01Byte.calls g s0_0 t115 t116 t117 t118 t119 w0 _ ?side1 ?side2 A11.out).mono ?_); (case side1 => repeat (first | (with_reducible first | exact HI0.out | apply IsS52.alloc | apply IsS52.drewN | apply IsS52.drew | apply IsS52.set_1 | apply IsS52.set_2) | exact HI0.out)); (case side2 => repeat (first | (with_reducible first | exact HB.out | apply below_alloc | apply pw_below_drewN | apply below_drew1 | refine below_set ?_ (IsS52.ge HI0.out)) | exact HB.out)); rintro e w16 ⟨rfl, hi, hb, hk⟩; refine ⟨_, rfl, ?_⟩; have n0_ := Aside0.mk (KeepBut.trans (by repeat (first | (with_reducible first | exact HK.out | apply KeepBut.set_ | apply keep_drewN | apply keep_drew | apply keep_alloc) | exact HK.out)) hk (.inl rfl)); have n1_ := Aside0.mk (hb); have n2_ := Aside0.mk (hi); clear HK; clear HB; clear HI0; have HK := n0_; have HB := n1_; have HI0 := n2_; clear n0_ n1_ n2_; (try clear hb); (try clear hb2); (try clear hk); (try clear hi)))
        go_ret
        exact ⟨by first | rfl | (simp [errW_none, errW_some] <;> rfl) | (simp [*, errW_none, errW_some] <;> rfl), by repeat (first | (with_reducible first | exact HI0.out | apply IsS52.alloc | apply IsS52.drewN | apply IsS52.drew | apply IsS52.set_1 | apply IsS52.set_2) | exact HI0.out), by repeat (first | (with_reducible first | exact HB.out | apply below_alloc | apply pw_below_drewN | apply below_drew1 | refine below_set ?_ (IsS52.ge HI0.out)) | exact HB.out), by repeat (first | (with_reducible first | exact HK.out | apply KeepBut.set_ | apply keep_drewN | apply keep_drew | apply keep_alloc) | exact HK.out)⟩
end Go.Proofs.Ytnmfhgllafdkhaa.F
end
section
/- Laid by a program of this claim's own. What the Go function does, as a Lean function, and the proof that the Go code does just that; Lean checks it. -/
namespace Go.Proofs.Ytnmfhgllafdkhaa.F
open Go.RowKit Go.Proofs.YtnmfhgllafdkhaaW.PrintWords Go.Proofs.YtnmfhgllafdkhaaW.PrintLast Go.Proofs.YtnmfhgllafdkhaaW.PrintMore
attribute [local go_sem] max2_int min2_int max_two min_two max_three min_three max_four min_four   -- for this text's walks alone
set_option linter.unusedVariables false
set_option linter.unusedSimpArgs false
/-! ### spec_l02Shuffle: function 15 -/
def spec_l02Shuffle.l0 : Nat → Int → List Int → Int → List Int → Int → Int → Option (List Int × Int × Int)
  | 0, _, _, _, _, _, _ => none
  | k + 1, x1, x5, x6, x1000, x1001, x1002 => if x6 < x1 then ((spec_l01Below.f x1000 x1001 x1002 (wrap64 (x6 + 1))).bind fun bt123 => (if x5.length < 17592186044416 then ((some (x5 ++ [x6] : List Int)).bind fun y126 => (if 0 ≤ bt123.1 then (if bt123.1 < (y126.length : Int) then (if 0 ≤ x6 then (if x6 < (y126.length : Int) then (spec_l02Shuffle.l0 k x1 ((y126.set (x6 : Int).toNat (rd y126 bt123.1)).set (bt123.1 : Int).toNat x6) (wrap64 (x6 + 1)) x1000 bt123.2.1 bt123.2.2) else (none)) else (none)) else (none)) else (none))) else (none))) else (some (x5, x1001, x1002))
def spec_l02Shuffle.f (k : Nat) (s0_0 : List Int) (s0_1 : Int) (s0_2 : Int) (a1 : Int) : Option (List Int × Int × Int) := spec_l02Shuffle.l0 k a1 (([] : List Int)) 0 s0_0 s0_1 s0_2
theorem spec_l02Shuffle.mono_l : ∀ k, (∀ y0 y1 y2 y3 y4 y5, LeO (spec_l02Shuffle.l0 k y0 y1 y2 y3 y4 y5) (spec_l02Shuffle.l0 (k + 1) y0 y1 y2 y3 y4 y5))
  | 0 => fun _ _ _ _ _ _ r h => by simp [spec_l02Shuffle.l0] at h
  | k + 1 => by
    have ih0 := spec_l02Shuffle.mono_l k
    · intro y0 y1 y2 y3 y4 y5
      unfold spec_l02Shuffle.l0
      repeat' first
      | (with_reducible exact ih0 _ _ _ _ _ _)
      | (with_reducible exact LeO.refl _)
      | (with_reducible exact LeO.none _)
      | (with_reducible refine LeO.ite ?_ ?_)
      | (with_reducible refine LeO.bind ?_ (fun _ => ?_))
      | exact ih0 _ _ _ _ _ _
      | exact LeO.none _
      | refine LeO.ite ?_ ?_
      | refine LeO.bind ?_ (fun _ => ?_)
theorem spec_l02Shuffle.mono : ∀ a0 a1 a2 a3 k, LeO (spec_l02Shuffle.f k a0 a1 a2 a3) (spec_l02Shuffle.f (k + 1) a0 a1 a2 a3) := by
  intro a0 a1 a2 a3 k
  have ih0 := spec_l02Shuffle.mono_l k
  unfold spec_l02Shuffle.f
  repeat' first
      | (with_reducible exact ih0 _ _ _ _ _ _)
      | (with_reducible exact LeO.refl _)
      | (with_reducible exact LeO.none _)
      | (with_reducible refine LeO.ite ?_ ?_)
      | (with_reducible refine LeO.bind ?_ (fun _ => ?_))
      | exact ih0 _ _ _ _ _ _
      | exact LeO.none _
      | refine LeO.ite ?_ ?_
      | refine LeO.bind ?_ (fun _ => ?_)
set_option maxHeartbeats 8000000 in
set_option maxRecDepth 100000 in
theorem spec_l02Shuffle.calls (k : Nat) (g : Nat) (s0_0 : List Int) (s0_1 : Int) (s0_2 : Int) (a1 : Int) (r1 : List Int) (r2 : Int) (r3 : Int) (w0 w : World) (hI : IsS52 w0 w g s0_0 s0_1 s0_2) (hB : Below w0.heap.size w0 w) (h : spec_l02Shuffle.f k s0_0 s0_1 s0_2 a1 = some (r1, r2, r3)) :
    Calls Try.prog 15 #[.pointer (some ⟨g, 0, none⟩), .int .i64 a1] w fun e w' => ∃ v0_ : Value, e = .returned (v0_) ∧ Kd.R (Kd.int .i64) 3 w' w.heap.size (fun _ => True) v0_ r1 ∧ IsS52 w0 w' g s0_0 r2 r3 ∧ Below w0.heap.size w0 w' ∧ KeepBut w w' g none := by
  have HI0 := Aside0.mk hI
  have HK := Aside0.mk (KeepBut.refl w g none)
  have HL := Aside0.mk hB.size
  clear hI
  have HW0 := Aside0.mk hB.size
  have HB := Aside0.mk hB
  clear hB
  have H : (spec_l02Shuffle.l0 k a1 (([] : List Int)) 0 s0_0 s0_1 s0_2) = some (r1, r2, r3) := h
  clear h
  obtain ⟨y120, hy120⟩ : ∃ y_ : List Int, y_ = (([] : List Int)) := ⟨_, rfl⟩
  replace H : (spec_l02Shuffle.l0 k a1 y120 0 s0_0 s0_1 s0_2) = some (r1, r2, r3) := by first | (rw [hy120]; with_reducible exact H) | (have H2_ := (Option.bind_some _ _).symm.trans H; rw [hy120]; with_reducible exact H2_) | (have H2_ := (Option.bind_some _ _).symm.trans H; with_reducible exact H2_) | with_reducible exact H | (rw [hy120]; exact H) | exact H
  have Ny120 := Aside0.mk hy120
  clear hy120
  have H' := Aside0.mk H
  clear H
  go_enter Try.func15, Try.ntmps15
  go_wp2_with (first | ((with_reducible refine gate_dst (N := 8) rfl ?_); refine Kd.R_lit (Kd.int .i64) _ 3 ?hg (N := 8) ?hd (xs := ([] : List Int)) (inner := []) (ok := fun _ => True) (okp := fun _ => True) ?hr ?hp (fun _ hk => hk) trivial (Below.refl _ _) (Nat.le_refl _) (by simp) ?_; (case hd => rfl); (case hg => rfl); (case hr => first | (go_simp; done) | (go_simp; rfl)); (case hp => exact (Reps.none _ _)); intro v121 w3 ho4 hb hg_ hnew_; clear hg_ hnew_; (first | rw [← Ny120.out] at ho4 | (simp only [Int.reduceToNat] at ho4; rw [← Ny120.out] at ho4)); have n0_ := Aside0.mk (Kd.R_lower ho4 (keep_size (w := w) (g := g) (row := none) (by repeat (first | (with_reducible first | exact HK.out | apply KeepBut.set_ | apply keep_drewN | apply keep_drew | apply keep_alloc) | exact HK.out)))); have n1_ := Aside0.mk (IsS52.below (by repeat (first | (with_reducible first | exact HI0.out | apply IsS52.alloc | apply IsS52.drewN | apply IsS52.drew | apply IsS52.set_1 | apply IsS52.set_2) | exact HI0.out)) hb); have n2_ := Aside0.mk (KeepBut.trans (by repeat (first | (with_reducible first | exact HK.out | apply KeepBut.set_ | apply keep_drewN | apply keep_drew | apply keep_alloc) | exact HK.out)) (KeepBut.of_below hb g none) (.inl rfl)); have n3_ := Aside0.mk (below_step (by repeat (first | (with_reducible first | exact HB.out | apply below_alloc | apply pw_below_drewN | apply below_drew1 | refine below_set ?_ (IsS52.ge HI0.out)) | exact HB.out)) hb); clear HI0; clear HK; clear HB; have HO122 := n0_; have HI0 := n1_; have HK := n2_; have HB := n3_; clear n0_ n1_ n2_ n3_; clear hb ho4))
  go_loopg [5, 6] k (fun kq v5 v6 w' => ∃ (x5_1 : List Int) (x6_1 : Int) (x1001_1 : Int) (x1002_1 : Int), v6 = .int .i64 x6_1 ∧ Aside0 (spec_l02Shuffle.l0 kq a1 x5_1 x6_1 s0_0 x1001_1 x1002_1 = some (r1, r2, r3)) ∧ Aside0 (kq ≤ k) ∧ Aside0 (Kd.R (Kd.int .i64) 3 w' w.heap.size (fun _ => True) v5 x5_1) ∧ Aside0 (IsS52 w0 w' g s0_0 x1001_1 x1002_1) ∧ Aside0 (KeepBut w w' g none) ∧ Aside0 (Below w0.heap.size w0 w'))
  case atStart => exact ⟨(y120), (0), (s0_1), (s0_2), (by first | rfl | (simp; done) | (simp [*]; done)), H', ⟨Nat.le_refl _⟩, ⟨by (with_reducible repeat (first | apply Kd.R_alloc | apply Kd.R_drewN | apply Kd.R_drew)); exact HO122.out⟩, ⟨by repeat (first | (with_reducible first | exact HI0.out | apply IsS52.alloc | apply IsS52.drewN | apply IsS52.drew | apply IsS52.set_1 | apply IsS52.set_2) | exact HI0.out)⟩, ⟨by repeat (first | (with_reducible first | exact HK.out | apply KeepBut.set_ | apply keep_drewN | apply keep_drew | apply keep_alloc) | exact HK.out)⟩, ⟨by repeat (first | (with_reducible first | exact HB.out | apply below_alloc | apply pw_below_drewN | apply below_drew1 | refine below_set ?_ (IsS52.ge HI0.out)) | exact HB.out)⟩⟩
  case round =>
    clear H'
    try clear c1
    try clear p2
    obtain ⟨x5_1, x6_1, x1001_1, x1002_1, rfl, HA, HK1, HO_5, HI0, HK, HB⟩ := hrel
    cases gk with
    | zero => exact absurd HA.out (by simp [spec_l02Shuffle.l0])
    | succ k1 =>
      have H := HA.out
      clear HA
      simp only [spec_l02Shuffle.l0] at H
      by_cases c5 : x6_1 < a1
      · rw [if_pos c5] at H
        have c5b0 : decide (x6_1 < a1) = true := decide_eq_true c5
        clear c5
        replace H := Option.bind_eq_some_iff.mp H
        obtain ⟨⟨t123, t124, t125⟩, A60, H⟩ := H
        replace H : (if x5_1.length < 17592186044416 then ((some (x5_1 ++ [x6_1] : List Int)).bind fun y126 => (if 0 ≤ t123 then (if t123 < (y126.length : Int) then (if 0 ≤ x6_1 then (if x6_1 < (y126.length : Int) then (spec_l02Shuffle.l0 k1 a1 ((y126.set (x6_1 : Int).toNat (rd y126 t123)).set (t123 : Int).toNat x6_1) (wrap64 (x6_1 + 1)) s0_0 t124 t125) else (none)) else (none)) else (none)) else (none))) else (none)) = some (r1, r2, r3) := H
        have A6 := Aside0.mk A60
        clear A60
        by_cases c7 : x5_1.length < 17592186044416
        · rw [if_pos c7] at H
          have LMc7 := Aside0.mk c7
          clear c7
          obtain ⟨y126, hy126⟩ : ∃ y_ : List Int, y_ = (x5_1 ++ [x6_1]) := ⟨_, rfl⟩
          replace H : (if 0 ≤ t123 then (if t123 < (y126.length : Int) then (if 0 ≤ x6_1 then (if x6_1 < (y126.length : Int) then (spec_l02Shuffle.l0 k1 a1 ((y126.set (x6_1 : Int).toNat (rd y126 t123)).set (t123 : Int).toNat x6_1) (wrap64 (x6_1 + 1)) s0_0 t124 t125) else (none)) else (none)) else (none)) else (none)) = some (r1, r2, r3) := by first | (rw [hy126]; with_reducible exact H) | (have H2_ := (Option.bind_some _ _).symm.trans H; rw [hy126]; with_reducible exact H2_) | (have H2_ := (Option.bind_some _ _).symm.trans H; with_reducible exact H2_) | with_reducible exact H | (rw [hy126]; exact H) | exact H
          have Ny126 := Aside0.mk hy126
          clear hy126
          by_cases c8 : 0 ≤ t123
          · rw [if_pos c8] at H
            have c8b0 : decide (0 ≤ t123) = true := decide_eq_true c8
            clear c8
            by_cases c9 : t123 < (y126.length : Int)
            · rw [if_pos c9] at H
              have c9b0 : decide (t123 < (y126.length : Int)) = true := decide_eq_true c9
              clear c9
              by_cases c10 : 0 ≤ x6_1
              · rw [if_pos c10] at H
                have c10b0 : decide (0 ≤ x6_1) = true := decide_eq_true c10
                clear c10
                by_cases c11 : x6_1 < (y126.length : Int)
                · rw [if_pos c11] at H
                  have c11b0 : decide (x6_1 < (y126.length : Int)) = true := decide_eq_true c11
                  clear c11
                  obtain ⟨y130, hy130⟩ : ∃ y_ : List Int, y_ = (y126.set (x6_1 : Int).toNat (rd y126 t123)) := ⟨_, rfl⟩
                  replace H : (spec_l02Shuffle.l0 k1 a1 (y130.set (t123 : Int).toNat x6_1) (wrap64 (x6_1 + 1)) s0_0 t124 t125) = some (r1, r2, r3) := by first | (rw [hy130]; with_reducible exact H) | (have H2_ := (Option.bind_some _ _).symm.trans H; rw [hy130]; with_reducible exact H2_) | (have H2_ := (Option.bind_some _ _).symm.trans H; with_reducible exact H2_) | with_reducible exact H | (rw [hy130]; exact H) | exact H
                  have Ny130 := Aside0.mk hy130
                  clear hy130
                  obtain ⟨y131, hy131⟩ : ∃ y_ : List Int, y_ = (y130.set (t123 : Int).toNat x6_1) := ⟨_, rfl⟩
                  replace H : (spec_l02Shuffle.l0 k1 a1 y131 (wrap64 (x6_1 + 1)) s0_0 t124 t125) = some (r1, r2, r3) := by first | (rw [hy131]; with_reducible exact H) | (have H2_ := (Option.bind_some _ _).symm.trans H; rw [hy131]; with_reducible exact H2_) | (have H2_ := (Option.bind_some _ _).symm.trans H; with_reducible exact H2_) | with_reducible exact H | (rw [hy131]; exact H) | exact H
                  have Ny131 := Aside0.mk hy131
                  clear hy131
                  have H' := Aside0.mk H
                  clear H
                  go_wp2_with (first | ((with_reducible refine gate_callee (f := 18) rfl ?_); refine goesL_ (some 17) rfl rfl Try.func18 (by kernel_rfl) rfl #[.pointer (some ⟨g, 0, none⟩), .int .i64 (wrap64 (x6_1 + 1))] rfl (by (try simp only [List.map_toArray, List.map_cons, List.map_nil]); first | done | rfl | (simp only [List.length_drop, List.length_take]; rfl)) ?_; (with_reducible refine (spec_l01Below.calls g s0_0 x1001_1 x1002_1 (wrap64 (x6_1 + 1)) t123 t124 t125 w0 _ ?side1 ?side2 A6.out).mono ?_); (case side1 => repeat (first | (with_reducible first | exact HI0.out | apply IsS52.alloc | apply IsS52.drewN | apply IsS52.drew | apply IsS52.set_1 | apply IsS52.set_2) | exact HI0.out)); (case side2 => repeat (first | (with_reducible first | exact HB.out | apply below_alloc | apply pw_below_drewN | apply below_drew1 | refine below_set ?_ (IsS52.ge HI0.out)) | exact HB.out)); rintro e w14 ⟨rfl, hi, hb, hk⟩; refine ⟨_, rfl, ?_⟩; have n0_ := Aside0.mk (Kd.R_mono (Kd.R_keep (IsS52.apart (show IsS52 w0 _ g s0_0 x1001_1 x1002_1 from by repeat (first | (with_reducible first | exact HI0.out | apply IsS52.alloc | apply IsS52.drewN | apply IsS52.drew | apply IsS52.set_1 | apply IsS52.set_2) | exact HI0.out)) (by (with_reducible repeat (first | apply Kd.R_alloc | apply Kd.R_drewN | apply Kd.R_drew)); exact HO_5.out) (by decide)) hk (fun _ h => h.2)) (fun _ h => h.1)); have n1_ := Aside0.mk (KeepBut.trans (by repeat (first | (with_reducible first | exact HK.out | apply KeepBut.set_ | apply keep_drewN | apply keep_drew | apply keep_alloc) | exact HK.out)) hk (.inl rfl)); have n2_ := Aside0.mk (hb); have n3_ := Aside0.mk (hi); clear HO_5; clear HK; clear HB; clear HI0; have HO_5 := n0_; have HK := n1_; have HB := n2_; have HI0 := n3_; clear n0_ n1_ n2_ n3_; (try clear hb); (try clear hb2); (try clear hk); (try clear hi)) | ((with_reducible refine gate_builtin (b := .append) (xs := #[.tmp 18, .tmp 20]) rfl ?_); at_builtin; refine Kd.R_append (Kd.int .i64) w.heap.size rfl (.tmp 18) (.tmp 20) 24 3 (.int .i64 0) 8 rfl Try.underlying24 info3 rfl (by decide) (by omega) u5 x5_1 x6_1 [.int .i64 x6_1] (fun _ => True) (fun _ => False) rfl rfl ?aP (fun _ hk => hk.elim) ?aF ?aO (Below.refl _ _) ?aS ?aL ?_; (case aP => exact rfl); (case aF => exact (fun _ _ => trivial)); (case aO => exact (by (with_reducible repeat (first | apply Kd.R_alloc | apply Kd.R_drewN | apply Kd.R_drew)); exact HO_5.out)); (case aS => exact (keep_size (w := w) (g := g) (row := none) (by repeat (first | (with_reducible first | exact HK.out | apply KeepBut.set_ | apply keep_drewN | apply keep_drew | apply keep_alloc) | exact HK.out)))); (case aL => have := LMc7.out; omega); intro v127 w15 ho hb hg hat; rw [← Ny126.out] at ho; have n0_ := Aside0.mk (IsS52.grown (by repeat (first | (with_reducible first | exact HI0.out | apply IsS52.alloc | apply IsS52.drewN | apply IsS52.drew | apply IsS52.set_1 | apply IsS52.set_2) | exact HI0.out)) hg (IsS52.own_ne HI0.out HO_5.out (by decide))); have n1_ := Aside0.mk (below_weaken (by repeat (first | (with_reducible first | exact HB.out | apply below_alloc | apply pw_below_drewN | apply below_drew1 | refine below_set ?_ (IsS52.ge HI0.out)) | exact HB.out)) HL.out hb); have n2_ := Aside0.mk (KeepBut.trans (by repeat (first | (with_reducible first | exact HK.out | apply KeepBut.set_ | apply keep_drewN | apply keep_drew | apply keep_alloc) | exact HK.out)) (KeepBut.of_grown hg g) (Kd.R_base2 HO_5.out)); have n3_ := Aside0.mk (ho); clear HI0; clear HB; clear HK; clear HO_5; have HI0 := n0_; have HB := n1_; have HK := n2_; have HO128 := n3_; clear n0_ n1_ n2_ n3_; clear ho hb hg hat; obtain ⟨Ao16, co16, eo16⟩ := Kd.R_slice HO128.out; subst eo16; have p129 : 0 ≤ (t123 : Int) := of_decide_eq_true (by first | (with_reducible assumption) | assumption); have q129 : t123 < (y126.length : Int) := of_decide_eq_true (by first | (with_reducible assumption) | assumption); obtain ⟨ad129, e129, hx129_0⟩ := Kd.at_int (Kd.R_reads' HO128.out).2.2 t123 p129 q129; cases e129; replace p129 := eq_true p129; replace q129 := eq_true q129; have p12 : 0 ≤ (x6_1 : Int) := of_decide_eq_true (by first | (with_reducible assumption) | assumption); have q12 : (x6_1 : Int) < ((y126.length : Int) : Int) := of_decide_eq_true (by first | (with_reducible assumption) | assumption); obtain ⟨go12, co12, eo12, gb12, gl12, cl12, HG12⟩ := Kd.R_form HO128.out (by omega); (first | cases eo12 | (injection eo12 with ea_ en_ ec_; (first | subst ea_ | (injection ea_ with ea_; subst ea_)); subst ec_; clear en_)); have GB12 := Aside0.mk gb12; have GG12 := Aside0.mk HG12; clear gb12 gl12 HG12; (first | simp only [add_plain] at hx129_0 | skip); obtain ⟨hx12_0, hf12_0⟩ := Kd.R_celln 0 HO128.out (x6_1 : Int) p12 q12; replace p12 := eq_true p12; replace q12 := eq_true q12; obtain ⟨hy17_, hz17_⟩ := Kd.R_celln 0 HO128.out (x6_1 : Int) (of_decide_eq_true (by first | (with_reducible assumption) | assumption)) (of_decide_eq_true (by first | (with_reducible assumption) | assumption)); have HP17 := Kd.R_putg HO128.out (x6_1 : Int) (rd y126 t123)) | ((with_reducible refine gate_store (t := 3) (p := 28) rfl ?_); refine store_event (t := 3) (p := 28) (v := ?vo_w18) (w1 := (w15.setCell ⟨go12, (x6_1 : Int).toNat, none⟩ (.int .i64 (rd y126 t123)))) ?hg ?ho ?hn ?hr ?_; (case ho => rfl); (case hg => rfl); (case hn => rfl); (case hr => first | (go_simp; done) | (go_simp; rfl)); intro w18 hw; have hg : w15.grownBy w18 (some go12) := (by rw [hw]; exact HP17.2); have hp_ : Kd.R (Kd.int .i64) 3 w18 w.heap.size (fun _ => True) (.slice (some ⟨go12, 0, none⟩) y126.length co16) y130 := (by rw [hw, Ny130.out]; exact HP17.1); clear HP17; have n0_ := Aside0.mk (IsS52.grown (by repeat (first | (with_reducible first | exact HI0.out | apply IsS52.alloc | apply IsS52.drewN | apply IsS52.drew | apply IsS52.set_1 | apply IsS52.set_2) | exact HI0.out)) hg (IsS52.own_ne HI0.out HO128.out (by decide))); have n1_ := Aside0.mk (hp_); have n2_ := Aside0.mk ((by rw [hw]; exact below_set (HB.out) (Nat.le_trans HL.out GB12.out) : Below w0.heap.size w0 w18)); have n3_ := Aside0.mk (KeepBut.trans (by repeat (first | (with_reducible first | exact HK.out | apply KeepBut.set_ | apply keep_drewN | apply keep_drew | apply keep_alloc) | exact HK.out)) (KeepBut.of_grown hg g) (Kd.R_base2 HO128.out)); clear HI0; clear HO128; clear HB; clear HK; have HI0 := n0_; have HO128 := n1_; have HB := n2_; have HK := n3_; clear n0_ n1_ n2_ n3_; clear hg hw hp_; have p13 : 0 ≤ (t123 : Int) := of_decide_eq_true (by first | (with_reducible assumption) | assumption); have q13 : (t123 : Int) < ((y126.length : Int) : Int) := of_decide_eq_true (by first | (with_reducible assumption) | assumption); obtain ⟨hx13_0, hf13_0⟩ := Kd.R_celln 0 HO128.out (t123 : Int) p13 q13; replace p13 := eq_true p13; replace q13 := eq_true q13; obtain ⟨hy19_, hz19_⟩ := Kd.R_celln 0 HO128.out (t123 : Int) (of_decide_eq_true (by first | (with_reducible assumption) | assumption)) (of_decide_eq_true (by first | (with_reducible assumption) | assumption)); have HP19 := Kd.R_putg HO128.out (t123 : Int) x6_1) | ((with_reducible refine gate_store (t := 3) (p := 32) rfl ?_); refine store_event (t := 3) (p := 32) (v := ?vo_w20) (w1 := (w18.setCell ⟨go12, (t123 : Int).toNat, none⟩ (.int .i64 x6_1))) ?hg ?ho ?hn ?hr ?_; (case ho => rfl); (case hg => rfl); (case hn => rfl); (case hr => first | (go_simp; done) | (go_simp; rfl)); intro w20 hw; have hg : w18.grownBy w20 (some go12) := (by rw [hw]; exact HP19.2); have hp_ : Kd.R (Kd.int .i64) 3 w20 w.heap.size (fun _ => True) (.slice (some ⟨go12, 0, none⟩) y126.length co16) y131 := (by rw [hw, Ny131.out]; exact HP19.1); clear HP19; have n0_ := Aside0.mk (IsS52.grown (by repeat (first | (with_reducible first | exact HI0.out | apply IsS52.alloc | apply IsS52.drewN | apply IsS52.drew | apply IsS52.set_1 | apply IsS52.set_2) | exact HI0.out)) hg (IsS52.own_ne HI0.out HO128.out (by decide))); have n1_ := Aside0.mk (hp_); have n2_ := Aside0.mk ((by rw [hw]; exact below_set (HB.out) (Nat.le_trans HL.out GB12.out) : Below w0.heap.size w0 w20)); have n3_ := Aside0.mk (KeepBut.trans (by repeat (first | (with_reducible first | exact HK.out | apply KeepBut.set_ | apply keep_drewN | apply keep_drew | apply keep_alloc) | exact HK.out)) (KeepBut.of_grown hg g) (Kd.R_base2 HO128.out)); clear HI0; clear HO128; clear HB; clear HK; have HI0 := n0_; have HO128 := n1_; have HB := n2_; have HK := n3_; clear n0_ n1_ n2_ n3_; clear hg hw hp_))
                  go_roundg k1
                  case measure => have := HK1.out; omega
                  case rel => exact ⟨(y131), (wrap64 (x6_1 + 1)), (t124), (t125), (by first | rfl | (simp; done) | (simp [*]; done)), H', ⟨by have := HK1.out; omega⟩, ⟨by (with_reducible repeat (first | apply Kd.R_alloc | apply Kd.R_drewN | apply Kd.R_drew)); exact HO128.out⟩, ⟨by repeat (first | (with_reducible first | exact HI0.out | apply IsS52.alloc | apply IsS52.drewN | apply IsS52.drew | apply IsS52.set_1 | apply IsS52.set_2) | exact HI0.out)⟩, ⟨by repeat (first | (with_reducible first | exact HK.out | apply KeepBut.set_ | apply keep_drewN | apply keep_drew | apply keep_alloc) | exact HK.out)⟩, ⟨by repeat (first | (with_reducible first | exact HB.out | apply below_alloc | apply pw_below_drewN | apply below_drew1 | refine below_set ?_ (IsS52.ge HI0.out)) | exact HB.out)⟩⟩
                · rw [if_neg c11] at H
                  exact absurd H (by simp)
              · rw [if_neg c10] at H
                exact absurd H (by simp)
            · rw [if_neg c9] at H
              exact absurd H (by simp)
          · rw [if_neg c8] at H
            exact absurd H (by simp)
        · rw [if_neg c7] at H
          exact absurd H (by simp)
      · rw [if_neg c5] at H
        have c5b0 : decide (x6_1 < a1) = false := decide_eq_false c5
        clear c5
        simp only [Option.some.injEq, Prod.mk.injEq] at H
        obtain ⟨rfl, rfl, rfl⟩ := H
        go_wp2
        go_ret
        exact ⟨_, by first | rfl | (simp [errW_none, errW_some] <;> rfl) | (simp [*, errW_none, errW_some] <;> rfl), by (with_reducible repeat (first | apply Kd.R_alloc | apply Kd.R_drewN | apply Kd.R_drew)); exact HO_5.out, by repeat (first | (with_reducible first | exact HI0.out | apply IsS52.alloc | apply IsS52.drewN | apply IsS52.drew | apply IsS52.set_1 | apply IsS52.set_2) | exact HI0.out), by repeat (first | (with_reducible first | exact HB.out | apply below_alloc | apply pw_below_drewN | apply below_drew1 | refine below_set ?_ (IsS52.ge HI0.out)) | exact HB.out), by repeat (first | (with_reducible first | exact HK.out | apply KeepBut.set_ | apply keep_drewN | apply keep_drew | apply keep_alloc) | exact HK.out)⟩
end Go.Proofs.Ytnmfhgllafdkhaa.F
end
section
/- Laid by a program of this claim's own. What the Go function does, as a Lean function, and the proof that the Go code does just that; Lean checks it. -/
namespace Go.Proofs.Ytnmfhgllafdkhaa.F
open Go.RowKit Go.Proofs.YtnmfhgllafdkhaaW.PrintWords Go.Proofs.YtnmfhgllafdkhaaW.PrintLast Go.Proofs.YtnmfhgllafdkhaaW.PrintMore
attribute [local go_sem] max2_int min2_int max_two min_two max_three min_three max_four min_four   -- for this text's walks alone
set_option linter.unusedVariables false
set_option linter.unusedSimpArgs false
/-! ### spec_MakePerm: function 5 -/
def spec_MakePerm.f (k : Nat) (l0 : List Int) (a1 a2 : Int) : Option (List Int) := (spec_l23New.f k l0 a1).bind fun s => (spec_l02Shuffle.f k s.1 s.2.1 s.2.2 (mx 1 (mn a2 12))).bind fun b => some b.1
theorem spec_MakePerm.mono : ∀ a0 a1 a2 k, LeO (spec_MakePerm.f k a0 a1 a2) (spec_MakePerm.f (k + 1) a0 a1 a2) := by
  intro a0 a1 a2 k
  unfold spec_MakePerm.f
  exact LeO.bind (spec_l23New.mono _ _ _) (fun _ => LeO.bind (spec_l02Shuffle.mono _ _ _ _ _) (fun _ => LeO.refl _))
theorem spec_MakePerm.args (p : Value) {x y : Int} (h : x = y) : (#[p, .int .i64 x] : Array Value) = #[p, .int .i64 y] := by rw [h]
set_option maxHeartbeats 8000000 in
set_option maxRecDepth 100000 in
theorem spec_MakePerm.calls (k : Nat) (A0 : Option Addr) (c0 : Nat) (l0 : List Int) (a1 a2 : Int) (r : List Int) (w : World) (hr0 : Kd.C (Kd.int .u8) w A0 l0.length l0) (hc0 : l0.length ≤ c0) (h : spec_MakePerm.f k l0 a1 a2 = some r) :
    Calls Try.prog 5 #[.slice A0 l0.length c0, .int .i64 a1, .int .i64 a2] w fun e w' => ∃ v0_ : Value, e = .returned (v0_) ∧ Kd.R (Kd.int .i64) 3 w' w.heap.size (fun _ => True) v0_ r ∧ Below w.heap.size w w' := by
  have HR0 := Aside0.mk hr0
  have HC0 := Aside0.mk hc0
  obtain ⟨⟨t1, t2, t3⟩, h1, h⟩ := Option.bind_eq_some_iff.mp h
  obtain ⟨⟨b1, b2, b3⟩, h2, h⟩ := Option.bind_eq_some_iff.mp h
  obtain rfl := Option.some.inj h
  have A1 := Aside0.mk h1
  have A2 := Aside0.mk h2
  clear hr0 hc0 h1 h2 h
  go_enter Try.func5, Try.ntmps5
  go_wp2_with (go_at_call 13; (with_reducible refine (spec_l23New.calls k A0 c0 l0 a1 t1 t2 t3 _ HR0.out HC0.out A1.out).mono ?_); rintro e w7 ⟨g, rfl, hi, hb⟩; have HI := Aside0.mk hi; have HB := Aside0.mk hb; clear hi hb)
  all_goals
    go_wp2_with (go_at_call 15; refine calls_of_args (args' := #[.pointer (some ⟨g, 0, none⟩), .int .i64 (mx 1 (mn a2 12))]) (spec_MakePerm.args _ (by unfold mx mn; repeat' split; all_goals omega)) ?_; (with_reducible refine (spec_l02Shuffle.calls k g t1 t2 t3 (mx 1 (mn a2 12)) b1 b2 b3 w _ HI.out HB.out A2.out).mono ?_); rintro e w8 ⟨v, rfl, ho, hi, hb, hk⟩; have HO := Aside0.mk (Kd.R_lower ho HB.out.size); clear HI HB; have HB := Aside0.mk hb; clear ho hi hb hk)
    go_ret
    exact ⟨_, rfl, HO.out, HB.out⟩
end Go.Proofs.Ytnmfhgllafdkhaa.F
end
section
/- Laid by a program of this claim's own. What the Go function does, as a Lean function, and the proof that the Go code does just that; Lean checks it. -/
namespace Go.Proofs.Ytnmfhgllafdkhaa.F
open Go.RowKit Go.Proofs.YtnmfhgllafdkhaaW.PrintWords Go.Proofs.YtnmfhgllafdkhaaW.PrintLast Go.Proofs.YtnmfhgllafdkhaaW.PrintMore
attribute [local go_sem] max2_int min2_int max_two min_two max_three min_three max_four min_four   -- for this text's walks alone
set_option linter.unusedVariables false
set_option linter.unusedSimpArgs false
/-! ### spec_l01In: function 30 -/
def spec_l01In.f (a0 : Int) (a1 : Int) (a2 : Int) : Option (Bool) := if a0 ≥ a1 then (some (decide (a0 ≤ a2))) else (some false)
set_option maxHeartbeats 8000000 in
set_option maxRecDepth 100000 in
theorem spec_l01In.calls (a0 : Int) (a1 : Int) (a2 : Int) (r : Bool) (w : World) (h : spec_l01In.f a0 a1 a2 = some r) :
    Calls Try.prog 30 #[.int .i64 a0, .int .i64 a1, .int .i64 a2] w fun e w' => e = .returned (.bool r) ∧ Drawn0 w w' := by
  have H : (if a0 ≥ a1 then (some (decide (a0 ≤ a2))) else (some false)) = some r := h
  clear h
  by_cases c4 : a0 ≥ a1
  · rw [if_pos c4] at H
    have c4b0 : decide (a1 ≤ a0) = true := decide_eq_true c4
    clear c4
    obtain rfl := Option.some.inj H
    go_enter Try.func30, Try.ntmps30
    go_wp2
    go_ret
    exact ⟨by first | rfl | (simp; done) | (simp [*]; done), by repeat (first | exact Drawn0.refl _ | apply Drawn0.step)⟩
  · rw [if_neg c4] at H
    have c4b0 : decide (a1 ≤ a0) = false := decide_eq_false c4
    clear c4
    obtain rfl := Option.some.inj H
    go_enter Try.func30, Try.ntmps30
    go_wp2
    go_ret
    exact ⟨by first | rfl | (simp; done) | (simp [*]; done), by repeat (first | exact Drawn0.refl _ | apply Drawn0.step)⟩
end Go.Proofs.Ytnmfhgllafdkhaa.F
end
section
/- Laid by a program of this claim's own. What the Go function does, as a Lean function, and the proof that the Go code does just that; Lean checks it. -/
namespace Go.Proofs.Ytnmfhgllafdkhaa.F
open Go.RowKit Go.Proofs.YtnmfhgllafdkhaaW.PrintWords Go.Proofs.YtnmfhgllafdkhaaW.PrintLast Go.Proofs.YtnmfhgllafdkhaaW.PrintMore
attribute [local go_sem] max2_int min2_int max_two min_two max_three min_three max_four min_four   -- for this text's walks alone
set_option linter.unusedVariables false
set_option linter.unusedSimpArgs false
/-! ### spec_GilbreathsOf: function 17 -/
def HdV (w : World) (base : Nat) : List Value → List (List Int) → Prop
  | [], [] => True
  | h :: hs, x :: xs => Kd.R (Kd.int .i64) 3 w base (fun _ => True) h x ∧ HdV w base hs xs
  | _, _ => False
/-- A row of numbers stays as it is while a row of headers is written. -/
theorem R_apart {w w' : World} {base : Nat} {ok : Nat → Prop} {v : Value} {xs : List Int} {row : Option Nat} (h : Kd.R (Kd.int .i64) 3 w base ok v xs) (hg : w.grownBy w' row) (hrow : ∀ g, row = some g → ∃ cur, w.heap[g]? = some (.cells cur 24 (0, 0))) : Kd.R (Kd.int .i64) 3 w' base ok v xs := by
  refine Kd.R_mono (Kd.R_step (Kd.R_bound h) (fun k ho hlt => hg.block k hlt (fun e => ?_))) (fun _ hk => hk.1)
  obtain ⟨cur, hc⟩ := hrow k e.symm
  obtain ⟨_, _, _, q, hq, cells, h2⟩ := ho
  rw [hc] at h2
  injection h2 with h2
  injection h2 with _ h3
  subst h3
  revert hq
  decide
theorem HdV.len {w : World} {base : Nat} : ∀ {hs : List Value} {xs : List (List Int)}, HdV w base hs xs → hs.length = xs.length
  | [], [], _ => rfl
  | _ :: hs, _ :: xs, h => by rw [List.length_cons, List.length_cons, HdV.len h.2]
  | [], _ :: _, h => h.elim
  | _ :: _, [], h => h.elim
theorem HdV.apart {w w' : World} {base : Nat} {row : Option Nat} (hg : w.grownBy w' row) (hrow : ∀ g, row = some g → ∃ cur, w.heap[g]? = some (.cells cur 24 (0, 0))) : ∀ {hs : List Value} {xs : List (List Int)}, HdV w base hs xs → HdV w' base hs xs
  | [], [], _ => trivial
  | _ :: hs, _ :: xs, h => ⟨R_apart h.1 hg hrow, HdV.apart hg hrow h.2⟩
  | [], _ :: _, h => h.elim
  | _ :: _, [], h => h.elim
theorem HdV.below {w w' : World} {base : Nat} (hb : Below w.heap.size w w') {hs : List Value} {xs : List (List Int)} (h : HdV w base hs xs) : HdV w' base hs xs := HdV.apart (grown_of_below hb none) (by simp) h
theorem HdV.get {w : World} {base : Nat} : ∀ {hs : List Value} {xs : List (List Int)}, HdV w base hs xs → ∀ j, j < xs.length → ∃ A c, hs[j]? = some (.slice A (xs.getD j []).length c) ∧ Kd.R (Kd.int .i64) 3 w base (fun _ => True) (.slice A (xs.getD j []).length c) (xs.getD j [])
  | [], [], _, j, hj => absurd hj (by simp)
  | h0 :: hs, x :: xs, h, j, hj => by
    cases j with
    | zero =>
      obtain ⟨A, c, rfl⟩ := Kd.R_slice h.1
      exact ⟨A, c, rfl, h.1⟩
    | succ j =>
      obtain ⟨A, c, h1, h2⟩ := HdV.get h.2 j (by simp at hj; omega)
      exact ⟨A, c, h1, h2⟩
  | [], _ :: _, h, _, _ => h.elim
  | _ :: _, [], h, _, _ => h.elim
theorem HdV.app {w : World} {base : Nat} : ∀ {hs : List Value} {xs : List (List Int)} {hs2 : List Value} {xs2 : List (List Int)}, HdV w base hs xs → HdV w base hs2 xs2 → HdV w base (hs ++ hs2) (xs ++ xs2)
  | [], [], _, _, _, h2 => h2
  | _ :: hs, _ :: xs, _, _, h, h2 => ⟨h.1, HdV.app h.2 h2⟩
  | [], _ :: _, _, _, h, _ => h.elim
  | _ :: _, [], _, _, h, _ => h.elim
theorem own_hdr {w : World} {base n : Nat} {v : Value} {hs : List Value} (h : w.ownsRow base 24 1 v n hs) : ∀ g, v.ownBlock = some g → ∃ cur, w.heap[g]? = some (.cells cur 24 (0, 0)) := by
  intro g hg
  rcases h.2 with ⟨rfl, _⟩ | ⟨g', cap, cur, rfl, _, hh, _⟩
  · cases hg
  · cases hg
    exact ⟨cur, hh⟩
/-- The reference's function, round for round. -/
def growF : Nat → List (List Int) → List Int → Int → Int → Int → Option (List (List Int))
  | 0, _, _, _, _, _ => none
  | k + 1, out, a, low, high, n => if a.length < 40 ∧ out.length < 4000 then (if (a.length : Int) = n then some (out ++ [a]) else ((if low > 0 then growF k out (a ++ [low - 1]) (low - 1) high n else some out).bind fun o1 => if high < n - 1 then growF k o1 (a ++ [high + 1]) low (high + 1) n else some o1)) else none
theorem grown_weak {w w1 : World} {o : Option Nat} (h : w.grownBy w1 none) : w.grownBy w1 o := ⟨h.os, h.tape, h.output, h.size, fun i hi _ => h.block i hi (by simp)⟩
theorem grown_trans {w w1 w2 : World} {o o1 : Option Nat} (h : w.grownBy w1 o) (k : w1.grownBy w2 o1) (ho : o1 = o ∨ ∃ g, o1 = some g ∧ w.heap.size ≤ g) : w.grownBy w2 o := ⟨k.os.trans h.os, k.tape.trans h.tape, k.output.trans h.output, Nat.le_trans h.size k.size, fun i hi hne => (k.block i (Nat.lt_of_lt_of_le hi h.size) (by
  rcases ho with rfl | ⟨g, rfl, hg⟩
  · exact hne
  · simp only [Option.some.injEq, ne_eq]; omega)).trans (h.block i hi hne)⟩
theorem lit_nil (w : World) : Kd.R (Kd.int .i64) 3 (w.alloc (.cells #[] 3)) w.heap.size (fun _ => True) (.slice (some ⟨w.heap.size, 0, none⟩) 0 0) [] :=
  ⟨fun _ _ => trivial, [], World.ownsRow_lit (base := w.heap.size) (e := 3) (size := 1) w #[] 0 (Nat.le_refl _) (by unfold maxLen; omega) rfl, Reps.none _ _⟩
def Blk (hs : List Value) (bs : List Nat) : Prop := hs.map Value.ownBlock = bs.map some
theorem HdV.drop {w : World} {base : Nat} {hs hs' : List Value} {xs : List (List Int)} (h : HdV w base (hs ++ hs') xs) : HdV w base hs' (xs.drop hs.length) := by
  induction hs generalizing xs with
  | nil => exact h
  | cons v hs ih =>
    cases xs with
    | nil => exact h.elim
    | cons x xs => exact ih h.2
theorem blkS_lt {w : World} {base : Nat} {bs : List Nat} : ∀ {hs : List Value} {xs : List (List Int)}, HdV w base hs xs → Blk hs bs → ∀ b ∈ bs, b < w.heap.size ∧ base ≤ b := by
  induction bs with
  | nil => intro hs xs _ _ b hb; simp at hb
  | cons b0 bs ih =>
    intro hs xs h hk b hb
    cases hs with
    | nil => cases hk
    | cons v hs =>
      cases xs with
      | nil => exact h.elim
      | cons x xs =>
        simp only [Blk, List.map_cons, List.cons.injEq] at hk
        rcases List.mem_cons.mp hb with rfl | hb
        · exact ⟨Kd.R_lt h.1 _ hk.1, Kd.R_base h.1 _ hk.1⟩
        · exact ih h.2 hk.2 b hb
set_option maxHeartbeats 32000000 in
set_option maxRecDepth 100000 in
theorem grow_calls (k : Nat) : ∀ (out : List (List Int)) (a : List Int) (low high n : Int) (r : List (List Int)) (w : World) (base : Nat) (vo : Value) (hs : List Value) (A : Option Addr) (c : Nat) (hown : w.ownsRow base 24 1 vo hs.length hs) (hhd : HdV w base hs out) (ha : Kd.R (Kd.int .i64) 3 w base (fun _ => True) (.slice A a.length c) a) (hb : base ≤ w.heap.size) (h0 : 0 < a.length) (hlo : 0 ≤ low ∧ low ≤ 1000) (hhi : 0 ≤ high ∧ high ≤ 1000) (hn : 1 ≤ n ∧ n ≤ 12) (h : growF k out a low high n = some r),
    Calls Try.prog 31 #[vo, .slice A a.length c, .int .i64 low, .int .i64 high, .int .i64 n] w fun e w' => ∃ (v' : Value) (hs' : List Value) (bs' : List Nat), e = .returned v' ∧ w'.ownsRow base 24 1 v' (hs ++ hs').length (hs ++ hs') ∧ HdV w' base (hs ++ hs') r ∧ Blk hs' bs' ∧ bs'.Nodup ∧ (∀ b ∈ bs', some b = (Value.slice A a.length c).ownBlock ∨ w.heap.size ≤ b) ∧ w.grownBy w' vo.ownBlock ∧ (v'.ownBlock = vo.ownBlock ∨ ∃ g, v'.ownBlock = some g ∧ w.heap.size ≤ g) := by
  induction k with
  | zero => intro out a low high n r w base vo hs A c hown hhd ha hb h0 hlo hhi hn h; cases h
  | succ k ih =>
    intro out a low high n r w base vo hs A c hown hhd ha hb h0 hlo hhi hn h
    unfold growF at h
    split at h
    rotate_left
    · cases h
    rename_i hg
    obtain ⟨iI, hiI, hzI, hsI, hbI⟩ := info_parts (show (Try.prog.info? 24).map (fun i => (i.zero, i.size, i.bytes)) = some (some (Value.slice none 0 0), 1, 24) by kernel_rfl)
    have HOWN := Aside0.mk hown
    have HHD := Aside0.mk hhd
    have HA := Aside0.mk ha
    have HB := Aside0.mk hb
    have H0 := Aside0.mk h0
    have HLO := Aside0.mk hlo
    have HHI := Aside0.mk hhi
    have HN := Aside0.mk hn
    have HG := Aside0.mk hg
    have II := Aside0.mk hiI
    have ZI := Aside0.mk hzI
    have SI := Aside0.mk hsI
    have BI := Aside0.mk hbI
    have IH := Aside0.mk ih
    have hne0 : (a.length = 0) = False := eq_false (by omega)
    clear hown hhd ha hb h0 hg hiI hzI hsI hbI ih
    by_cases c1 : (a.length : Int) = n
    · rw [if_pos c1] at h
      have c1b : ((a.length : Int) == n) = true := beq_iff_eq.mpr c1
      clear hlo hhi hn c1
      go_enter Try.func31, Try.ntmps31
      obtain rfl := Option.some.inj h
      clear h
      obtain ⟨ad, eA, _⟩ := (Kd.R_reads' HA.out).2.2.2.2 H0.out
      subst eA
      obtain ⟨ba, rfl⟩ := Kd.R_head HA.out
      go_wp2_with (at_builtin; refine wpList_append_own_at _ rfl (.tmp 15) (.tmp 17) 33 rfl base 24 iI (.slice none 0 0) 1 24 Try.underlying33 II.out ZI.out SI.out BI.out rfl (by decide) _ hs.length hs rfl (HOWN.out.alloc _) ⟨w.heap.size, 0, none⟩ 1 1 [.slice (some ⟨ba, 0, none⟩) a.length c] rfl rfl (fun j_ u_ hj_ => by rw [Addr.add_lit, Nat.zero_add, cell_of_row _ _ j_ _ 24 (0, 0) (heap_alloc_new w _)]; simpa using hj_) (fun u_ hu_ => by rw [List.mem_singleton.1 hu_]; rfl) (by have e1 := HG.out.2; have e2 := HdV.len HHD.out; unfold maxLen; omega) (by have e1 := HG.out.2; have e2 := HdV.len HHD.out; omega) (below_size (below_alloc (Below.refl _ _) _) |> Nat.le_trans HB.out) ?_; intro vA wA ho2 hg2 hn2 hat2; have HO2 := Aside0.mk ho2; have HG2 := Aside0.mk hg2; have HAT := Aside0.mk hat2; clear ho2 hg2 hn2 hat2)
      go_ret
      have own1 := HOWN.out.alloc (.cells #[.slice (some ⟨ba, 0, none⟩) a.length c] 24)
      have ROW := own_hdr own1
      refine ⟨vA, [.slice (some ⟨ba, 0, none⟩) a.length c], [ba], rfl, ?_, ?_, rfl, by simp, fun b hb => .inl ?_, ?_, ?_⟩
      · rw [List.length_append, List.length_singleton]; exact HO2.out
      · exact HdV.app (HdV.apart HG2.out ROW (HdV.apart (World.grownBy_alloc w _ none) (by simp) HHD.out)) ⟨R_apart (Kd.R_alloc HA.out _) HG2.out ROW, trivial⟩
      · rw [List.mem_singleton.1 hb]; rfl
      · exact grown_trans (grown_weak (World.grownBy_alloc w _ none)) HG2.out (.inl rfl)
      · rcases HAT.out with e1 | e1
        · exact .inl e1
        · exact .inr ⟨_, e1, by simp⟩
    · rw [if_neg c1] at h
      have c1b : ((a.length : Int) == n) = false := beq_eq_false_iff_ne.mpr c1
      have w1 : IntKind.i64.wrap (low - 1) = low - 1 := by rw [IntKind.wrap_i64]; omega
      have w1' : wrap64 (low - 1) = low - 1 := w64_id (by omega) (by omega)
      have w2 : IntKind.i64.wrap (high + 1) = high + 1 := by rw [IntKind.wrap_i64]; omega
      have w2' : wrap64 (high + 1) = high + 1 := w64_id (by omega) (by omega)
      have w3 : IntKind.i64.wrap (n - 1) = n - 1 := by rw [IntKind.wrap_i64]; omega
      have w3' : wrap64 (n - 1) = n - 1 := w64_id (by omega) (by omega)
      have BWx := HB
      have w1 : IntKind.i64.wrap (low - 1) = low - 1 := by rw [IntKind.wrap_i64]; omega
      have w1' : wrap64 (low - 1) = low - 1 := w64_id (by omega) (by omega)
      have w2 : IntKind.i64.wrap (high + 1) = high + 1 := by rw [IntKind.wrap_i64]; omega
      have w2' : wrap64 (high + 1) = high + 1 := w64_id (by omega) (by omega)
      have w3 : IntKind.i64.wrap (n - 1) = n - 1 := by rw [IntKind.wrap_i64]; omega
      have w3' : wrap64 (n - 1) = n - 1 := w64_id (by omega) (by omega)
      have BWx := HB
      have w1 : IntKind.i64.wrap (low - 1) = low - 1 := by rw [IntKind.wrap_i64]; omega
      have w1' : wrap64 (low - 1) = low - 1 := w64_id (by omega) (by omega)
      have w2 : IntKind.i64.wrap (high + 1) = high + 1 := by rw [IntKind.wrap_i64]; omega
      have w2' : wrap64 (high + 1) = high + 1 := w64_id (by omega) (by omega)
      have w3 : IntKind.i64.wrap (n - 1) = n - 1 := by rw [IntKind.wrap_i64]; omega
      have w3' : wrap64 (n - 1) = n - 1 := w64_id (by omega) (by omega)
      have BWx := HB
      by_cases c2 : low > 0
      · have c2b : decide (low > 0) = true := decide_eq_true c2
        have c2c : decide (0 < low) = true := decide_eq_true c2
        rw [if_pos c2] at h
        obtain ⟨o1, hq1, h⟩ := Option.bind_eq_some_iff.mp h
        have Q1 := Aside0.mk hq1
        clear hq1
        by_cases c3 : high < n - 1
        · have c3b : decide (high < n - 1) = true := decide_eq_true c3
          rw [if_pos c3] at h
          have Q2 := Aside0.mk h
          have C2 := Aside0.mk (show (low > 0) ∧ (high < n - 1) from ⟨c2, c3⟩)
          clear h hlo hhi hn c1 c2 c3
          go_enter Try.func31, Try.ntmps31
          go_wp2_with (first
            | (at_builtin; refine Kd.R_append_rows (Kd.int .i64) (w0 := w) w.heap.size rfl (.tmp 22) (.tmp 23) 24 3 (.int .i64 0) 8 rfl Try.underlying24 info3 rfl (by decide) (by omega) (.slice (some ⟨w.heap.size, 0, none⟩) 0 0) ([] : List Int) a _ _ _ (fun _ => True) (fun _ => False) rfl rfl (lit_nil w) (Kd.C_alloc (Kd.R_reads' HA.out).2.2 _) (fun _ _ h => h) (fun _ h => h.elim) (fun _ _ => trivial) (below_alloc (Below.refl _ _) _) (below_size (below_alloc (Below.refl _ _) _)) (by have e1 := HG.out.1; simp; omega) ?_; intro v1 x1 ho hb hg hat; rw [List.nil_append] at ho; have HO1 := Aside0.mk ho; have HB1 := Aside0.mk hb; clear ho hb hg hat; obtain ⟨A1, c1, rfl⟩ := Kd.R_slice HO1.out)
            | (at_builtin; refine Kd.R_append (Kd.int .i64) (w0 := w) w.heap.size rfl (.tmp 24) (.tmp 27) 24 3 (.int .i64 0) 8 rfl Try.underlying24 info3 rfl (by decide) (by omega) (.slice A1 a.length c1) a (low - 1) [.int .i64 (low - 1)] (fun _ => True) (fun _ => False) rfl rfl rfl (fun _ h => h.elim) (fun _ _ => trivial) HO1.out HB1.out (below_size HB1.out) (by have e1 := HG.out.1; omega) ?_; intro v2 x2 ho hb hg hat; have HO2 := Aside0.mk ho; have HB2 := Aside0.mk hb; clear ho hb hg hat HO1 HB1; obtain ⟨A2, c2, rfl⟩ := Kd.R_slice HO2.out)
            | (go_at_call 31; refine calls_of_args (args' := #[vo, .slice A2 (a ++ [low - 1]).length c2, .int .i64 (low - 1), .int .i64 (high), .int .i64 n]) (by rw [List.length_append, List.length_singleton]) ?_; refine (IH.out out (a ++ [low - 1]) (low - 1) (high) n o1 _ base vo (hs) A2 c2 (HOWN.out.kept (grown_of_below HB2.out none) (by cases (vo : Value).ownBlock <;> simp)) (HdV.below HB2.out HHD.out) (Kd.R_lower HO2.out BWx.out) (Nat.le_trans BWx.out (below_size HB2.out)) (by simp) (by have e1 := HLO.out; have e2 := HHI.out; have e3 := HN.out; have e4 := C2.out; omega) (by have e1 := HLO.out; have e2 := HHI.out; have e3 := HN.out; have e4 := C2.out; omega) HN.out Q1.out).mono ?_; rintro e x3 ⟨fv, fhs, fbs, rfl, q1, q2, q3, q4, q5, q6, q7⟩; have fO := Aside0.mk q1; have fD := Aside0.mk q2; have fK := Aside0.mk q3; have fN := Aside0.mk q4; have fF := Aside0.mk (show ∀ b ∈ fbs, w.heap.size ≤ b from fun b hb => (q5 b hb).elim (fun e_ => Kd.R_base HO2.out b e_.symm) (fun e_ => Nat.le_trans (below_size HB2.out) e_)); have fG := Aside0.mk (grown_trans (grown_weak (o := (vo : Value).ownBlock) (grown_of_below HB2.out none)) q6 (.inl rfl)); have fT := Aside0.mk (show fv.ownBlock = (vo : Value).ownBlock ∨ ∃ g, fv.ownBlock = some g ∧ w.heap.size ≤ g from q7.imp (fun e_ => e_) (fun ⟨g_, e1_, e2_⟩ => ⟨g_, e1_, Nat.le_trans (below_size HB2.out) e2_⟩)); have fA := Aside0.mk (R_apart (Kd.R_below HA.out HB2.out) q6 (own_hdr (HOWN.out.kept (grown_of_below HB2.out none) (by cases (vo : Value).ownBlock <;> simp)))); have BWy := Aside0.mk (Nat.le_trans HB.out fG.out.size); clear q1 q2 q3 q4 q5 q6 q7 HO2 HB2)
            | (at_builtin; refine Kd.R_append_rows (Kd.int .i64) (w0 := x3) x3.heap.size rfl (.tmp 39) (.tmp 40) 24 3 (.int .i64 0) 8 rfl Try.underlying24 info3 rfl (by decide) (by omega) (.slice (some ⟨x3.heap.size, 0, none⟩) 0 0) ([] : List Int) a _ _ _ (fun _ => True) (fun _ => False) rfl rfl (lit_nil x3) (Kd.C_alloc (Kd.R_reads' fA.out).2.2 _) (fun _ _ h => h) (fun _ h => h.elim) (fun _ _ => trivial) (below_alloc (Below.refl _ _) _) (below_size (below_alloc (Below.refl _ _) _)) (by have e1 := HG.out.1; simp; omega) ?_; intro v1 y1 ho hb hg hat; rw [List.nil_append] at ho; have HO1 := Aside0.mk ho; have HB1 := Aside0.mk hb; clear ho hb hg hat; obtain ⟨A1, c1, rfl⟩ := Kd.R_slice HO1.out)
            | (at_builtin; refine Kd.R_append (Kd.int .i64) (w0 := x3) x3.heap.size rfl (.tmp 41) (.tmp 44) 24 3 (.int .i64 0) 8 rfl Try.underlying24 info3 rfl (by decide) (by omega) (.slice A1 a.length c1) a (high + 1) [.int .i64 (high + 1)] (fun _ => True) (fun _ => False) rfl rfl rfl (fun _ h => h.elim) (fun _ _ => trivial) HO1.out HB1.out (below_size HB1.out) (by have e1 := HG.out.1; omega) ?_; intro v2 y2 ho hb hg hat; have HO2 := Aside0.mk ho; have HB2 := Aside0.mk hb; clear ho hb hg hat HO1 HB1; obtain ⟨A2, c2, rfl⟩ := Kd.R_slice HO2.out)
            | (go_at_call 31; refine calls_of_args (args' := #[fv, .slice A2 (a ++ [high + 1]).length c2, .int .i64 (low), .int .i64 (high + 1), .int .i64 n]) (by rw [List.length_append, List.length_singleton]) ?_; refine (IH.out o1 (a ++ [high + 1]) (low) (high + 1) n r _ base fv (hs ++ fhs) A2 c2 (fO.out.kept (grown_of_below HB2.out none) (by cases (fv : Value).ownBlock <;> simp)) (HdV.below HB2.out fD.out) (Kd.R_lower HO2.out BWy.out) (Nat.le_trans BWy.out (below_size HB2.out)) (by simp) (by have e1 := HLO.out; have e2 := HHI.out; have e3 := HN.out; have e4 := C2.out; omega) (by have e1 := HLO.out; have e2 := HHI.out; have e3 := HN.out; have e4 := C2.out; omega) HN.out Q2.out).mono ?_; rintro e y3 ⟨gv, ghs, gbs, rfl, q1, q2, q3, q4, q5, q6, q7⟩; have gO := Aside0.mk q1; have gD := Aside0.mk q2; have gK := Aside0.mk q3; have gN := Aside0.mk q4; have gF := Aside0.mk (show ∀ b ∈ gbs, x3.heap.size ≤ b from fun b hb => (q5 b hb).elim (fun e_ => Kd.R_base HO2.out b e_.symm) (fun e_ => Nat.le_trans (below_size HB2.out) e_)); have gG := Aside0.mk (grown_trans (grown_weak (o := (fv : Value).ownBlock) (grown_of_below HB2.out none)) q6 (.inl rfl)); have gT := Aside0.mk (show gv.ownBlock = (fv : Value).ownBlock ∨ ∃ g, gv.ownBlock = some g ∧ x3.heap.size ≤ g from q7.imp (fun e_ => e_) (fun ⟨g_, e1_, e2_⟩ => ⟨g_, e1_, Nat.le_trans (below_size HB2.out) e2_⟩)); have gA := Aside0.mk (R_apart (Kd.R_below fA.out HB2.out) q6 (own_hdr (fO.out.kept (grown_of_below HB2.out none) (by cases (fv : Value).ownBlock <;> simp)))); clear q1 q2 q3 q4 q5 q6 q7 HO2 HB2))
          go_ret
          refine ⟨gv, fhs ++ ghs, fbs ++ gbs, rfl, ?_, ?_, ?_, ?_, fun b hb => .inr ?_, ?_, ?_⟩
          · rw [← List.append_assoc]; exact gO.out
          · rw [← List.append_assoc]; exact gD.out
          · unfold Blk; rw [List.map_append, List.map_append, fK.out, gK.out]
          · refine List.pairwise_append.mpr ⟨fN.out, gN.out, fun b hb b' hb' e_ => ?_⟩
            have e1 := gF.out b' hb'
            have e2 := blkS_lt (HdV.drop fD.out) fK.out b hb
            omega
          · rcases List.mem_append.mp hb with hb | hb
            · exact fF.out b hb
            · exact Nat.le_trans fG.out.size (gF.out b hb)
          · exact grown_trans fG.out gG.out fT.out
          · rcases gT.out with e1 | ⟨g_, e1, e2⟩
            · rw [e1]; exact fT.out
            · exact .inr ⟨g_, e1, Nat.le_trans fG.out.size e2⟩
        · have c3b : decide (high < n - 1) = false := decide_eq_false c3
          rw [if_neg c3] at h
          obtain rfl := Option.some.inj h
          have C2 := Aside0.mk (show (low > 0) ∧ (¬ high < n - 1) from ⟨c2, c3⟩)
          clear h hlo hhi hn c1 c2 c3
          go_enter Try.func31, Try.ntmps31
          go_wp2_with (first
            | (at_builtin; refine Kd.R_append_rows (Kd.int .i64) (w0 := w) w.heap.size rfl (.tmp 22) (.tmp 23) 24 3 (.int .i64 0) 8 rfl Try.underlying24 info3 rfl (by decide) (by omega) (.slice (some ⟨w.heap.size, 0, none⟩) 0 0) ([] : List Int) a _ _ _ (fun _ => True) (fun _ => False) rfl rfl (lit_nil w) (Kd.C_alloc (Kd.R_reads' HA.out).2.2 _) (fun _ _ h => h) (fun _ h => h.elim) (fun _ _ => trivial) (below_alloc (Below.refl _ _) _) (below_size (below_alloc (Below.refl _ _) _)) (by have e1 := HG.out.1; simp; omega) ?_; intro v1 x1 ho hb hg hat; rw [List.nil_append] at ho; have HO1 := Aside0.mk ho; have HB1 := Aside0.mk hb; clear ho hb hg hat; obtain ⟨A1, c1, rfl⟩ := Kd.R_slice HO1.out)
            | (at_builtin; refine Kd.R_append (Kd.int .i64) (w0 := w) w.heap.size rfl (.tmp 24) (.tmp 27) 24 3 (.int .i64 0) 8 rfl Try.underlying24 info3 rfl (by decide) (by omega) (.slice A1 a.length c1) a (low - 1) [.int .i64 (low - 1)] (fun _ => True) (fun _ => False) rfl rfl rfl (fun _ h => h.elim) (fun _ _ => trivial) HO1.out HB1.out (below_size HB1.out) (by have e1 := HG.out.1; omega) ?_; intro v2 x2 ho hb hg hat; have HO2 := Aside0.mk ho; have HB2 := Aside0.mk hb; clear ho hb hg hat HO1 HB1; obtain ⟨A2, c2, rfl⟩ := Kd.R_slice HO2.out)
            | (go_at_call 31; refine calls_of_args (args' := #[vo, .slice A2 (a ++ [low - 1]).length c2, .int .i64 (low - 1), .int .i64 (high), .int .i64 n]) (by rw [List.length_append, List.length_singleton]) ?_; refine (IH.out out (a ++ [low - 1]) (low - 1) (high) n o1 _ base vo (hs) A2 c2 (HOWN.out.kept (grown_of_below HB2.out none) (by cases (vo : Value).ownBlock <;> simp)) (HdV.below HB2.out HHD.out) (Kd.R_lower HO2.out BWx.out) (Nat.le_trans BWx.out (below_size HB2.out)) (by simp) (by have e1 := HLO.out; have e2 := HHI.out; have e3 := HN.out; have e4 := C2.out; omega) (by have e1 := HLO.out; have e2 := HHI.out; have e3 := HN.out; have e4 := C2.out; omega) HN.out Q1.out).mono ?_; rintro e x3 ⟨fv, fhs, fbs, rfl, q1, q2, q3, q4, q5, q6, q7⟩; have fO := Aside0.mk q1; have fD := Aside0.mk q2; have fK := Aside0.mk q3; have fN := Aside0.mk q4; have fF := Aside0.mk (show ∀ b ∈ fbs, w.heap.size ≤ b from fun b hb => (q5 b hb).elim (fun e_ => Kd.R_base HO2.out b e_.symm) (fun e_ => Nat.le_trans (below_size HB2.out) e_)); have fG := Aside0.mk (grown_trans (grown_weak (o := (vo : Value).ownBlock) (grown_of_below HB2.out none)) q6 (.inl rfl)); have fT := Aside0.mk (show fv.ownBlock = (vo : Value).ownBlock ∨ ∃ g, fv.ownBlock = some g ∧ w.heap.size ≤ g from q7.imp (fun e_ => e_) (fun ⟨g_, e1_, e2_⟩ => ⟨g_, e1_, Nat.le_trans (below_size HB2.out) e2_⟩)); have fA := Aside0.mk (R_apart (Kd.R_below HA.out HB2.out) q6 (own_hdr (HOWN.out.kept (grown_of_below HB2.out none) (by cases (vo : Value).ownBlock <;> simp)))); have BWy := Aside0.mk (Nat.le_trans HB.out fG.out.size); clear q1 q2 q3 q4 q5 q6 q7 HO2 HB2))
          go_ret
          exact ⟨fv, fhs, fbs, rfl, fO.out, fD.out, fK.out, fN.out, fun b hb => .inr (fF.out b hb), fG.out, fT.out⟩
      · have c2b : decide (low > 0) = false := decide_eq_false c2
        have c2c : decide (0 < low) = false := decide_eq_false c2
        rw [if_neg c2, Option.bind_some] at h
        by_cases c3 : high < n - 1
        · have c3b : decide (high < n - 1) = true := decide_eq_true c3
          rw [if_pos c3] at h
          have Q2 := Aside0.mk h
          have C2 := Aside0.mk (show (¬ low > 0) ∧ (high < n - 1) from ⟨c2, c3⟩)
          clear h hlo hhi hn c1 c2 c3
          go_enter Try.func31, Try.ntmps31
          go_wp2_with (first
            | (at_builtin; refine Kd.R_append_rows (Kd.int .i64) (w0 := w) w.heap.size rfl (.tmp 39) (.tmp 40) 24 3 (.int .i64 0) 8 rfl Try.underlying24 info3 rfl (by decide) (by omega) (.slice (some ⟨w.heap.size, 0, none⟩) 0 0) ([] : List Int) a _ _ _ (fun _ => True) (fun _ => False) rfl rfl (lit_nil w) (Kd.C_alloc (Kd.R_reads' HA.out).2.2 _) (fun _ _ h => h) (fun _ h => h.elim) (fun _ _ => trivial) (below_alloc (Below.refl _ _) _) (below_size (below_alloc (Below.refl _ _) _)) (by have e1 := HG.out.1; simp; omega) ?_; intro v1 x1 ho hb hg hat; rw [List.nil_append] at ho; have HO1 := Aside0.mk ho; have HB1 := Aside0.mk hb; clear ho hb hg hat; obtain ⟨A1, c1, rfl⟩ := Kd.R_slice HO1.out)
            | (at_builtin; refine Kd.R_append (Kd.int .i64) (w0 := w) w.heap.size rfl (.tmp 41) (.tmp 44) 24 3 (.int .i64 0) 8 rfl Try.underlying24 info3 rfl (by decide) (by omega) (.slice A1 a.length c1) a (high + 1) [.int .i64 (high + 1)] (fun _ => True) (fun _ => False) rfl rfl rfl (fun _ h => h.elim) (fun _ _ => trivial) HO1.out HB1.out (below_size HB1.out) (by have e1 := HG.out.1; omega) ?_; intro v2 x2 ho hb hg hat; have HO2 := Aside0.mk ho; have HB2 := Aside0.mk hb; clear ho hb hg hat HO1 HB1; obtain ⟨A2, c2, rfl⟩ := Kd.R_slice HO2.out)
            | (go_at_call 31; refine calls_of_args (args' := #[vo, .slice A2 (a ++ [high + 1]).length c2, .int .i64 (low), .int .i64 (high + 1), .int .i64 n]) (by rw [List.length_append, List.length_singleton]) ?_; refine (IH.out out (a ++ [high + 1]) (low) (high + 1) n r _ base vo (hs) A2 c2 (HOWN.out.kept (grown_of_below HB2.out none) (by cases (vo : Value).ownBlock <;> simp)) (HdV.below HB2.out HHD.out) (Kd.R_lower HO2.out BWx.out) (Nat.le_trans BWx.out (below_size HB2.out)) (by simp) (by have e1 := HLO.out; have e2 := HHI.out; have e3 := HN.out; have e4 := C2.out; omega) (by have e1 := HLO.out; have e2 := HHI.out; have e3 := HN.out; have e4 := C2.out; omega) HN.out Q2.out).mono ?_; rintro e x3 ⟨gv, ghs, gbs, rfl, q1, q2, q3, q4, q5, q6, q7⟩; have gO := Aside0.mk q1; have gD := Aside0.mk q2; have gK := Aside0.mk q3; have gN := Aside0.mk q4; have gF := Aside0.mk (show ∀ b ∈ gbs, w.heap.size ≤ b from fun b hb => (q5 b hb).elim (fun e_ => Kd.R_base HO2.out b e_.symm) (fun e_ => Nat.le_trans (below_size HB2.out) e_)); have gG := Aside0.mk (grown_trans (grown_weak (o := (vo : Value).ownBlock) (grown_of_below HB2.out none)) q6 (.inl rfl)); have gT := Aside0.mk (show gv.ownBlock = (vo : Value).ownBlock ∨ ∃ g, gv.ownBlock = some g ∧ w.heap.size ≤ g from q7.imp (fun e_ => e_) (fun ⟨g_, e1_, e2_⟩ => ⟨g_, e1_, Nat.le_trans (below_size HB2.out) e2_⟩)); have gA := Aside0.mk (R_apart (Kd.R_below HA.out HB2.out) q6 (own_hdr (HOWN.out.kept (grown_of_below HB2.out none) (by cases (vo : Value).ownBlock <;> simp)))); clear q1 q2 q3 q4 q5 q6 q7 HO2 HB2))
          go_ret
          exact ⟨gv, ghs, gbs, rfl, gO.out, gD.out, gK.out, gN.out, fun b hb => .inr (gF.out b hb), gG.out, gT.out⟩
        · have c3b : decide (high < n - 1) = false := decide_eq_false c3
          rw [if_neg c3] at h
          obtain rfl := Option.some.inj h
          have C2 := Aside0.mk (show (¬ low > 0) ∧ (¬ high < n - 1) from ⟨c2, c3⟩)
          clear h hlo hhi hn c1 c2 c3
          go_enter Try.func31, Try.ntmps31
          go_wp2
          go_ret
          exact ⟨vo, rfl, [], by simpa using HOWN.out, by simpa using HHD.out, [], rfl, List.Pairwise.nil, fun b hb => by simp at hb, ⟨rfl, rfl, rfl, Nat.le_refl _, fun _ _ _ => rfl⟩, .inl rfl⟩
theorem growF_mono : ∀ k out a low high n, LeO (growF k out a low high n) (growF (k + 1) out a low high n)
  | 0, _, _, _, _, _ => fun r h => by simp [growF] at h
  | k + 1, out, a, low, high, n => by
    have ih := growF_mono k
    unfold growF
    exact LeO.ite (LeO.ite (LeO.refl _) (LeO.bind (LeO.ite (ih _ _ _ _ _) (LeO.refl _)) (fun _ => LeO.ite (ih _ _ _ _ _) (LeO.refl _)))) (LeO.refl _)
def gilL (k : Nat) (n : Int) : Nat → Int → List (List Int) → Option (List (List Int))
  | 0, _, out => some out
  | d + 1, x, out => (growF k out [x] x x n).bind fun o => gilL k n d (x + 1) o
theorem gilL_mono (k : Nat) (n : Int) : ∀ d x out, LeO (gilL k n d x out) (gilL (k + 1) n d x out)
  | 0, _, _ => LeO.refl _
  | d + 1, x, out => by
    unfold gilL
    exact LeO.bind (growF_mono _ _ _ _ _ _) (fun _ => gilL_mono k n d _ _)
def spec_GilbreathsOf.f (k : Nat) (a0 : Int) : Option (List (List Int)) := if 1 ≤ a0 ∧ a0 ≤ 12 then gilL k a0 a0.toNat 0 [] else some []
theorem spec_GilbreathsOf.mono : ∀ a0 k, LeO (spec_GilbreathsOf.f k a0) (spec_GilbreathsOf.f (k + 1) a0) := fun a0 k => by
  unfold spec_GilbreathsOf.f
  exact LeO.ite (gilL_mono _ _ _ _ _) (LeO.refl _)
def posN : List Nat → Nat → Nat
  | [], _ => 0
  | b :: bs, k => if b = k then 0 else posN bs k + 1
theorem posN_at : ∀ (bs : List Nat), bs.Nodup → ∀ (j b : Nat), bs[j]? = some b → posN bs b = j
  | [], _, j, b, h => by simp at h
  | b0 :: bs, hn, j, b, h => by
    rw [List.nodup_cons] at hn
    cases j with
    | zero =>
      simp only [List.getElem?_cons_zero, Option.some.injEq] at h
      rw [posN, if_pos h]
    | succ j =>
      rw [List.getElem?_cons_succ] at h
      rw [posN, if_neg (fun e => hn.1 (by rw [e]; exact List.mem_of_getElem? h)), posN_at bs hn.2 j b h]
theorem blk_at {hs : List Value} {bs : List Nat} (h : Blk hs bs) (j : Nat) (v : Value) (hv : hs[j]? = some v) : ∃ b, bs[j]? = some b ∧ v.ownBlock = some b := by
  have h1 := congrArg (fun l => l[j]?) h
  simp only [List.getElem?_map, hv, Option.map_some] at h1
  cases hb : bs[j]? with
  | none => rw [hb] at h1; simp at h1
  | some b => rw [hb] at h1; simp at h1; exact ⟨b, rfl, h1⟩
theorem S_of_HdV {w : World} {base : Nat} {v : Value} {hs : List Value} {xs : List (List Int)} {bs : List Nat} (hown : w.ownsRow base 24 1 v hs.length hs) (h : HdV w base hs xs) (hk : Blk hs bs) (hn : bs.Nodup) : Kd.S (Kd.slice 3 (Kd.int .i64)) 24 w base (fun _ => True) v xs := by
  have hl := HdV.len h
  refine ⟨posN bs, fun _ _ => trivial, hs, by rw [List.length_zipIdx, ← hl]; exact hown, by rw [List.length_zipIdx, hl]; exact (Nat.mul_one _).symm, fun j p hp => ?_⟩
  rw [List.getElem?_zipIdx, Nat.zero_add] at hp
  obtain ⟨x, hx, rfl⟩ := Option.map_eq_some_iff.1 hp
  have hj : j < xs.length := (List.getElem?_eq_some_iff.1 hx).1
  obtain ⟨A, c, h1, h2⟩ := HdV.get h j hj
  have ex : xs.getD j [] = x := by rw [List.getD_eq_getElem?_getD, hx]; rfl
  rw [ex] at h1 h2
  obtain ⟨b, hb, hvb⟩ := blk_at hk j _ h1
  have hjh : j < hs.length := by omega
  have hcell : (hs.drop (j * 1)).take 1 = [.slice A x.length c] := by
    rw [Nat.mul_one, List.drop_eq_getElem_cons hjh]
    have e1 : hs[j] = .slice A x.length c := by
      have e2 := List.getElem?_eq_getElem hjh
      rw [h1] at e2
      exact (Option.some.inj e2).symm
    rw [e1]
    rfl
  show (Kd.slice 3 (Kd.int .i64)).M w base (fun k => (True ∧ some k ≠ v.ownBlock) ∧ posN bs k = j) x ((hs.drop (j * 1)).take 1)
  rw [hcell]
  refine ⟨_, rfl, Kd.R_mono (Kd.R_bound (Kd.R_tight rfl h2)) (fun k hk2 => ?_)⟩
  obtain ⟨e1, _, _, q, hq, cells, hc⟩ := hk2
  rw [hvb] at e1
  obtain rfl := Option.some.inj e1
  refine ⟨⟨trivial, fun e2 => ?_⟩, posN_at bs hn j k hb⟩
  obtain ⟨cur, hc2⟩ := own_hdr hown k e2.symm
  rw [hc2] at hc
  injection hc with hc
  injection hc with _ h3
  subst h3
  revert hq
  decide
theorem lit_one (w : World) (base : Nat) (hb : base ≤ w.heap.size) (x : Int) : Kd.R (Kd.int .i64) 3 (w.alloc (.cells #[.int .i64 x] 3)) base (fun _ => True) (.slice (some ⟨w.heap.size, 0, none⟩) 1 1) [x] :=
  ⟨fun _ _ => trivial, [.int .i64 x], World.ownsRow_lit (base := base) (e := 3) (size := 1) w #[.int .i64 x] 1 hb (by unfold maxLen; omega) rfl, rfl, fun j p hp => by
    cases j with
    | zero => injection hp with hp; subst hp; rfl
    | succ j => simp at hp⟩
theorem blk_app {hs hs' : List Value} {bs bs' : List Nat} (h : Blk hs bs) (h' : Blk hs' bs') : Blk (hs ++ hs') (bs ++ bs') := by
  unfold Blk
  rw [List.map_append, List.map_append, h, h']
theorem nodup_app {bs bs' : List Nat} {n : Nat} (h : bs.Nodup) (h' : bs'.Nodup) (h1 : ∀ b ∈ bs, b < n) (h2 : ∀ b ∈ bs', n ≤ b) : (bs ++ bs').Nodup :=
  List.pairwise_append.mpr ⟨h, h', fun b hb b' hb' e_ => by have e1 := h1 b hb; have e2 := h2 b' hb'; omega⟩
theorem own_base {w : World} {base n : Nat} {v : Value} {hs : List Value} (h : w.ownsRow base 24 1 v n hs) : ∀ g, v.ownBlock = some g → base ≤ g := by
  intro g hg
  rcases h.2 with ⟨rfl, _⟩ | ⟨g', cap, cur, rfl, hb, hh, _⟩
  · cases hg
  · cases hg
    exact hb
set_option maxHeartbeats 16000000 in
set_option maxRecDepth 100000 in
theorem spec_GilbreathsOf.calls (k : Nat) (a0 : Int) (r : List (List Int)) (w : World) (h : spec_GilbreathsOf.f k a0 = some r) :
    Calls Try.prog 17 #[.int .i64 a0] w fun e w' => ∃ v0_ : Value, e = .returned (v0_) ∧ Kd.S (Kd.slice 3 (Kd.int .i64)) 24 w' w.heap.size (fun _ => True) v0_ r ∧ Below w.heap.size w w' := by
  have hin : spec_l01In.f a0 1 12 = some (decide (1 ≤ a0 ∧ a0 ≤ 12)) := by
    unfold spec_l01In.f
    by_cases c : a0 ≥ 1
    · rw [if_pos c]; congr 1; exact decide_eq_decide.mpr ⟨fun h => ⟨c, h⟩, fun h => h.2⟩
    · rw [if_neg c, decide_eq_false (fun h => c h.1)]
  unfold spec_GilbreathsOf.f at h
  by_cases c0 : 1 ≤ a0 ∧ a0 ≤ 12
  · rw [if_pos c0] at h
    rw [decide_eq_true c0] at hin
    have HIN := Aside0.mk hin
    have H := Aside0.mk h
    have C0 := Aside0.mk c0
    obtain ⟨m, hm⟩ : ∃ m : Nat, (m : Int) = a0 := ⟨a0.toNat, Int.toNat_of_nonneg (by omega)⟩
    have HM := Aside0.mk hm
    clear hin h c0 hm
    go_enter Try.func17, Try.ntmps17
    go_wp2_with (go_at_call 30; (with_reducible refine (spec_l01In.calls a0 1 12 true _ HIN.out).mono ?_); rintro e w1 ⟨rfl, hd⟩; have B1 := Aside0.mk hd.below; clear hd)
    go_loopg [3, 4] a0.toNat (fun d v3 v4 w' => ∃ (out : List (List Int)) (hs : List Value) (bs : List Nat) (x : Int), v4 = .int .i64 x ∧ Aside0 (0 ≤ x ∧ x + d = a0) ∧ Aside0 (gilL k a0 d x out = some r) ∧ Aside0 (w'.ownsRow w.heap.size 24 1 v3 hs.length hs) ∧ Aside0 (HdV w' w.heap.size hs out) ∧ Aside0 (Blk hs bs) ∧ Aside0 bs.Nodup ∧ Aside0 (Below w.heap.size w w'))
    case atStart => exact ⟨[], [], [], 0, rfl, ⟨by have := C0.out; omega⟩, H, ⟨World.ownsRow_lit (base := w.heap.size) (e := 24) (size := 1) w1 #[] 0 (below_size B1.out) (by unfold maxLen; omega) rfl⟩, ⟨trivial⟩, ⟨rfl⟩, ⟨List.Pairwise.nil⟩, ⟨below_alloc B1.out _⟩⟩
    case round =>
      clear H B1
      obtain ⟨out, hs, bs, x, rfl, HX, HG, HO, HD, HK, HND, HB⟩ := hrel
      have h0 := HX.out
      cases gk with
      | zero =>
        have h := HG.out
        simp only [gilL, Option.some.injEq] at h
        subst h
        have c1b : decide (x < a0) = false := decide_eq_false (by omega)
        clear h0
        go_wp2
        go_ret
        exact ⟨_, rfl, S_of_HdV HO.out HD.out HK.out HND.out, HB.out⟩
      | succ d =>
        have h := HG.out
        simp only [gilL] at h
        obtain ⟨o, h1, h2⟩ := Option.bind_eq_some_iff.mp h
        have H1 := Aside0.mk h1
        have H2 := Aside0.mk h2
        have c0 := C0.out
        have c1b : decide (x < a0) = true := decide_eq_true (by omega)
        have hw : IntKind.i64.wrap (x + 1) = x + 1 := by rw [IntKind.wrap_i64]; omega
        have hw2 : wrap64 (x + 1) = x + 1 := w64_id (by omega) (by omega)
        have X0 := Aside0.mk (show (0 ≤ x ∧ x ≤ 1000) ∧ (1 ≤ a0 ∧ a0 ≤ 12) from ⟨by omega, c0⟩)
        clear h h1 h2 h0 c0 HG
        go_wp2_with (go_at_call 31; refine calls_of_args (args' := #[u3, .slice (some ⟨wr.heap.size, 0, none⟩) ([x] : List Int).length 1, .int .i64 x, .int .i64 x, .int .i64 a0]) rfl ?_; refine (grow_calls k out [x] x x a0 o _ w.heap.size u3 hs (some ⟨wr.heap.size, 0, none⟩) 1 (HO.out.alloc _) (HdV.below (below_alloc (Below.refl _ _) _) HD.out) (lit_one wr w.heap.size (below_size HB.out) x) (below_size (below_alloc HB.out _)) (by simp) X0.out.1 X0.out.1 X0.out.2 H1.out).mono ?_; rintro e w2 ⟨fv, fhs, fbs, rfl, q1, q2, q3, q4, q5, q6, q7⟩; have fO := Aside0.mk q1; have fD := Aside0.mk q2; have fK := Aside0.mk (blk_app HK.out q3); have fN := Aside0.mk (nodup_app HND.out q4 (fun b hb => (blkS_lt HD.out HK.out b hb).1) (fun b hb => (q5 b hb).elim (fun e_ => Nat.le_of_eq (Option.some.inj e_).symm) (fun e_ => Nat.le_trans (below_size (below_alloc (Below.refl wr.heap.size wr) _)) e_))); have fB := Aside0.mk ((below_alloc HB.out _).grown q6 (below_size (below_alloc HB.out _)) (own_base HO.out)); clear q1 q2 q3 q4 q5 q6 q7 HO HD HK HND HB)
        go_roundg d
        case measure => omega
        case rel => exact ⟨o, hs ++ fhs, bs ++ fbs, x + 1, rfl, ⟨by have := HX.out; omega⟩, H2, fO, fD, fK, fN, fB⟩
  · rw [if_neg c0] at h
    rw [decide_eq_false c0] at hin
    obtain rfl := Option.some.inj h
    have HIN := Aside0.mk hin
    clear hin h c0
    go_enter Try.func17, Try.ntmps17
    go_wp2_with (go_at_call 30; (with_reducible refine (spec_l01In.calls a0 1 12 false _ HIN.out).mono ?_); rintro e w1 ⟨rfl, hd⟩; have B1 := Aside0.mk hd.below; clear hd)
    go_ret
    exact ⟨_, rfl, Kd.S_nil _ _ _ _ _, B1.out⟩
end Go.Proofs.Ytnmfhgllafdkhaa.F
end
