/- Plain lemmas of my own on lists, numbers and rounds: no function of the program is named here. -/
import Derived.Test.YtclmicogljidkaaWMore
import Derived.Test.YtclmicogljidkaaWNEv
namespace Go.Proofs.Ytclmicogljidkaa.F
open Go.RowKit Go.Proofs.YtclmicogljidkaaW.PrintWords Go.Proofs.YtclmicogljidkaaW.PrintLast Go.Proofs.YtclmicogljidkaaW.PrintMore

theorem w64_id {x : Int} (h0 : -9223372036854775808 ≤ x) (h1 : x ≤ 9223372036854775807) : wrap64 x = x := by
  unfold wrap64
  omega
theorem w64_nat (n : Nat) (h : n ≤ 4611686018427387904) : wrap64 ((n : Int) + 1) = ((n + 1 : Nat) : Int) := by
  rw [w64_id (by omega) (by omega)]
  omega
theorem mid_lt {α : Type} (pre : List α) (x : α) (rest : List α) : (pre.length : Int) < ((pre ++ x :: rest).length : Int) := by
  simp
  omega
theorem mid_nlt {α : Type} (pre : List α) : ¬ (pre.length : Int) < ((pre ++ ([] : List α)).length : Int) := by simp
theorem mid_rd (pre : List Int) (x : Int) (rest : List Int) : rd (pre ++ x :: rest) (pre.length : Int) = x := by
  unfold rd
  simp
theorem mid_rd_of {l pre : List Int} {x : Int} {rest : List Int} (h : l = pre ++ x :: rest) : rd l (pre.length : Int) = x := by
  subst h
  exact mid_rd _ _ _
theorem mid_set {α : Type} (pre : List α) (x y : α) (rest : List α) : (pre ++ x :: rest).set ((pre.length : Int)).toNat y = (pre ++ [y]) ++ rest := by
  simp
theorem mid_cons {α : Type} (pre : List α) (x : α) (rest : List α) : pre ++ x :: rest = (pre ++ [x]) ++ rest := by simp
theorem mid_succ {α : Type} (pre : List α) (x : α) (h : pre.length ≤ 4611686018427387904) : wrap64 ((pre.length : Int) + 1) = ((pre ++ [x]).length : Int) := by
  rw [w64_nat _ h]
  simp
theorem nn (n : Nat) : 0 ≤ (n : Int) := Int.natCast_nonneg n
/-- The numbers from a on, n of them. -/
def seqFrom (a : Int) : Nat → List Int
  | 0 => []
  | n + 1 => a :: seqFrom (a + 1) n
theorem seqFrom_length (n : Nat) : ∀ a, (seqFrom a n).length = n := by
  induction n with
  | zero => intro a; rfl
  | succ n ih => intro a; simp [seqFrom, ih]
theorem Ev.some_ {α : Type} (r : α) : Ev (fun _ => some r) r := Ev.now r
/-- Two answers of one thing are one. -/
theorem Ev.uniq {α : Type} {g : Nat → Option α} {a b : α} (h : Ev g a) (k : Ev g b) : a = b := by
  obtain ⟨K, hK⟩ := h
  obtain ⟨L, hL⟩ := k
  have h1 := hK (max K L) (Nat.le_max_left _ _)
  have h2 := hL (max K L) (Nat.le_max_right _ _)
  rw [h1] at h2
  exact Option.some.inj h2
/-- At a number of rounds of our own choosing. -/
theorem Ev.at_ {α : Type} {g : Nat → Option α} {r : α} (K : Nat) (h : ∀ k, K ≤ k → g k = some r) : Ev g r := ⟨K, h⟩
/-- One round on, to a call. -/
theorem Ev.stepb {α β : Type} {a : Nat → Option β} {b : Nat → β → Option α} {f : Nat → Option α} {x : β} {r : α} (ha : Ev a x) (h : ∀ k, f (k + 1) = (a k).bind (b k)) (hb : Ev (fun k => b k x) r) : Ev f r :=
  Ev.step h (Ev.bind ha hb)
theorem Ev.succ {α : Type} {g : Nat → Option α} {r : α} (h : Ev (fun k => g (k + 1)) r) : Ev g r := Ev.step (f := fun k => g (k + 1)) (fun _ => rfl) h
theorem neg1 (n : Nat) : (1 + (n : Int) < 0) = False := by
  rw [eq_iff_iff, iff_false]
  omega
theorem neg2 (n m : Nat) : (1 + (n : Int) + (m : Int) < 0) = False := by
  rw [eq_iff_iff, iff_false]
  omega
theorem neg3 (n m q : Nat) : (1 + (n : Int) + (m : Int) + (q : Int) < 0) = False := by
  rw [eq_iff_iff, iff_false]
  omega
end Go.Proofs.Ytclmicogljidkaa.F
