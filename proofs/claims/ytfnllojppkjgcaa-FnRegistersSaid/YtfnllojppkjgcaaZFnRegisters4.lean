import Derived.Lib.SliceRun
import Derived.Shelf.Abstract
import Derived.Deep.RegionWith
import Derived.Test.YtfnllojppkjgcaaZFnRegisters2
import Derived.Test.YtfnllojppkjgcaaZFnRegisters1
import Derived.Shelf.SlLaysF
import Derived.Shelf.SlGeneric
import Derived.Test.YtfnllojppkjgcaaProg
import Derived.Shelf.SlSortCmp.Whole1
import Derived.Shelf.SlSortCmp.NoneTotal
import Derived.Lib.SlicesCompact
import Derived.Below
import Derived.Deep.Draws
import Derived.Deep.AppendLies
import Derived.Maps.AppendAt
import Derived.OwnWalk
import Derived.Laws.BytesArg
import Derived.Laws.MakeOwn
import Derived.Laws.OwnMore
import Derived.Deep.OwnRows
import Derived.Tactics
import Derived.Lib.ConvBytes
import Derived.Laws.Slices
import Derived.WalkKit
import Derived.KernelRfl
import Derived.RowKit3
import Derived.Deep.LoopGhost
import Derived.Deep.QuietTactic
import Derived.BigQuiet
import Derived.WideLaws
import Derived.Deep.DeepCutAuto
import Derived.Deep.CutBlock
import Derived.Deep.RegionHeld3
import Derived.Laws.Rows
import Derived.Lib.AppendStr
import Derived.ArgAppend
import Derived.Laws.IdiomCopy
import Derived.OrdersHeld
import Derived.Laws.BitsLemmas
import Derived.RowKit
import Derived.Laws.StructEq
import Derived.Test.YtfnllojppkjgcaaZFnRegisters3
section
/- Lemmas of my own that name no function of the program: laws of single operations, and plain lemmas beside the kit's words. -/
namespace Go.Proofs.Ytfnllojppkjgcaa.F
open Go.RowKit Go.Proofs.YtfnllojppkjgcaaW.PrintWords Go.Proofs.YtfnllojppkjgcaaW.PrintLast Go.Proofs.YtfnllojppkjgcaaW.PrintMore
set_option linter.unusedVariables false
set_option linter.unusedSimpArgs false
theorem eql_some_nil {P : Program} (T e : TypeId) (h : P.underlying T = some (.slice e)) (ad : Addr) (n c : Nat) (w : World) :
    (binOp .eql T (.slice (some ad) n c) (.slice none 0 0)).run P w = .ok (.bool false) w := Lib.run_eql_slice_nil w T e (some ad) n c 0 0 h
theorem eql_none_nil {P : Program} (T e : TypeId) (h : P.underlying T = some (.slice e)) (n c : Nat) (w : World) :
    (binOp .eql T (.slice none n c) (.slice none 0 0)).run P w = .ok (.bool true) w := Lib.run_eql_slice_nil w T e none n c 0 0 h
theorem C_none {d : Kd Int} {w : World} {n : Nat} {l : List Int} (h : d.C w none n l) : l = [] ∧ n = 0 := by
  obtain ⟨h1, h2, h3⟩ := h
  have : n = 0 := by
    rcases Nat.eq_zero_or_pos n with h | h
    · exact h
    · obtain ⟨ad, e, _⟩ := h3 h
      cases e
  subst this
  exact ⟨List.eq_nil_of_length_eq_zero h1, rfl⟩
/-- Block g holds just the cells cs, of element type t, and none of them is frozen. -/
def Whole (w : World) (g : Nat) (t : TypeId) (cs : Array Value) : Prop := w.heap[g]? = some (.cells cs t (0, 0))
section
variable {w w' : World} {g : Nat} {t : TypeId} {cs : Array Value}
theorem Whole.lt (h : Whole w g t cs) : g < w.heap.size := by
  unfold Whole at h
  exact (Array.getElem?_eq_some_iff.1 h).1
theorem Whole.cell (h : Whole w g t cs) (i : Nat) : w.cell? ⟨g, i, none⟩ = cs[i]? := cell_of_row w g i cs t (0, 0) h
theorem Whole.free (h : Whole w g t cs) (i : Nat) : w.frozen? ⟨g, i, none⟩ = false := by
  unfold Whole at h
  simp [World.frozen?, h]
theorem Whole.new (w : World) (t : TypeId) (cs : Array Value) : Whole (w.alloc (.cells cs t)) w.heap.size t cs := heap_alloc_new w _
theorem Whole.drewN (h : Whole w g t cs) (n : Nat) : Whole (w.drewN n) g t cs := h
theorem Whole.put (h : Whole w g t cs) (i : Nat) (u : Value) : Whole (w.setCell ⟨g, i, none⟩ u) g t (cs.setIfInBounds i u) := by
  unfold Whole at h ⊢
  simp [World.setCell, Array.getElem?_modify, h]
end
end Go.Proofs.Ytfnllojppkjgcaa.F
end
section
/- Plain lemmas of my own on lists, numbers and rounds: no function of the program is named here. -/
namespace Go.Proofs.Ytfnllojppkjgcaa.F
open Go.RowKit Go.Proofs.YtfnllojppkjgcaaW.PrintWords Go.Proofs.YtfnllojppkjgcaaW.PrintLast Go.Proofs.YtfnllojppkjgcaaW.PrintMore
theorem w64_id {x : Int} (h0 : -9223372036854775808 ≤ x) (h1 : x ≤ 9223372036854775807) : wrap64 x = x := by
  unfold wrap64
  omega
theorem w64_nat (n : Nat) (h : n ≤ 4611686018427387904) : wrap64 ((n : Int) + 1) = ((n + 1 : Nat) : Int) := by
  rw [w64_id (by omega) (by omega)]
  omega
theorem mid_lt {α : Type} (pre : List α) (x : α) (rest : List α) : (pre.length : Int) < ((pre ++ x :: rest).length : Int) := by
  simp
  omega
theorem mid_nlt {α : Type} (pre : List α) : ¬ (pre.length : Int) < ((pre ++ ([] : List α)).length : Int) := by simp
theorem mid_rd (pre : List Int) (x : Int) (rest : List Int) : rd (pre ++ x :: rest) (pre.length : Int) = x := by
  unfold rd
  simp
theorem mid_cons {α : Type} (pre : List α) (x : α) (rest : List α) : pre ++ x :: rest = (pre ++ [x]) ++ rest := by simp
theorem mid_succ {α : Type} (pre : List α) (x : α) (h : pre.length ≤ 4611686018427387904) : wrap64 ((pre.length : Int) + 1) = ((pre ++ [x]).length : Int) := by
  rw [w64_nat _ h]
  simp
theorem nn (n : Nat) : 0 ≤ (n : Int) := Int.natCast_nonneg n
theorem Ev.some_ {α : Type} (r : α) : Ev (fun _ => some r) r := Ev.now r
/-- At a number of rounds of our own choosing. -/
theorem Ev.at_ {α : Type} {g : Nat → Option α} {r : α} (K : Nat) (h : ∀ k, K ≤ k → g k = some r) : Ev g r := ⟨K, h⟩
/-- One round on, to a call. -/
theorem Ev.stepb {α β : Type} {a : Nat → Option β} {b : Nat → β → Option α} {f : Nat → Option α} {x : β} {r : α} (ha : Ev a x) (h : ∀ k, f (k + 1) = (a k).bind (b k)) (hb : Ev (fun k => b k x) r) : Ev f r :=
  Ev.step h (Ev.bind ha hb)
theorem Ev.succ {α : Type} {g : Nat → Option α} {r : α} (h : Ev (fun k => g (k + 1)) r) : Ev g r := Ev.step (f := fun k => g (k + 1)) (fun _ => rfl) h
end Go.Proofs.Ytfnllojppkjgcaa.F
end
section
/- The shelf's structure for slices.SortFunc, met by this program's functions: each is the shelf's body at this program's numbers. -/
namespace Go.Proofs.Ytfnllojppkjgcaa.F
def sortK_ren : Go.Shelf.Ren := ⟨fun | 6 => 88 | 15 => 105 | 14 => 104 | 28 => 120 | 29 => 121 | 20 => 112 | 21 => 113 | 22 => 114 | 23 => 115 | 24 => 116 | 25 => 117 | 26 => 118 | 27 => 119 | 46 => 131 | 47 => 132 | 48 => 133 | 49 => 134 | 50 => 135 | 57 => 143 | n => n, fun | 22 => 22 | 24 => 31 | 25 => 86 | 3 => 3 | 39 => 92 | 0 => 0 | 53 => 118 | 55 => 120 | 4 => 4 | 46 => 112 | 45 => 111 | 50 => 32 | 5 => 5 | 9 => 9 | 66 => 123 | 70 => 127 | 76 => 129 | 77 => 130 | n => n, fun | n => n⟩
theorem sortK : Go.Proofs.SlLaysF.n6 Try.prog sortK_ren := {
  mixed := by kernel_rfl,
  f6 := ⟨Try.f88.name, by decide, Try.func88.trans (congrArg some (by kernel_rfl))⟩,
  f14 := ⟨Try.f104.name, by decide, Try.func104.trans (congrArg some (by kernel_rfl))⟩,
  f15 := Try.func105.trans (congrArg some (by kernel_rfl)),
  f20 := ⟨Try.f112.name, by decide, Try.func112.trans (congrArg some (by kernel_rfl))⟩,
  f21 := ⟨Try.f113.name, by decide, Try.func113.trans (congrArg some (by kernel_rfl))⟩,
  f22 := ⟨Try.f114.name, by decide, Try.func114.trans (congrArg some (by kernel_rfl))⟩,
  f23 := ⟨Try.f115.name, by decide, Try.func115.trans (congrArg some (by kernel_rfl))⟩,
  f24 := ⟨Try.f116.name, by decide, Try.func116.trans (congrArg some (by kernel_rfl))⟩,
  f25 := ⟨Try.f117.name, by decide, Try.func117.trans (congrArg some (by kernel_rfl))⟩,
  f26 := ⟨Try.f118.name, by decide, Try.func118.trans (congrArg some (by kernel_rfl))⟩,
  f27 := ⟨Try.f119.name, by decide, Try.func119.trans (congrArg some (by kernel_rfl))⟩,
  f28 := Try.func120.trans (congrArg some (by kernel_rfl)),
  f29 := Try.func121.trans (congrArg some (by kernel_rfl)),
  f46 := ⟨Try.f131.name, by decide, Try.func131.trans (congrArg some (by kernel_rfl))⟩,
  f47 := Try.func132.trans (congrArg some (by kernel_rfl)),
  f48 := Try.func133.trans (congrArg some (by kernel_rfl)),
  f49 := ⟨Try.f134.name, by decide, Try.func134.trans (congrArg some (by kernel_rfl))⟩,
  f50 := ⟨Try.f135.name, by decide, Try.func135.trans (congrArg some (by kernel_rfl))⟩,
  f57 := ⟨Try.f143.name, by decide, Try.func143.trans (congrArg some (by kernel_rfl))⟩,
  t0 := Try.underlying0,
  a0 := Try.isAgg0,
  z0 := Try.sizeOf0,
  v0 := Try.zeroValue0,
  t3 := Try.underlying3,
  a3 := Try.isAgg3,
  z3 := Try.sizeOf3,
  v3 := Try.zeroValue3,
  t4 := Try.underlying4,
  a4 := Try.isAgg4,
  z4 := Try.sizeOf4,
  v4 := Try.zeroValue4,
  t5 := Try.underlying5,
  a5 := Try.isAgg5,
  z5 := Try.sizeOf5,
  v5 := Try.zeroValue5,
  t9 := Try.underlying9,
  a9 := Try.isAgg9,
  z9 := Try.sizeOf9,
  v9 := Try.zeroValue9,
  t22 := Try.underlying22,
  a22 := Try.isAgg22,
  z22 := Try.sizeOf22,
  v22 := Try.zeroValue22,
  a24 := Try.isAgg31,
  z24 := Try.sizeOf31,
  t25 := Try.underlying86,
  a25 := Try.isAgg86,
  z25 := Try.sizeOf86,
  v25 := Try.zeroValue86,
  t39 := Try.underlying92,
  a39 := Try.isAgg92,
  z39 := Try.sizeOf92,
  v39 := Try.zeroValue92,
  t45 := Try.underlying111,
  a45 := Try.isAgg111,
  z45 := Try.sizeOf111,
  v45 := Try.zeroValue111,
  t46 := Try.underlying112,
  a46 := Try.isAgg112,
  z46 := Try.sizeOf112,
  v46 := Try.zeroValue112,
  t50 := Try.underlying32,
  a50 := Try.isAgg32,
  z50 := Try.sizeOf32,
  v50 := Try.zeroValue32,
  t53 := Try.underlying118,
  a53 := Try.isAgg118,
  z53 := Try.sizeOf118,
  v53 := Try.zeroValue118,
  t55 := Try.underlying120,
  a55 := Try.isAgg120,
  z55 := Try.sizeOf120,
  v55 := Try.zeroValue120,
  t66 := Try.underlying123,
  a66 := Try.isAgg123,
  z66 := Try.sizeOf123,
  v66 := Try.zeroValue123,
  t70 := Try.underlying127,
  a70 := Try.isAgg127,
  z70 := Try.sizeOf127,
  v70 := Try.zeroValue127,
  t76 := Try.underlying129,
  a76 := Try.isAgg129,
  z76 := Try.sizeOf129,
  v76 := Try.zeroValue129,
  t77 := Try.underlying130,
  a77 := Try.isAgg130,
  z77 := Try.sizeOf130,
  v77 := Try.zeroValue130 }
end Go.Proofs.Ytfnllojppkjgcaa.F
end
section
/- Lemmas of my own on sorting rows of rows: lexicographic order, and the shelf's sort carried to rows whose elements lead to rows. No function of the program is named here. -/
namespace Go.Proofs.Ytfnllojppkjgcaa.F
open Go.RowKit Go.Shelf Go.Lib Go.Sort Go.Proofs.YtfnllojppkjgcaaW.PrintWords Go.Proofs.YtfnllojppkjgcaaW.PrintLast Go.Proofs.YtfnllojppkjgcaaW.PrintMore
set_option linter.unusedVariables false
set_option linter.unusedSimpArgs false
/-! ### 1. The order -/
/-- What slices.Compare says of two lists. -/
def lexC : List Int → List Int → Int
  | [], [] => 0
  | [], _ :: _ => -1
  | _ :: _, [] => 1
  | x :: xs, y :: ys => if x = y then lexC xs ys else if x < y then -1 else 1
theorem lexC_refl (a : List Int) : lexC a a = 0 := by
  induction a with
  | nil => rfl
  | cons x xs ih => unfold lexC; rw [if_pos rfl]; exact ih
theorem lexC_zero (a : List Int) : ∀ b, lexC a b = 0 → a = b := by
  induction a with
  | nil =>
    intro b h
    cases b with
    | nil => rfl
    | cons y ys => unfold lexC at h; omega
  | cons x xs ih =>
    intro b h
    cases b with
    | nil => unfold lexC at h; omega
    | cons y ys =>
      unfold lexC at h
      by_cases e : x = y
      · rw [if_pos e] at h; rw [e, ih ys h]
      · rw [if_neg e] at h
        by_cases l : x < y
        · rw [if_pos l] at h; omega
        · rw [if_neg l] at h; omega
theorem lexC_swap (a : List Int) : ∀ b, lexC b a = - lexC a b := by
  induction a with
  | nil => intro b; cases b <;> rfl
  | cons x xs ih =>
    intro b
    cases b with
    | nil => rfl
    | cons y ys =>
      unfold lexC
      by_cases e : x = y
      · rw [if_pos e, if_pos e.symm]; exact ih ys
      · rw [if_neg e, if_neg (fun h => e h.symm)]
        by_cases l : x < y
        · rw [if_pos l, if_neg (by omega)]; rfl
        · rw [if_neg l, if_pos (by omega)]
theorem lexC_trans (a : List Int) : ∀ b c, lexC a b < 0 → lexC b c < 0 → lexC a c < 0 := by
  induction a with
  | nil =>
    intro b c h k
    cases c with
    | nil => cases b <;> simp [lexC] at h k
    | cons z zs => simp [lexC]
  | cons x xs ih =>
    intro b c h k
    cases b with
    | nil => simp [lexC] at h
    | cons y ys =>
      cases c with
      | nil => simp [lexC] at k
      | cons z zs =>
        unfold lexC at h k ⊢
        by_cases e : x = y
        · subst e
          rw [if_pos rfl] at h
          by_cases e2 : x = z
          · rw [if_pos e2] at k ⊢; exact ih ys zs h k
          · rw [if_neg e2] at k ⊢; exact k
        · rw [if_neg e] at h
          have l : x < y := by
            by_cases l : x < y
            · exact l
            · rw [if_neg l] at h; omega
          by_cases e2 : y = z
          · subst e2; rw [if_neg e, if_pos l]; omega
          · rw [if_neg e2] at k
            have l2 : y < z := by
              by_cases l2 : y < z
              · exact l2
              · rw [if_neg l2] at k; omega
            rw [if_neg (by omega), if_pos (by omega)]; omega
theorem lexC_ntrans (a b c : List Int) (h : ¬ lexC a b < 0) (k : ¬ lexC b c < 0) : ¬ lexC a c < 0 := by
  intro q
  by_cases e1 : lexC a b = 0
  · rw [lexC_zero a b e1] at q; exact k q
  · by_cases e2 : lexC b c = 0
    · rw [← lexC_zero b c e2] at q; exact h q
    · have h1 : lexC b a < 0 := by rw [lexC_swap a b]; omega
      have h2 : lexC c b < 0 := by rw [lexC_swap b c]; omega
      have h3 := lexC_trans c b a h2 h1
      rw [lexC_swap a c] at h3
      omega
/-! ### 2. Rows of rows by their elements -/
section
variable {β : Type} {d : Kd β} {f : Nat → Nat} {w w' : World} {base : Nat} {ok : Nat → Prop}
/-- An element of a row of rows: its value, what it holds, its place; and how it lies. -/
def Elt (d : Kd β) (f : Nat → Nat) (w : World) (base : Nat) (ok : Nat → Prop) : Type := {t : Value × (β × Nat) // (Kd.tag f d).M w base ok t.2 [t.1]}
def Elt.enc (x : Elt d f w base ok) : Value := x.1.1
def Elt.key (x : Elt d f w base ok) : β := x.1.2.1
def Elt.two (x : Elt d f w base ok) : β × Nat := x.1.2
theorem Elt.one (x : Elt d f w base ok) : x.enc.oneCell' = true := (Kd.tag f d).K_one ((Kd.tag f d).K_of_M x.2) _ (List.mem_singleton.2 rfl)
def Elt.of (v : Value) (z : β × Nat) (h : (Kd.tag f d).M w base ok z [v]) : Elt d f w base ok := ⟨(v, z), h⟩
theorem elts (zs : List (β × Nat)) : ∀ inner : List Value, Reps ((Kd.tag f d).M w base ok) 1 zs inner → ∃ D : List (Elt d f w base ok), D.map Elt.enc = inner ∧ D.map Elt.two = zs := by
  induction zs with
  | nil =>
    intro inner hr
    have h1 := hr.1
    obtain rfl : inner = [] := List.eq_nil_of_length_eq_zero (by simpa using h1)
    exact ⟨[], rfl, rfl⟩
  | cons z zs ih =>
    intro inner hr
    have h1 := hr.1
    cases inner with
    | nil => simp at h1
    | cons v rest =>
      have hM : (Kd.tag f d).M w base ok z [v] := by
        have := hr.2 0 z rfl
        simpa using this
      have hr' : Reps ((Kd.tag f d).M w base ok) 1 zs rest := ⟨by simp only [List.length_cons] at h1; omega, fun j p hj => by
        have := hr.2 (j + 1) p (by simpa using hj)
        rw [Nat.mul_one] at this ⊢
        simpa using this⟩
      obtain ⟨D, h2, h3⟩ := ih rest hr'
      exact ⟨Elt.of v z hM :: D, by rw [List.map_cons, h2]; rfl, by rw [List.map_cons, h3]; rfl⟩
theorem reps_elts (D : List (Elt d f w base ok)) (hM : ∀ x : Elt d f w base ok, (Kd.tag f d).M w' base ok x.two [x.enc]) : Reps ((Kd.tag f d).M w' base ok) 1 (D.map Elt.two) (D.map Elt.enc) := by
  refine ⟨by simp, fun j p hj => ?_⟩
  rw [List.getElem?_map] at hj
  obtain ⟨x, hx, rfl⟩ := Option.map_eq_some_iff.1 hj
  obtain ⟨hlt, rfl⟩ := List.getElem?_eq_some_iff.1 hx
  have e : ((D.map Elt.enc).drop (j * 1)).take 1 = [(D[j]).enc] := by
    rw [Nat.mul_one, List.drop_eq_getElem_cons (by simpa using hlt)]
    simp
  rw [e]
  exact hM _
theorem idxOf_nodup {l : List Nat} (hn : l.Nodup) (j : Nat) (hj : j < l.length) : l.idxOf l[j] = j := by
  induction l generalizing j with
  | nil => simp at hj
  | cons x xs ih =>
    rw [List.nodup_cons] at hn
    cases j with
    | zero => simp
    | succ j =>
      have hj' : j < xs.length := by simpa using hj
      have hne : x ≠ xs[j] := fun e => hn.1 (by rw [e]; exact List.getElem_mem hj')
      have hb : (x == xs[j]) = false := by simpa using hne
      rw [List.getElem_cons_succ, List.idxOf_cons, hb, cond_false, ih hn.2 j hj']
theorem S_of_tags {e : Nat} {v : Value} {zs : List (β × Nat)} (h : (Kd.tag f d).R e w base ok v zs) (hn : (zs.map Prod.snd).Nodup) : Kd.S d e w base ok v (zs.map Prod.fst) := by
  obtain ⟨h0, inner, ho, hr⟩ := h
  refine ⟨fun k => (zs.map Prod.snd).idxOf (f k), h0, inner, by rw [List.length_zipIdx, List.length_map]; exact ho, by rw [List.length_zipIdx, List.length_map]; exact hr.1, fun j p hj => ?_⟩
  rw [List.getElem?_zipIdx, Nat.zero_add] at hj
  obtain ⟨x, hx, rfl⟩ := Option.map_eq_some_iff.1 hj
  rw [List.getElem?_map] at hx
  obtain ⟨q, hq, rfl⟩ := Option.map_eq_some_iff.1 hx
  refine d.M_mono (fun k hk => ⟨hk.1, ?_⟩) (hr.2 j q hq)
  obtain ⟨hlt, rfl⟩ := List.getElem?_eq_some_iff.1 hq
  have h2 : f k = (zs[j]).2 := hk.2
  show (zs.map Prod.snd).idxOf (f k) = j
  rw [h2]
  have := idxOf_nodup hn j (by simpa using hlt)
  rwa [List.getElem_map] at this
theorem zip_snd_nodup (xs : List β) : (xs.zipIdx.map Prod.snd).Nodup := by
  rw [List.zipIdx_map_snd]
  exact List.nodup_range'
end
/-! ### 3. A row laid anew -/
/-- Only row g's first cells are told anew: they hold D. -/
structure Relaid {α : Type} [Inhabited α] (enc : α → Value) (w w' : World) (g : Nat) (D : Array α) : Prop where
  grown : w.grownBy w' (some g)
  row : ∀ cur e fr, w.heap[g]? = some (.cells cur e fr) → w'.heap[g]? = some (.cells (putCells enc 0 D cur) e fr)
theorem relaid_sortWorld {α : Type} [Inhabited α] (enc : α → Value) (w : World) (g n : Nat) (D : Array α) (os : Array Obj) (hg : g < w.heap.size) : Relaid enc w (sortWorld enc w g 0 n D os) g D := by
  refine ⟨⟨rfl, rfl, rfl, ?_, fun k hk hne => ?_⟩, fun cur e fr h => ?_⟩
  · unfold sortWorld
    rw [size_grow, size_putRow]
    show w.heap.size ≤ w.heap.size + os.size
    omega
  · unfold sortWorld
    rw [heap_grow_old _ _ (by rw [size_putRow]; exact hk)]
    show (w.heap.modify g (onCells (putCells enc 0 D)))[k]? = w.heap[k]?
    rw [Array.getElem?_modify, if_neg (fun e => hne (by rw [e]))]
  · unfold sortWorld
    rw [heap_grow_old _ _ (by rw [size_putRow]; exact hg)]
    show (w.heap.modify g (onCells (putCells enc 0 D)))[g]? = _
    rw [Array.getElem?_modify, if_pos rfl, h]
    rfl
theorem relaid_putRow {α : Type} [Inhabited α] (enc : α → Value) (w : World) (g n : Nat) (D : Array α) (hg : g < w.heap.size) : Relaid enc w (putRow enc (Sort.ahead w n) g 0 D) g D := by
  have h := relaid_sortWorld enc w g n D #[] hg
  unfold sortWorld at h
  rwa [grow_empty] at h
theorem putCells_take {α : Type} [Inhabited α] (enc : α → Value) (D : Array α) (cur : Array Value) (h : D.size ≤ cur.size) : (putCells enc 0 D cur).toList.take D.size = D.toList.map enc := by
  apply List.ext_getElem
  · simp [putCells]; omega
  · intro i h1 h2
    have hi : i < D.size := by simpa using h2
    simp [putCells, hi, getElem!_pos]
theorem own_relaid {α : Type} [Inhabited α] {enc : α → Value} {w w' : World} {base e g n cap : Nat} {inner : List Value} (h : w.ownsRow base e 1 (.slice (some ⟨g, 0, none⟩) n cap) n inner) (D : Array α) (hD : D.size = n) (hr : Relaid enc w w' g D) :
    w'.ownsRow base e 1 (.slice (some ⟨g, 0, none⟩) n cap) n (D.toList.map enc) := by
  obtain ⟨h1, h2⟩ := h
  refine ⟨by simp [hD], ?_⟩
  rcases h2 with ⟨h3, _⟩ | ⟨g', cap', cur, he, hb, hh, hn, hm, hs, ht⟩
  · cases h3
  · injection he with he1 he2 he3
    injection he1 with he1
    injection he1 with he1
    subst he1 he3
    refine .inr ⟨g, cap, _, rfl, hb, hr.row _ _ _ hh, hn, hm, by simpa [putCells] using hs, ?_⟩
    rw [Nat.mul_one, ← hD]
    exact putCells_take enc D cur (by omega)
theorem holds_own {α : Type} [Inhabited α] {enc : α → Value} {w : World} {base e g n cap : Nat} {D : Array α} (h : w.ownsRow base e 1 (.slice (some ⟨g, 0, none⟩) n cap) n (D.toList.map enc)) : Holds enc w g 0 D := by
  intro j hj
  obtain ⟨h1, h2⟩ := h
  have hD : D.size = n := by simpa using h1
  rcases h2 with ⟨h3, _⟩ | ⟨g', cap', cur, he, hb, hh, hn, hm, hs, ht⟩
  · cases h3
  · injection he with he1 he2 he3
    injection he1 with he1
    injection he1 with he1
    subst he1 he3
    rw [Nat.zero_add]
    refine ⟨?_, by simp [World.frozen?, hh]⟩
    rw [cell_of_row w g j cur e (0, 0) hh]
    have hlt : j < cur.size := by omega
    have e1 : (cur.toList.take (n * 1))[j]? = some cur[j] := by
      rw [List.getElem?_take, if_pos (by omega)]
      simp [hlt]
    rw [ht] at e1
    rw [Array.getElem?_eq_getElem hlt, ← e1]
    simp [hj, getElem!_pos]
/-! ### 4. The sort of rows of rows -/
theorem perm_keys {β : Type} {zs zs' : List (β × Nat)} (h : zs'.Perm zs) (hn : (zs.map Prod.snd).Nodup) : (zs'.map Prod.snd).Nodup := (h.map _).nodup_iff.2 hn
section
variable {P : Program} {ρ : Ren} {β : Type}
/-- slices.SortFunc on a row of rows of its own: they lie there as before, in another order: a permutation, none less than the one before it. -/
theorem sortFunc_S (L : SlLaysF.n6 P ρ) (d : Kd β) (hsz : d.sz = 1) (cf : β → β → Int) (hirr : ∀ a, ¬ cf a a < 0) (htr : ∀ a b c, cf a b < 0 → cf b c < 0 → cf a c < 0) (hnt : ∀ a b c, ¬ cf a b < 0 → ¬ cf b c < 0 → ¬ cf a c < 0)
    (gn : Nat) (eg : ∀ args w, (callFunc gn args).run P w = .ok (.enter gn args) w)
    (hcmp : ∀ (W : World) (x y : β) (vx vy : Value), d.K W x [vx] → d.K W y [vy] → Calls P gn #[vx, vy] W fun e w' => e = .returned (.int .i64 (cf x y)) ∧ Drawn0 W w')
    (e : Nat) (w : World) (base : Nat) (ok : Nat → Prop) (v : Value) (xs : List β) (hS : Kd.S d e w base ok v xs) (hlen : xs.length < 4611686018427387904) :
    Calls P (ρ.f 6) #[v, .func (.func gn) #[] #[]] w fun e' w' => e' = .returned (.tuple #[]) ∧ w.grownBy w' v.ownBlock ∧ ∃ ys : List β, ys.Perm xs ∧ (∀ i j (hi : i < ys.length) (hj : j < ys.length), i < j → ¬ cf ys[j] ys[i] < 0) ∧ Kd.S d e w' base ok v ys := by
  obtain ⟨f, h0, inner, ho, hr⟩ := hS
  have ho0 := ho
  rcases ho.2 with ⟨rfl, hn0⟩ | ⟨g, cap, cur, rfl, hb, hh, hn, hm, hs, ht⟩
  · refine (AnyF.slices_SortFunc_none (P := P) (ρ := ρ) { L with } none 0 (.func (.func gn) #[] #[]) w).mono ?_
    rintro e' w' ⟨rfl, rfl⟩
    exact ⟨rfl, World.grownBy.refl _ _, xs, List.Perm.refl _, fun i j hi hj => by rw [List.length_zipIdx] at hn0; omega, f, h0, inner, ho0, hr⟩
  · rw [List.length_zipIdx] at hn ht ho
    cases hx : xs with
    | nil =>
      subst hx
      refine (AnyF.slices_SortFunc_none (P := P) (ρ := ρ) { L with } _ cap (.func (.func gn) #[] #[]) w).mono ?_
      rintro e' w' ⟨rfl, rfl⟩
      exact ⟨rfl, World.grownBy.refl _ _, [], List.Perm.refl _, fun i j hi hj => by simp at hi, f, h0, inner, ho0, hr⟩
    | cons x0 xr =>
      rw [← hx]
      have hsz2 : (Kd.tag f d).sz = 1 := hsz
      rw [hsz2] at hr ho hs ht ho0
      have hr2 : Reps ((Kd.tag f d).M w base (fun k => ok k ∧ some k ≠ some g)) 1 xs.zipIdx inner := hr
      obtain ⟨D, hD1, hD2⟩ := elts _ _ hr2
      have hlD : D.length = xs.length := by have := congrArg List.length hD2; simpa using this
      haveI : Inhabited (Elt d f w base (fun k => ok k ∧ some k ≠ some g)) := ⟨D[0]'(by rw [hlD, hx]; simp)⟩
      have hg : g < w.heap.size := (Array.getElem?_eq_some_iff.1 hh).1
      have hmove : ∀ (w' : World), w.grownBy w' (some g) → ∀ x : Elt d f w base (fun k => ok k ∧ some k ≠ some g), (Kd.tag f d).M w' base (fun k => ok k ∧ some k ≠ some g) x.two [x.enc] :=
        fun w' hgr x => Kd.M_grown x.2 hgr (fun k hk => hk.2)
      have hown : w.ownsRow base e 1 (.slice (some ⟨g, 0, none⟩) xs.length cap) xs.length (D.toArray.toList.map Elt.enc) := by
        rw [show D.toArray.toList.map Elt.enc = inner from hD1]
        exact ho
      have hcon := Any.slices_SortFunc L (Elt.enc (d := d) (f := f) (w := w) (base := base)) Elt.one (fun x y => cf x.key y.key)
        ⟨fun x => by simp [ltOf, hirr], fun x y z h1 h2 => by simp only [ltOf, decide_eq_true_eq] at *; exact htr _ _ _ h1 h2, fun x y z h1 h2 => by simp only [ltOf, decide_eq_false_iff_not] at *; exact hnt _ _ _ h1 h2⟩
        gn #[] g 0 cap D.toArray w eg ?_ (holds_own hown) hg (by simp; omega)
      · have e1 : D.toArray.size = xs.length := by simp [hlD]
        have hv : Value.slice (some ⟨g, 0, none⟩) xs.zipIdx.length cap = Value.slice (some ⟨g, 0, none⟩) xs.length cap := by rw [List.length_zipIdx]
        rw [hv]
        rw [e1] at hcon
        refine hcon.mono ?_
        rintro e' w' ⟨rfl, D', n, os, hp, hso, rfl⟩
        have hrel := relaid_sortWorld Elt.enc w g n D' os hg
        have hps : D'.size = xs.length := by rw [hp.1]; exact e1
        have hperm : D'.toList.Perm D := by
          have h2 := hp.2.2
          have a1 : D'.extract 0 xs.length = D' := by rw [← hps]; simp
          have a2 : D.toArray.extract 0 xs.length = D.toArray := by rw [← e1]; simp
          rw [a1, a2] at h2
          exact h2
        refine ⟨rfl, hrel.grown, D'.toList.map Elt.key, ?_, fun i j hi hj hij => ?_, ?_⟩
        · have h2 : xs = D.map Elt.key := by
            have := congrArg (List.map Prod.fst) hD2
            rw [List.map_map, List.zipIdx_map_fst] at this
            exact this.symm
          rw [h2]
          exact hperm.map _
        · have h3 := hso i j (Nat.zero_le _) hij (by simpa [hps] using hj)
          simp only [ltOf, decide_eq_false_iff_not] at h3
          have hi' : i < D'.size := by simpa using hi
          have hj' : j < D'.size := by simpa using hj
          rw [getElem!_pos D' i hi', getElem!_pos D' j hj'] at h3
          simpa using h3
        · have hown2 := own_relaid hown D' hps hrel
          have hl' : (D'.toList.map Elt.two).length = xs.length := by simp [hps]
          have hR : (Kd.tag f d).R e (sortWorld Elt.enc w g 0 n D' os) base ok (.slice (some ⟨g, 0, none⟩) xs.length cap) (D'.toList.map Elt.two) := by
            refine ⟨h0, D'.toList.map Elt.enc, ?_, ?_⟩
            · rw [hsz2, hl']; exact hown2
            · rw [hsz2]; exact reps_elts D'.toList (hmove _ hrel.grown)
          have h4 := S_of_tags hR (perm_keys ((hperm.map Elt.two).trans (by rw [hD2])) (zip_snd_nodup xs))
          rw [List.map_map] at h4
          exact h4
      · intro m os dk hs x y
        have hrel := relaid_sortWorld Elt.enc w g m dk os hg
        exact (hcmp _ x.key y.key x.enc y.enc ((Kd.tag f d).K_of_M (hmove _ hrel.grown x)) ((Kd.tag f d).K_of_M (hmove _ hrel.grown y))).mono fun e' w' ⟨h1, h2⟩ => ⟨h1, by
          obtain ⟨q, rfl⟩ := h2
          exact ⟨q, #[], by rw [grow_empty]⟩⟩
end
/-! ### 5. Neighbours that are alike -/
section
variable {α κ : Type} [Inhabited α] [DecidableEq κ] (key : α → κ)
def keepsK (d : Array α) (j : Nat) : Bool := decide (j = 0 ∨ key d[j]! ≠ key d[j - 1]!)
def compK (d : Array α) (m : Nat) : List α := ((List.range m).filter (keepsK key d)).map (d[·]!)
variable {key}
theorem keepsK_lt_one (d : Array α) : ∀ j, j < 1 → keepsK key d j = true := by
  intro j hj
  have : j = 0 := by omega
  subst this
  simp [keepsK]
theorem keepsK_pos {d : Array α} {m : Nat} (h : key d[m]! ≠ key d[m - 1]!) : keepsK key d m = true := by simp [keepsK, h]
theorem keepsK_neg {d : Array α} {m : Nat} (hm : 0 < m) (h : key d[m]! = key d[m - 1]!) : keepsK key d m = false := by
  have : m ≠ 0 := by omega
  simp [keepsK, h, this]
theorem compK_succ (d : Array α) (m : Nat) : compK key d (m + 1) = compK key d m ++ (if keepsK key d m then [d[m]!] else []) := by
  unfold compK
  rw [List.range_succ, List.filter_append, List.map_append]
  congr 1
  by_cases h : keepsK key d m <;> simp [h]
theorem compK_all (d : Array α) (m : Nat) (h : ∀ j, j < m → keepsK key d j = true) : compK key d m = (List.range m).map (d[·]!) := by
  unfold compK
  rw [List.filter_eq_self.2 (fun j hj => h j (List.mem_range.1 hj))]
structure CompInvK (key : α → κ) (d : Array α) (m k : Nat) (dk : Array α) : Prop where
  size : dk.size = d.size
  len : (compK key d m).length = k
  lt : k < m
  low : ∀ j, j < k → (compK key d m)[j]? = some dk[j]!
  high : ∀ j, k ≤ j → dk[j]! = d[j]!
theorem CompInvK.start {d : Array α} {k0 : Nat} (hall : ∀ j, j < k0 → keepsK key d j = true) (hdup : keepsK key d k0 = false) : CompInvK key d (k0 + 1) k0 d where
  size := rfl
  len := by rw [compK_succ, hdup, compK_all d k0 hall]; simp
  lt := Nat.lt_succ_self _
  low := fun j hj => by rw [compK_succ, hdup, compK_all d k0 hall]; simp [hj]
  high := fun _ _ => rfl
theorem CompInvK.keep {d dk : Array α} {m k : Nat} (h : CompInvK key d m k dk) (hm : m < d.size) (hk : keepsK key d m = true) : CompInvK key d (m + 1) (k + 1) (dk.setIfInBounds k d[m]!) where
  size := by simp [h.size]
  len := by rw [compK_succ, hk]; simp [h.len]
  lt := by have := h.lt; omega
  low := fun j hj => by
    rw [compK_succ, hk, if_pos rfl]
    by_cases e : j = k
    · subst e
      rw [List.getElem?_append_right (by rw [h.len]; exact Nat.le_refl _), h.len, Nat.sub_self, getElem!_set_same dk j _ (by have := h.lt; have := h.size; omega)]
      rfl
    · rw [List.getElem?_append_left (by rw [h.len]; omega), h.low j (by omega), getElem!_set_other dk k j _ e]
  high := fun j hj => by rw [getElem!_set_other dk k j _ (by omega), h.high j (by omega)]
theorem CompInvK.skip {d dk : Array α} {m k : Nat} (h : CompInvK key d m k dk) (hk : keepsK key d m = false) : CompInvK key d (m + 1) k dk where
  size := h.size
  len := by rw [compK_succ, hk]; simpa using h.len
  lt := by have := h.lt; omega
  low := fun j hj => by rw [compK_succ, hk]; simpa using h.low j hj
  high := h.high
theorem CompInvK.done {d dk : Array α} {k : Nat} (h : CompInvK key d d.size k dk) (z : α) :
    lay dk k (List.replicate (d.size - k) z) = (compK key d d.size ++ List.replicate (d.size - k) z).toArray := by
  have hk := h.lt
  have hs := h.size
  apply Array.ext_getElem?
  intro j
  rw [lay_get? _ _ _ _ (by simp; omega), show (compK key d d.size ++ List.replicate (d.size - k) z).toArray[j]? = (compK key d d.size ++ List.replicate (d.size - k) z)[j]? from List.getElem?_toArray]
  simp only [List.length_replicate]
  by_cases c : j < k
  · rw [if_neg (by omega), List.getElem?_append_left (by rw [h.len]; exact c), h.low j c, getElem!_pos dk j (by omega), Array.getElem?_eq_getElem]
  · rw [List.getElem?_append_right (by rw [h.len]; omega), h.len]
    by_cases c2 : j < d.size
    · rw [if_pos (by omega)]
    · rw [if_neg (by omega), Array.getElem?_eq_none (by omega), List.getElem?_eq_none (by simp; omega)]
theorem compK_sub (d : Array α) : (compK key d d.size).Sublist d.toList := by
  unfold compK
  have h := (List.filter_sublist (l := List.range d.size) (p := keepsK key d)).map (d[·]!)
  rwa [Lib.range_map_get] at h
/-- A list without the elements that are like the one before them. -/
def compFrom : Option κ → List κ → List κ
  | _, [] => []
  | p, x :: xs => if p = some x then compFrom p xs else x :: compFrom (some x) xs
def compL (l : List κ) : List κ := compFrom none l
theorem compFrom_snoc (l : List κ) (x : κ) : ∀ p, compFrom p (l ++ [x]) = compFrom p l ++ (if l.getLast?.or p = some x then [] else [x]) := by
  induction l with
  | nil =>
    intro p
    by_cases h : p = some x <;> simp [compFrom, h]
  | cons y ys ih =>
    intro p
    have e : (y :: ys).getLast?.or p = ys.getLast?.or (some y) := by
      cases ys with
      | nil => rfl
      | cons z zs =>
        rw [List.getLast?_cons_cons]
        cases h : (z :: zs).getLast? with
        | none => simp at h
        | some q => rfl
    rw [e]
    simp only [List.cons_append, compFrom]
    by_cases h : p = some y
    · rw [if_pos h, if_pos h, ih p, h]
    · rw [if_neg h, if_neg h, ih (some y), List.cons_append]
theorem compK_keys (d : Array α) (m : Nat) (hm : m ≤ d.size) : (compK key d m).map key = compL ((d.toList.take m).map key) := by
  induction m with
  | zero => simp [compK, compL, compFrom]
  | succ m ih =>
    rw [compK_succ, List.map_append, ih (by omega)]
    have h1 : d.toList.take (m + 1) = d.toList.take m ++ [d[m]!] := by
      rw [List.take_add_one, getElem!_pos d m (show m < d.size by omega), List.getElem?_eq_getElem (by simp; omega)]
      rfl
    rw [h1, List.map_append, compL, compL, List.map_singleton, compFrom_snoc]
    congr 1
    cases m with
    | zero => simp [keepsK]
    | succ q =>
      have h2 : ((d.toList.take (q + 1)).map key).getLast? = some (key d[q]!) := by
        rw [List.getLast?_map, List.getLast?_take]
        simp [show q < d.size by omega, getElem!_pos]
      rw [h2]
      unfold keepsK
      by_cases h : key d[q + 1]! = key d[q]!
      · simp [h]
      · simp [h, Ne.symm h]
end
/-- SortPackets, as a plain function: sorted, each list once. -/
def sortL (l : List (List Int)) : List (List Int) := l.mergeSort (fun a b => decide (¬ lexC b a < 0))
def sortP (l : List (List Int)) : List (List Int) := compL (sortL l)
theorem sortL_unique {l ys : List (List Int)} (hp : ys.Perm l) (hs : ∀ i j (hi : i < ys.length) (hj : j < ys.length), i < j → ¬ lexC ys[j] ys[i] < 0) : ys = sortL l := by
  have tr : ∀ a b c : List Int, decide (¬ lexC b a < 0) = true → decide (¬ lexC c b < 0) = true → decide (¬ lexC c a < 0) = true := by
    intro a b c h1 h2
    simp only [decide_eq_true_eq] at *
    exact lexC_ntrans c b a h2 h1
  have tot : ∀ a b : List Int, (decide (¬ lexC b a < 0) || decide (¬ lexC a b < 0)) = true := by
    intro a b
    rw [Bool.or_eq_true, decide_eq_true_eq, decide_eq_true_eq, lexC_swap a b]
    omega
  have h1 : ys.Pairwise (fun a b => decide (¬ lexC b a < 0) = true) := by
    rw [List.pairwise_iff_getElem]
    intro i j hi hj hij
    exact decide_eq_true (hs i j hi hj hij)
  have h2 : (sortL l).Pairwise (fun a b => decide (¬ lexC b a < 0) = true) := List.pairwise_mergeSort tr tot l
  have h3 : ys.Perm (sortL l) := hp.trans (List.mergeSort_perm l _).symm
  refine List.Perm.eq_of_pairwise (le := fun a b => decide (¬ lexC b a < 0) = true) ?_ h1 h2 h3
  intro a b _ _ hab hba
  simp only [decide_eq_true_eq] at hab hba
  have := lexC_swap a b
  exact lexC_zero a b (by omega)
section
variable {κ : Type} [DecidableEq κ]
theorem compFrom_mem (x : κ) (l : List κ) : ∀ p : Option κ, (x ∈ compFrom p l ∨ p = some x) ↔ (x ∈ l ∨ p = some x) := by
  induction l with
  | nil => intro p; simp [compFrom]
  | cons y ys ih =>
    intro p
    unfold compFrom
    by_cases h : p = some y
    · rw [if_pos h, ih p]
      constructor
      · rintro (h1 | h1)
        · exact .inl (List.mem_cons_of_mem _ h1)
        · exact .inr h1
      · rintro (h1 | h1)
        · rcases List.mem_cons.1 h1 with rfl | h1
          · exact .inr h
          · exact .inl h1
        · exact .inr h1
    · rw [if_neg h]
      have := ih (some y)
      constructor
      · rintro (h1 | h1)
        · rcases List.mem_cons.1 h1 with rfl | h1
          · exact .inl List.mem_cons_self
          · rcases this.1 (.inl h1) with h2 | h2
            · exact .inl (List.mem_cons_of_mem _ h2)
            · exact .inl (by rw [Option.some.inj h2]; exact List.mem_cons_self)
        · exact .inr h1
      · rintro (h1 | h1)
        · rcases List.mem_cons.1 h1 with rfl | h1
          · exact .inl List.mem_cons_self
          · rcases this.2 (.inl h1) with h2 | h2
            · exact .inl (List.mem_cons_of_mem _ h2)
            · exact .inl (by rw [Option.some.inj h2]; exact List.mem_cons_self)
        · exact .inr h1
theorem compL_mem (x : κ) (l : List κ) : x ∈ compL l ↔ x ∈ l := by
  have := compFrom_mem x l none
  simpa [compL] using this
theorem compFrom_sub (l : List κ) : ∀ p : Option κ, (compFrom p l).Sublist l := by
  induction l with
  | nil => intro p; exact List.Sublist.refl _
  | cons y ys ih =>
    intro p
    unfold compFrom
    by_cases h : p = some y
    · rw [if_pos h]; exact (ih p).cons _
    · rw [if_neg h]; exact (ih _).cons_cons _
end
theorem compFrom_sorted (l : List (List Int)) : ∀ p : Option (List Int), l.Pairwise (fun a b => ¬ lexC b a < 0) → (∀ q, p = some q → ∀ x ∈ l, ¬ lexC x q < 0) →
    (compFrom p l).Pairwise (fun a b => lexC a b < 0) ∧ ∀ q, p = some q → ∀ x ∈ compFrom p l, lexC q x < 0 := by
  induction l with
  | nil => intro p _ _; exact ⟨List.Pairwise.nil, fun q _ x hx => by simp [compFrom] at hx⟩
  | cons y ys ih =>
    intro p hs hp
    rw [List.pairwise_cons] at hs
    unfold compFrom
    by_cases h : p = some y
    · rw [if_pos h]
      exact ih p hs.2 (fun q hq x hx => hp q hq x (List.mem_cons_of_mem _ hx))
    · rw [if_neg h]
      obtain ⟨h1, h2⟩ := ih (some y) hs.2 (fun q hq x hx => by rw [← Option.some.inj hq]; exact hs.1 x hx)
      refine ⟨List.pairwise_cons.2 ⟨fun x hx => h2 y rfl x hx, h1⟩, fun q hq x hx => ?_⟩
      have h3 := hp q hq y List.mem_cons_self
      have h4 : lexC q y < 0 := by
        by_cases e : lexC q y = 0
        · exact absurd (by rw [hq, lexC_zero _ _ e]) h
        · have := lexC_swap q y; omega
      rcases List.mem_cons.1 hx with rfl | hx
      · exact h4
      · exact lexC_trans _ _ _ h4 (h2 y rfl x hx)
theorem sortL_weak (l : List (List Int)) : (sortL l).Pairwise (fun a b => ¬ lexC b a < 0) := by
  have tr : ∀ a b c : List Int, decide (¬ lexC b a < 0) = true → decide (¬ lexC c b < 0) = true → decide (¬ lexC c a < 0) = true := by
    intro a b c h1 h2
    simp only [decide_eq_true_eq] at *
    exact lexC_ntrans c b a h2 h1
  have tot : ∀ a b : List Int, (decide (¬ lexC b a < 0) || decide (¬ lexC a b < 0)) = true := by
    intro a b
    rw [Bool.or_eq_true, decide_eq_true_eq, decide_eq_true_eq, lexC_swap a b]
    omega
  exact (List.pairwise_mergeSort tr tot l).imp (fun h => of_decide_eq_true h)
theorem sortP_sorted (l : List (List Int)) : (sortP l).Pairwise (fun a b => lexC a b < 0) := (compFrom_sorted (sortL l) none (sortL_weak l) (fun q hq => by cases hq)).1
theorem sortP_mem (x : List Int) (l : List (List Int)) : x ∈ sortP l ↔ x ∈ l := by
  rw [sortP, compL_mem, sortL, (List.mergeSort_perm l _).mem_iff]
theorem lexC_nrefl (a : List Int) : ¬ lexC a a < 0 := by rw [lexC_refl]; omega
theorem lexC_asymm (a b : List Int) (h : lexC a b < 0) (k : lexC b a < 0) : False := lexC_nrefl a (lexC_trans a b a h k)
theorem strict_nodup {l : List (List Int)} (h : l.Pairwise (fun a b => lexC a b < 0)) : l.Nodup := h.imp (fun hab e => by rw [e] at hab; exact lexC_nrefl _ hab)
theorem strict_unique {l m : List (List Int)} (hl : l.Pairwise (fun a b => lexC a b < 0)) (hm : m.Pairwise (fun a b => lexC a b < 0)) (h : ∀ x, x ∈ l ↔ x ∈ m) : l = m := by
  induction l generalizing m with
  | nil =>
    cases m with
    | nil => rfl
    | cons y ys => exact absurd ((h y).2 List.mem_cons_self) (by simp)
  | cons x xs ih =>
    cases m with
    | nil => exact absurd ((h x).1 List.mem_cons_self) (by simp)
    | cons y ys =>
      rw [List.pairwise_cons] at hl hm
      have e : x = y := by
        rcases List.mem_cons.1 ((h x).1 List.mem_cons_self) with e | h1
        · exact e
        · rcases List.mem_cons.1 ((h y).2 List.mem_cons_self) with e | h2
          · exact e.symm
          · exact (lexC_asymm _ _ (hm.1 x h1) (hl.1 y h2)).elim
      subst e
      congr 1
      refine ih hl.2 hm.2 (fun z => ?_)
      constructor
      · intro hz
        rcases List.mem_cons.1 ((h z).1 (List.mem_cons_of_mem _ hz)) with e | h1
        · subst e; exact (lexC_nrefl _ (hl.1 z hz)).elim
        · exact h1
      · intro hz
        rcases List.mem_cons.1 ((h z).2 (List.mem_cons_of_mem _ hz)) with e | h1
        · subst e; exact (lexC_nrefl _ (hm.1 z hz)).elim
        · exact h1
theorem sortP_length (l : List (List Int)) : (sortP l).length = l.length ↔ l.Nodup := by
  have hp : (sortL l).Perm l := List.mergeSort_perm l _
  have hs : (sortP l).Sublist (sortL l) := compFrom_sub _ _
  constructor
  · intro h
    have e : sortP l = sortL l := hs.eq_of_length (by rw [h, hp.length_eq])
    exact hp.nodup_iff.1 (e ▸ strict_nodup (sortP_sorted l))
  · intro h
    have h2 : (sortL l).Nodup := hp.nodup_iff.2 h
    have h3 : (sortL l).Pairwise (fun a b => lexC a b < 0) := by
      have := (sortL_weak l).and h2
      refine this.imp (fun {a b} hab => ?_)
      by_cases e : lexC a b = 0
      · exact absurd (lexC_zero _ _ e) hab.2
      · have h4 := lexC_swap a b
        have h5 := hab.1
        omega
    rw [← strict_unique h3 (sortP_sorted l) (fun x => by rw [sortP_mem, hp.mem_iff]), hp.length_eq]
end Go.Proofs.Ytfnllojppkjgcaa.F
end
section
/- Laid by a program of this claim's own. What the Go function does, as a Lean function, and the proof that the Go code does just that; Lean checks it. -/
namespace Go.Proofs.Ytfnllojppkjgcaa.F
open Go.RowKit Go.Proofs.YtfnllojppkjgcaaW.PrintWords Go.Proofs.YtfnllojppkjgcaaW.PrintLast Go.Proofs.YtfnllojppkjgcaaW.PrintMore
attribute [local go_sem] max2_int min2_int max_two min_two max_three min_three max_four min_four   -- for this text's walks alone
set_option linter.unusedVariables false
set_option linter.unusedSimpArgs false
def errW : Option Int → Value
  | none => .nilIface
  | some c => .iface 0 (.int .i64 c)
theorem errW_none : errW none = .nilIface := rfl
theorem errW_some (c : Int) : errW (some c) = .iface 0 (.int .i64 c) := rfl
theorem info3 : (Try.prog.info? 3).map (fun i => (i.zero, i.size, i.bytes)) = some (some (.int .i64 0), 1, 8) := by kernel_rfl
theorem info31 : (Try.prog.info? 31).map (fun i => (i.zero, i.size, i.bytes)) = some (some (.slice none 0 0), 1, 24) := by kernel_rfl
-- the values' own types
def rd_L1 (xs : List (List Int)) (i : Int) : (List Int) := xs.getD i.toNat ([] : List Int)
theorem at_L1 {w : World} {A : Option Addr} {n : Nat} {xs : List (List Int)} (h : Kd.C (Kd.slice 3 (Kd.int .i64)) w A n xs) (i : Int) (h0 : 0 ≤ i) (h1 : i < n) : ∃ ad A0 c0, A = some ad ∧ w.cell? (ad.add i.toNat) = some (.slice A0 (rd_L1 xs i).length c0) ∧ (rd_L1 xs i).length ≤ c0 ∧ (Kd.int .i64).C w A0 (rd_L1 xs i).length (rd_L1 xs i) := by
  obtain ⟨ad, c, e, _, hK, hc0⟩ := Kd.C_get h ([] : List Int) i h0 h1
  have hc : ∀ j u, c[j]? = some u → w.cell? (ad.add (i.toNat * 1 + j)) = some u := hc0
  obtain ⟨A0, c0, rfl, l0, g0⟩ := hK
  exact ⟨ad, A0, c0, e, by have hq := hc 0 _ rfl; rwa [Nat.mul_one, Nat.add_zero] at hq, l0, g0⟩
end Go.Proofs.Ytfnllojppkjgcaa.F
end
section
/- Laid by a program of this claim's own. What the Go function does, as a Lean function, and the proof that the Go code does just that; Lean checks it. -/
namespace Go.Proofs.Ytfnllojppkjgcaa.F
open Go.RowKit Go.Proofs.YtfnllojppkjgcaaW.PrintWords Go.Proofs.YtfnllojppkjgcaaW.PrintLast Go.Proofs.YtfnllojppkjgcaaW.PrintMore
attribute [local go_sem] max2_int min2_int max_two min_two max_three min_three max_four min_four   -- for this text's walks alone
set_option linter.unusedVariables false
set_option linter.unusedSimpArgs false
/-- A state of type 91 at block g of W; what its slices lead to came in by w0. -/
def IsS91 (w0 W : World) (g : Nat) (f0 : List Int) (f1 : Int) (f2 : Int) : Prop := ∃ A0 c0, W.heap[g]? = some (.cells #[.slice A0 f0.length c0, .int .i64 f1, .int .i64 f2] 91 (0, 0)) ∧ w0.heap.size ≤ g ∧ Kd.C (Kd.int .u8) w0 A0 f0.length f0
theorem IsS91.grown {w0 W : World} {g : Nat} {f0 : List Int} {f1 : Int} {f2 : Int} {W1 : World} {row : Option Nat} (h : IsS91 w0 W g f0 f1 f2) (hw : W.grownBy W1 row) (hne : some g ≠ row) : IsS91 w0 W1 g f0 f1 f2 := by
  obtain ⟨A0, c0, hb, hg, hr0⟩ := h
  exact ⟨A0, c0, blk_grown hb hw hne, hg, hr0⟩
theorem IsS91.kept {w0 W : World} {g : Nat} {f0 : List Int} {f1 : Int} {f2 : Int} {W1 : World} {S : Nat → Prop} (h : IsS91 w0 W g f0 f1 f2) (hk : Kept W W1 S) (hne : ¬ S g) : IsS91 w0 W1 g f0 f1 f2 := by
  obtain ⟨A0, c0, hb, hg, hr0⟩ := h
  exact ⟨A0, c0, blk_kept hb hk hne, hg, hr0⟩
theorem IsS91.below {w0 W : World} {g : Nat} {f0 : List Int} {f1 : Int} {f2 : Int} {W1 : World} (h : IsS91 w0 W g f0 f1 f2) (hw : Below W.heap.size W W1) : IsS91 w0 W1 g f0 f1 f2 := h.grown (grown_of_below hw none) (by simp)
theorem IsS91.alloc {w0 W : World} {g : Nat} {f0 : List Int} {f1 : Int} {f2 : Int} (h : IsS91 w0 W g f0 f1 f2) (o : Obj) : IsS91 w0 (W.alloc o) g f0 f1 f2 := h.below (below_alloc (Below.refl _ _) o)
theorem IsS91.drewN {w0 W : World} {g : Nat} {f0 : List Int} {f1 : Int} {f2 : Int} (h : IsS91 w0 W g f0 f1 f2) (m : Nat) : IsS91 w0 (W.drewN m) g f0 f1 f2 := h
theorem IsS91.drew {w0 W : World} {g : Nat} {f0 : List Int} {f1 : Int} {f2 : Int} (h : IsS91 w0 W g f0 f1 f2) : IsS91 w0 W.drew g f0 f1 f2 := h
theorem IsS91.at_ {w0 W : World} {g : Nat} {f0 : List Int} {f1 : Int} {f2 : Int} {w' : World} {m : Nat} (hq : W.drewN m = w') (h : IsS91 w0 W g f0 f1 f2) : IsS91 w0 w' g f0 f1 f2 := by subst hq; exact IsS91.drewN h m
theorem IsS91.apart {w0 W : World} {g : Nat} {f0 : List Int} {f1 : Int} {f2 : Int} {α : Type} {d : Kd α} {e : Nat} {base : Nat} {ok : Nat → Prop} {v : Value} {xs : List α} (h : IsS91 w0 W g f0 f1 f2) (ho : d.R e W base ok v xs) (ht : ∀ q, q ∈ e :: d.E → q ≠ 91) : d.R e W base (fun k => ok k ∧ k ≠ g) v xs := by
  obtain ⟨A0, c0, hb, hg, hr0⟩ := h
  exact Kd.R_types ho hb ht
theorem IsS91.own_ne {w0 W : World} {g : Nat} {f0 : List Int} {f1 : Int} {f2 : Int} {α : Type} {d : Kd α} {e : Nat} {base : Nat} {ok : Nat → Prop} {v : Value} {xs : List α} (h : IsS91 w0 W g f0 f1 f2) (ho : d.R e W base ok v xs) (ht : e ≠ 91) : some g ≠ v.ownBlock := by
  obtain ⟨A0, c0, hb, hg, hr0⟩ := h
  exact Kd.R_ne ho hb ht
theorem IsS91.lt {w0 W : World} {g : Nat} {f0 : List Int} {f1 : Int} {f2 : Int} (h : IsS91 w0 W g f0 f1 f2) : g < W.heap.size := by
  obtain ⟨A0, c0, hb, hg, hr0⟩ := h
  exact blk_lt hb
theorem IsS91.ge {w0 W : World} {g : Nat} {f0 : List Int} {f1 : Int} {f2 : Int} (h : IsS91 w0 W g f0 f1 f2) : w0.heap.size ≤ g := by
  obtain ⟨A0, c0, hb, hg, hr0⟩ := h
  exact hg
theorem IsS91.far {w0 W : World} {g : Nat} {f0 : List Int} {f1 : Int} {f2 : Int} {p : Addr} (h : IsS91 w0 W g f0 f1 f2) (hne : g ≠ p.block) (u : Value) : IsS91 w0 (W.setCell p u) g f0 f1 f2 := by
  obtain ⟨A0, c0, hb, hg, hr0⟩ := h
  exact ⟨A0, c0, blk_far hb hne u, hg, hr0⟩
theorem cellS91_0 {W : World} {g : Nat} {A0 : Option Addr} {c0 : Nat} {f0 : List Int} {f1 : Int} {f2 : Int} (h : W.heap[g]? = some (.cells #[.slice A0 f0.length c0, .int .i64 f1, .int .i64 f2] 91 (0, 0))) : W.cell? ⟨g, 0, none⟩ = some (.slice A0 f0.length c0) := (blk_cell h 0).trans rfl
theorem cellS91_1 {W : World} {g : Nat} {A0 : Option Addr} {c0 : Nat} {f0 : List Int} {f1 : Int} {f2 : Int} (h : W.heap[g]? = some (.cells #[.slice A0 f0.length c0, .int .i64 f1, .int .i64 f2] 91 (0, 0))) : W.cell? ⟨g, 1, none⟩ = some (.int .i64 f1) := (blk_cell h 1).trans rfl
theorem IsS91.set_1 {w0 W : World} {g : Nat} {f0 : List Int} {f1 : Int} {f2 : Int} (h : IsS91 w0 W g f0 f1 f2) (x : Int) : IsS91 w0 (W.setCell ⟨g, 1, none⟩ (.int .i64 x)) g f0 x f2 := by
  obtain ⟨A0, c0, hb, hg, hr0⟩ := h
  exact ⟨A0, c0, by simpa using blk_set hb 1 (.int .i64 x), hg, hr0⟩
theorem cellS91_2 {W : World} {g : Nat} {A0 : Option Addr} {c0 : Nat} {f0 : List Int} {f1 : Int} {f2 : Int} (h : W.heap[g]? = some (.cells #[.slice A0 f0.length c0, .int .i64 f1, .int .i64 f2] 91 (0, 0))) : W.cell? ⟨g, 2, none⟩ = some (.int .i64 f2) := (blk_cell h 2).trans rfl
theorem IsS91.set_2 {w0 W : World} {g : Nat} {f0 : List Int} {f1 : Int} {f2 : Int} (h : IsS91 w0 W g f0 f1 f2) (x : Int) : IsS91 w0 (W.setCell ⟨g, 2, none⟩ (.int .i64 x)) g f0 f1 x := by
  obtain ⟨A0, c0, hb, hg, hr0⟩ := h
  exact ⟨A0, c0, by simpa using blk_set hb 2 (.int .i64 x), hg, hr0⟩
theorem IsS91.new (w0 W : World) (A0 : Option Addr) (c0 : Nat) (f0 : List Int) (f1 : Int) (f2 : Int) (hB : Below w0.heap.size w0 W) (hr0 : Kd.C (Kd.int .u8) w0 A0 f0.length f0) : IsS91 w0 (W.alloc (.cells #[.slice A0 f0.length c0, .int .i64 f1, .int .i64 f2] 91)) W.heap.size f0 f1 f2 := ⟨A0, c0, by simpa using heap_alloc_new W _, hB.size, hr0⟩
/-! ### spec_l01Byte: function 70 -/
def spec_l01Byte.f (s0_0 : List Int) (s0_1 : Int) (s0_2 : Int) : Option (Int × Int × Int) := if s0_1 < (s0_0.length : Int) then (if 0 ≤ s0_1 then (some (Go.bits .and .i64 (wrap64 ((Go.bits .and .i64 (Go.bits .xor .i64 ((wrap64 ((wrap64 (s0_2 * 6364136223846793005)) + 1442695040888963407)) / 8589934592) ((wrap64 ((wrap64 (s0_2 * 6364136223846793005)) + 1442695040888963407)) / 35184372088832)) 255) + (wrap64 (rd s0_0 s0_1)))) 255, wrap64 (s0_1 + 1), wrap64 ((wrap64 (s0_2 * 6364136223846793005)) + 1442695040888963407))) else (none)) else (some (Go.bits .and .i64 (Go.bits .xor .i64 ((wrap64 ((wrap64 (s0_2 * 6364136223846793005)) + 1442695040888963407)) / 8589934592) ((wrap64 ((wrap64 (s0_2 * 6364136223846793005)) + 1442695040888963407)) / 35184372088832)) 255, s0_1, wrap64 ((wrap64 (s0_2 * 6364136223846793005)) + 1442695040888963407)))
set_option maxHeartbeats 8000000 in
set_option maxRecDepth 100000 in
theorem spec_l01Byte.calls (g : Nat) (s0_0 : List Int) (s0_1 : Int) (s0_2 : Int) (r1 : Int) (r2 : Int) (r3 : Int) (w0 w : World) (hI : IsS91 w0 w g s0_0 s0_1 s0_2) (hB : Below w0.heap.size w0 w) (h : spec_l01Byte.f s0_0 s0_1 s0_2 = some (r1, r2, r3)) :
    Calls Try.prog 70 #[.pointer (some ⟨g, 0, none⟩)] w fun e w' => e = .returned (.int .i64 r1) ∧ IsS91 w0 w' g s0_0 r2 r3 ∧ Below w0.heap.size w0 w' ∧ KeepBut w w' g none := by
  have HI0 := Aside0.mk hI
  have HK := Aside0.mk (KeepBut.refl w g none)
  have HL := Aside0.mk hB.size
  clear hI
  have HW0 := Aside0.mk hB.size
  have HB := Aside0.mk hB
  clear hB
  have H : (if s0_1 < (s0_0.length : Int) then (if 0 ≤ s0_1 then (some (Go.bits .and .i64 (wrap64 ((Go.bits .and .i64 (Go.bits .xor .i64 ((wrap64 ((wrap64 (s0_2 * 6364136223846793005)) + 1442695040888963407)) / 8589934592) ((wrap64 ((wrap64 (s0_2 * 6364136223846793005)) + 1442695040888963407)) / 35184372088832)) 255) + (wrap64 (rd s0_0 s0_1)))) 255, wrap64 (s0_1 + 1), wrap64 ((wrap64 (s0_2 * 6364136223846793005)) + 1442695040888963407))) else (none)) else (some (Go.bits .and .i64 (Go.bits .xor .i64 ((wrap64 ((wrap64 (s0_2 * 6364136223846793005)) + 1442695040888963407)) / 8589934592) ((wrap64 ((wrap64 (s0_2 * 6364136223846793005)) + 1442695040888963407)) / 35184372088832)) 255, s0_1, wrap64 ((wrap64 (s0_2 * 6364136223846793005)) + 1442695040888963407)))) = some (r1, r2, r3) := h
  clear h
  by_cases c2 : s0_1 < (s0_0.length : Int)
  · rw [if_pos c2] at H
    have c2b0 : decide (s0_1 < (s0_0.length : Int)) = true := decide_eq_true c2
    clear c2
    by_cases c3 : 0 ≤ s0_1
    · rw [if_pos c3] at H
      have c3b0 : decide (0 ≤ s0_1) = true := decide_eq_true c3
      clear c3
      simp only [Option.some.injEq, Prod.mk.injEq] at H
      obtain ⟨rfl, rfl, rfl⟩ := H
      obtain ⟨ASz4_0, cSz4_0, HGz4, hgz4, HSz4_0⟩ := HI0.out
      have hcz4_0 := cellS91_0 HGz4
      have hcz4_1 := cellS91_1 HGz4
      have hcz4_2 := cellS91_2 HGz4
      have hfz4_1 := blk_frozen HGz4 1
      have hfz4_2 := blk_frozen HGz4 2
      clear HGz4 hgz4
      have p441 : 0 ≤ (s0_1 : Int) := of_decide_eq_true (by first | (with_reducible assumption) | assumption)
      have q441 : s0_1 < (s0_0.length : Int) := of_decide_eq_true (by first | (with_reducible assumption) | assumption)
      obtain ⟨ad441, e441, hx441_0⟩ := Kd.at_int HSz4_0 s0_1 p441 q441
      cases e441
      have hn441_0 : ad441.block ≠ g := Nat.ne_of_lt (Nat.lt_of_lt_of_le (by have := World.block_lt_of_cell? _ _ hx441_0; first | rwa [add_block] at this | exact this) (IsS91.ge HI0.out))
      replace hx441_0 := pw_cell_below HB.out hx441_0
      replace hx441_0 := (cell_far (p := ⟨g, 2, none⟩) (by first | (rw [add_block]; exact hn441_0) | (show (Addr.add _ _).block ≠ _; rw [add_block]; exact hn441_0) | exact hn441_0) (.int .i64 (wrap64 ((wrap64 (s0_2 * 6364136223846793005)) + 1442695040888963407)))).trans hx441_0
      (try have hy441_0 := fun (n_ : Nat) => (show (((w.drewN n_).setCell ⟨g, 2, none⟩ (.int .i64 (wrap64 ((wrap64 (s0_2 * 6364136223846793005)) + 1442695040888963407))))).cell? _ = some _ from hx441_0))
      clear hn441_0
      replace p441 := eq_true p441
      replace q441 := eq_true q441
      go_enter Try.func70, Try.ntmps70
      go_wp2
      repeat (go_quiet (fail); try go_wp2)
      go_ret
      exact ⟨by first | rfl | (simp [errW_none, errW_some] <;> rfl) | (simp [*, errW_none, errW_some] <;> rfl), by repeat (first | (with_reducible first | exact HI0.out | apply IsS91.alloc | apply IsS91.drewN | apply IsS91.drew | apply IsS91.set_1 | apply IsS91.set_2) | exact HI0.out), by repeat (first | (with_reducible first | exact HB.out | apply below_alloc | apply pw_below_drewN | apply below_drew1 | refine below_set ?_ (IsS91.ge HI0.out)) | exact HB.out), by repeat (first | (with_reducible first | exact HK.out | apply KeepBut.set_ | apply keep_drewN | apply keep_drew | apply keep_alloc) | exact HK.out)⟩
    · rw [if_neg c3] at H
      exact absurd H (by simp)
  · rw [if_neg c2] at H
    have c2b0 : decide (s0_1 < (s0_0.length : Int)) = false := decide_eq_false c2
    clear c2
    simp only [Option.some.injEq, Prod.mk.injEq] at H
    obtain ⟨rfl, rfl, rfl⟩ := H
    obtain ⟨ASz5_0, cSz5_0, HGz5, hgz5, HSz5_0⟩ := HI0.out
    have hcz5_0 := cellS91_0 HGz5
    have hcz5_1 := cellS91_1 HGz5
    have hcz5_2 := cellS91_2 HGz5
    have hfz5_1 := blk_frozen HGz5 1
    have hfz5_2 := blk_frozen HGz5 2
    clear HGz5 hgz5
    go_enter Try.func70, Try.ntmps70
    go_wp2
    repeat (go_quiet (fail); try go_wp2)
    go_ret
    exact ⟨by first | rfl | (simp [errW_none, errW_some] <;> rfl) | (simp [*, errW_none, errW_some] <;> rfl), by repeat (first | (with_reducible first | exact HI0.out | apply IsS91.alloc | apply IsS91.drewN | apply IsS91.drew | apply IsS91.set_1 | apply IsS91.set_2) | exact HI0.out), by repeat (first | (with_reducible first | exact HB.out | apply below_alloc | apply pw_below_drewN | apply below_drew1 | refine below_set ?_ (IsS91.ge HI0.out)) | exact HB.out), by repeat (first | (with_reducible first | exact HK.out | apply KeepBut.set_ | apply keep_drewN | apply keep_drew | apply keep_alloc) | exact HK.out)⟩
end Go.Proofs.Ytfnllojppkjgcaa.F
end
section
/- Laid by a program of this claim's own. What the Go function does, as a Lean function, and the proof that the Go code does just that; Lean checks it. -/
namespace Go.Proofs.Ytfnllojppkjgcaa.F
open Go.RowKit Go.Proofs.YtfnllojppkjgcaaW.PrintWords Go.Proofs.YtfnllojppkjgcaaW.PrintLast Go.Proofs.YtfnllojppkjgcaaW.PrintMore
attribute [local go_sem] max2_int min2_int max_two min_two max_three min_three max_four min_four   -- for this text's walks alone
set_option linter.unusedVariables false
set_option linter.unusedSimpArgs false
/-! ### spec_l01New: function 68 -/
def spec_l01New.l0 : Nat → List Int → Int → Int → Option (List Int × Int × Int)
  | 0, _, _, _ => none
  | k + 1, x0, x3, x4 => if x4 < (x0.length : Int) then (if x4 < 4000 then (if 0 ≤ x4 then (spec_l01New.l0 k x0 (Go.bits .and .i64 (wrap64 ((wrap64 ((wrap64 (x3 * 101)) + (wrap64 (rd x0 x4)))) + 7)) 1073741823) (wrap64 (x4 + 1))) else (none)) else (some (x0, 0, x3))) else (some (x0, 0, x3))
def spec_l01New.f (k : Nat) (l0 : List Int) : Option (List Int × Int × Int) := spec_l01New.l0 k l0 (wrap64 (2070 + (l0.length : Int))) 0
set_option maxHeartbeats 8000000 in
set_option maxRecDepth 100000 in
theorem spec_l01New.calls (k : Nat) (A0 : Option Addr) (c0 : Nat) (l0 : List Int) (r1 : List Int) (r2 : Int) (r3 : Int) (w0 w : World) (hB : Below w0.heap.size w0 w) (hr0 : Kd.C (Kd.int .u8) w0 A0 l0.length l0) (hc0 : l0.length ≤ c0) (h : spec_l01New.f k l0 = some (r1, r2, r3)) :
    Calls Try.prog 68 #[.slice A0 l0.length c0] w fun e w' => ∃ g_ : Nat, e = .returned (.pointer (some ⟨g_, 0, none⟩)) ∧ IsS91 w0 w' g_ r1 r2 r3 ∧ Below w0.heap.size w0 w' ∧ Below w.heap.size w w' := by
  have hu91 := Try.underlying91
  have HR0 := Aside0.mk hr0
  have HC0 := Aside0.mk hc0
  clear hr0 hc0
  have HBW := Aside0.mk (Below.refl w.heap.size w)
  have HW0 := Aside0.mk hB.size
  have HB := Aside0.mk hB
  clear hB
  have H : (spec_l01New.l0 k l0 (wrap64 (2070 + (l0.length : Int))) 0) = some (r1, r2, r3) := h
  clear h
  have H' := Aside0.mk H
  clear H
  go_enter Try.func68, Try.ntmps68
  go_wp2
  go_loopg [3, 4] k (fun kq v3 v4 w' => ∃ (x3_1 : Int) (x4_1 : Int), v3 = .int .i64 x3_1 ∧ v4 = .int .i64 x4_1 ∧ Aside0 (spec_l01New.l0 kq l0 x3_1 x4_1 = some (r1, r2, r3)) ∧ Aside0 (kq ≤ k) ∧ Aside0 (Below w0.heap.size w0 w') ∧ Aside0 (Below w.heap.size w w'))
  case atStart => exact ⟨(wrap64 (2070 + (l0.length : Int))), (0), (by first | rfl | (simp; done) | (simp [*]; done)), (by first | rfl | (simp; done) | (simp [*]; done)), H', ⟨Nat.le_refl _⟩, ⟨by repeat (first | (with_reducible first | exact HB.out | apply below_alloc | apply pw_below_drewN | apply below_drew1) | exact HB.out)⟩, ⟨by repeat (first | exact HBW.out | apply below_alloc | apply pw_below_drewN | apply below_drew1)⟩⟩
  case round =>
    clear H'
    obtain ⟨x3_1, x4_1, rfl, rfl, HA, HK1, HB, HBW⟩ := hrel
    cases gk with
    | zero => exact absurd HA.out (by simp [spec_l01New.l0])
    | succ k1 =>
      have H := HA.out
      clear HA
      simp only [spec_l01New.l0] at H
      by_cases c2 : x4_1 < (l0.length : Int)
      · rw [if_pos c2] at H
        have c2b0 : decide (x4_1 < (l0.length : Int)) = true := decide_eq_true c2
        clear c2
        by_cases c3 : x4_1 < 4000
        · rw [if_pos c3] at H
          have c3b0 : decide (x4_1 < 4000) = true := decide_eq_true c3
          clear c3
          by_cases c4 : 0 ≤ x4_1
          · rw [if_pos c4] at H
            have c4b0 : decide (0 ≤ x4_1) = true := decide_eq_true c4
            clear c4
            have H' := Aside0.mk H
            clear H
            have p476 : 0 ≤ (x4_1 : Int) := of_decide_eq_true (by first | (with_reducible assumption) | assumption)
            have q476 : x4_1 < (l0.length : Int) := of_decide_eq_true (by first | (with_reducible assumption) | assumption)
            obtain ⟨ad476, e476, hx476_0⟩ := Kd.at_int HR0.out x4_1 p476 q476
            cases e476
            replace hx476_0 := pw_cell_below HB.out hx476_0
            replace p476 := eq_true p476
            replace q476 := eq_true q476
            go_wp2
            go_roundg k1
            case measure => have := HK1.out; omega
            case rel => exact ⟨(Go.bits .and .i64 (wrap64 ((wrap64 ((wrap64 (x3_1 * 101)) + (wrap64 (rd l0 x4_1)))) + 7)) 1073741823), (wrap64 (x4_1 + 1)), (by first | rfl | (simp; done) | (simp [*]; done)), (by first | rfl | (simp; done) | (simp [*]; done)), H', ⟨by have := HK1.out; omega⟩, ⟨by repeat (first | (with_reducible first | exact HB.out | apply below_alloc | apply pw_below_drewN | apply below_drew1) | exact HB.out)⟩, ⟨by repeat (first | exact HBW.out | apply below_alloc | apply pw_below_drewN | apply below_drew1)⟩⟩
          · rw [if_neg c4] at H
            exact absurd H (by simp)
        · rw [if_neg c3] at H
          have c3b0 : decide (x4_1 < 4000) = false := decide_eq_false c3
          clear c3
          simp only [Option.some.injEq, Prod.mk.injEq] at H
          obtain ⟨rfl, rfl, rfl⟩ := H
          go_wp2_with (first | ((with_reducible refine gate_dst (N := 31) rfl ?_); refine box_event ?hg (N := 31) ?hd (cs := #[.slice A0 l0.length c0, .int .i64 0, .int .i64 x3_1]) (t := 91) ?hr ?_; (case hd => rfl); (case hg => rfl); (case hr => first | (go_simp; done) | (go_simp; rfl)); intro gb477 hg w5 hbox hb; have n0_ := Aside0.mk (below_step HBW.out hb); have n1_ := Aside0.mk (below_step (by repeat (first | (with_reducible first | exact HB.out | apply below_alloc | apply pw_below_drewN | apply below_drew1) | exact HB.out)) hb); have n2_ := Aside0.mk (hbox); have n3_ := Aside0.mk ((by rw [hg]; exact (below_size (by repeat (first | (with_reducible first | exact HBW.out | apply below_alloc | apply pw_below_drewN | apply below_drew1) | exact HBW.out))) : w.heap.size ≤ gb477)); have n4_ := Aside0.mk ((Nat.le_trans HW0.out (by rw [hg]; exact (below_size (by repeat (first | (with_reducible first | exact HBW.out | apply below_alloc | apply pw_below_drewN | apply below_drew1) | exact HBW.out))) : w.heap.size ≤ gb477) : w0.heap.size ≤ gb477)); clear HBW; clear HB; have HBW := n0_; have HB := n1_; have BK477 := n2_; have GW477 := n3_; have GE477 := n4_; clear n0_ n1_ n2_ n3_ n4_; clear hb hbox hg))
          go_ret
          exact ⟨_, rfl, (show IsS91 w0 _ gb477 l0 0 x3_1 from ⟨_, _, by (with_reducible repeat (first | refine blk_drewN ?_ _ | refine blk_drew ?_ | refine blk_alloc ?_ _)); exact BK477.out, GE477.out, HR0.out⟩), by repeat (first | (with_reducible first | exact HB.out | apply below_alloc | apply pw_below_drewN | apply below_drew1 | refine below_set ?_ GE477.out) | exact HB.out), by repeat (first | (with_reducible first | exact HBW.out | apply below_alloc | apply pw_below_drewN | apply below_drew1 | refine below_set ?_ GW477.out) | exact HBW.out)⟩
      · rw [if_neg c2] at H
        have c2b0 : decide (x4_1 < (l0.length : Int)) = false := decide_eq_false c2
        clear c2
        simp only [Option.some.injEq, Prod.mk.injEq] at H
        obtain ⟨rfl, rfl, rfl⟩ := H
        go_wp2_with (first | ((with_reducible refine gate_dst (N := 31) rfl ?_); refine box_event ?hg (N := 31) ?hd (cs := #[.slice A0 l0.length c0, .int .i64 0, .int .i64 x3_1]) (t := 91) ?hr ?_; (case hd => rfl); (case hg => rfl); (case hr => first | (go_simp; done) | (go_simp; rfl)); intro gb478 hg w6 hbox hb; have n0_ := Aside0.mk (below_step HBW.out hb); have n1_ := Aside0.mk (below_step (by repeat (first | (with_reducible first | exact HB.out | apply below_alloc | apply pw_below_drewN | apply below_drew1) | exact HB.out)) hb); have n2_ := Aside0.mk (hbox); have n3_ := Aside0.mk ((by rw [hg]; exact (below_size (by repeat (first | (with_reducible first | exact HBW.out | apply below_alloc | apply pw_below_drewN | apply below_drew1) | exact HBW.out))) : w.heap.size ≤ gb478)); have n4_ := Aside0.mk ((Nat.le_trans HW0.out (by rw [hg]; exact (below_size (by repeat (first | (with_reducible first | exact HBW.out | apply below_alloc | apply pw_below_drewN | apply below_drew1) | exact HBW.out))) : w.heap.size ≤ gb478) : w0.heap.size ≤ gb478)); clear HBW; clear HB; have HBW := n0_; have HB := n1_; have BK478 := n2_; have GW478 := n3_; have GE478 := n4_; clear n0_ n1_ n2_ n3_ n4_; clear hb hbox hg))
        go_ret
        exact ⟨_, rfl, (show IsS91 w0 _ gb478 l0 0 x3_1 from ⟨_, _, by (with_reducible repeat (first | refine blk_drewN ?_ _ | refine blk_drew ?_ | refine blk_alloc ?_ _)); exact BK478.out, GE478.out, HR0.out⟩), by repeat (first | (with_reducible first | exact HB.out | apply below_alloc | apply pw_below_drewN | apply below_drew1 | refine below_set ?_ GE478.out) | exact HB.out), by repeat (first | (with_reducible first | exact HBW.out | apply below_alloc | apply pw_below_drewN | apply below_drew1 | refine below_set ?_ GW478.out) | exact HBW.out)⟩
end Go.Proofs.Ytfnllojppkjgcaa.F
-- MADE BEHIND A LOOP
end
section
/- Laid by a program of this claim's own. What the Go function does, as a Lean function, and the proof that the Go code does just that; Lean checks it. -/
namespace Go.Proofs.Ytfnllojppkjgcaa.F
open Go.RowKit Go.Proofs.YtfnllojppkjgcaaW.PrintWords Go.Proofs.YtfnllojppkjgcaaW.PrintLast Go.Proofs.YtfnllojppkjgcaaW.PrintMore
attribute [local go_sem] max2_int min2_int max_two min_two max_three min_three max_four min_four   -- for this text's walks alone
set_option linter.unusedVariables false
set_option linter.unusedSimpArgs false
/-! ### spec_l23New: function 69 -/
def spec_l23New.l0 : Nat → Int → List Int → Int → Int → Int → Option (List Int × Int × Int)
  | 0, _, _, _, _, _ => none
  | k + 1, x1, f0, f1, f2, x6 => if x6 < x1 then ((spec_l01Byte.f f0 f1 f2).bind fun b => (spec_l23New.l0 k x1 f0 b.2.1 b.2.2 (wrap64 (x6 + 1)))) else (some (f0, f1, f2))
def spec_l23New.f (k : Nat) (l0 : List Int) (a1 : Int) : Option (List Int × Int × Int) := (spec_l01New.f k l0).bind fun s => spec_l23New.l0 k a1 s.1 s.2.1 s.2.2 0
set_option maxHeartbeats 8000000 in
set_option maxRecDepth 100000 in
theorem spec_l23New.calls (k : Nat) (A0 : Option Addr) (c0 : Nat) (l0 : List Int) (a1 : Int) (r1 : List Int) (r2 : Int) (r3 : Int) (w : World) (hr0 : Kd.C (Kd.int .u8) w A0 l0.length l0) (hc0 : l0.length ≤ c0) (h : spec_l23New.f k l0 a1 = some (r1, r2, r3)) :
    Calls Try.prog 69 #[.slice A0 l0.length c0, .int .i64 a1] w fun e w' => ∃ g_ : Nat, e = .returned (.pointer (some ⟨g_, 0, none⟩)) ∧ IsS91 w w' g_ r1 r2 r3 ∧ Below w.heap.size w w' := by
  have HR0 := Aside0.mk hr0
  have HC0 := Aside0.mk hc0
  clear hr0 hc0
  obtain ⟨⟨t1, t2, t3⟩, A1, H⟩ := Option.bind_eq_some_iff.mp h
  have A1 := Aside0.mk A1
  have H' := Aside0.mk H
  clear h H
  have HB := Aside0.mk (Below.refl w.heap.size w)
  go_enter Try.func69, Try.ntmps69
  go_wp2_with (go_at_call 68; (with_reducible refine (spec_l01New.calls k A0 c0 l0 t1 t2 t3 w _ ?side1 ?side2 HC0.out A1.out).mono ?_); (case side1 => repeat (first | exact HB.out | apply below_alloc | apply pw_below_drewN | apply below_drew1)); (case side2 => exact HR0.out); rintro e w7 ⟨g, rfl, hi, hb, hb2⟩; have HI := Aside0.mk hi; clear HB; have HB := Aside0.mk hb; clear hi hb hb2)
  go_loopg [6] k (fun kq v6 w' => ∃ (x6 y1 y2 : Int), v6 = .int .i64 x6 ∧ Aside0 (spec_l23New.l0 kq a1 t1 y1 y2 x6 = some (r1, r2, r3)) ∧ Aside0 (kq ≤ k) ∧ Aside0 (IsS91 w w' g t1 y1 y2) ∧ Aside0 (Below w.heap.size w w'))
  case atStart => exact ⟨0, t2, t3, rfl, H', ⟨Nat.le_refl _⟩, ⟨by repeat (first | exact HI.out | apply IsS91.drewN | apply IsS91.drew)⟩, ⟨by repeat (first | exact HB.out | apply pw_below_drewN | apply below_drew1)⟩⟩
  case round =>
    clear H' HI HB
    obtain ⟨x6, y1, y2, rfl, HA, HK1, HI, HB⟩ := hrel
    cases gk with
    | zero => exact absurd HA.out (by simp [spec_l23New.l0])
    | succ k1 =>
      have H := HA.out
      clear HA
      simp only [spec_l23New.l0] at H
      by_cases c : x6 < a1
      · rw [if_pos c] at H
        obtain ⟨⟨b1, b2, b3⟩, A2, H⟩ := Option.bind_eq_some_iff.mp H
        have A2 := Aside0.mk A2
        have H' := Aside0.mk H
        clear H
        have cb : decide (x6 < a1) = true := decide_eq_true c
        clear c
        go_wp2_with (go_at_call 70; (with_reducible refine (spec_l01Byte.calls g t1 y1 y2 b1 b2 b3 w _ ?side1 ?side2 A2.out).mono ?_); (case side1 => repeat (first | exact HI.out | apply IsS91.drewN | apply IsS91.drew)); (case side2 => repeat (first | exact HB.out | apply pw_below_drewN | apply below_drew1)); rintro e w8 ⟨rfl, hi, hb, hk⟩; clear HI HB; have HI := Aside0.mk hi; have HB := Aside0.mk hb; clear hi hb hk)
        go_roundg k1
        case measure => have := HK1.out; omega
        case rel => exact ⟨wrap64 (x6 + 1), b2, b3, rfl, H', ⟨by have := HK1.out; omega⟩, ⟨by repeat (first | exact HI.out | apply IsS91.drewN | apply IsS91.drew)⟩, ⟨by repeat (first | exact HB.out | apply pw_below_drewN | apply below_drew1)⟩⟩
      · rw [if_neg c] at H
        simp only [Option.some.injEq, Prod.mk.injEq] at H
        obtain ⟨rfl, rfl, rfl⟩ := H
        have cb : decide (x6 < a1) = false := decide_eq_false c
        clear c
        go_wp2
        go_ret
        exact ⟨g, rfl, by repeat (first | exact HI.out | apply IsS91.drewN | apply IsS91.drew), by repeat (first | exact HB.out | apply pw_below_drewN | apply below_drew1)⟩
end Go.Proofs.Ytfnllojppkjgcaa.F
end
section
/- Laid by a program of this claim's own. What the Go function does, as a Lean function, and the proof that the Go code does just that; Lean checks it. -/
namespace Go.Proofs.Ytfnllojppkjgcaa.F
open Go.RowKit Go.Proofs.YtfnllojppkjgcaaW.PrintWords Go.Proofs.YtfnllojppkjgcaaW.PrintLast Go.Proofs.YtfnllojppkjgcaaW.PrintMore
attribute [local go_sem] max2_int min2_int max_two min_two max_three min_three max_four min_four   -- for this text's walks alone
set_option linter.unusedVariables false
set_option linter.unusedSimpArgs false
/-! ### spec_MakeNum: function 27 -/
def spec_MakeNum.f (k : Nat) (l0 : List Int) (a1 : Int) : Option (Int) := (spec_l23New.f k l0 a1).bind fun s => (spec_l01Byte.f s.1 s.2.1 s.2.2).bind fun b => (spec_l01Byte.f s.1 b.2.1 b.2.2).bind fun d => some (wrap64 ((wrap64 (b.1 * 256)) + d.1))
set_option maxHeartbeats 8000000 in
set_option maxRecDepth 100000 in
theorem spec_MakeNum.calls (k : Nat) (A0 : Option Addr) (c0 : Nat) (l0 : List Int) (a1 : Int) (r : Int) (w : World) (hr0 : Kd.C (Kd.int .u8) w A0 l0.length l0) (hc0 : l0.length ≤ c0) (h : spec_MakeNum.f k l0 a1 = some r) :
    Calls Try.prog 27 #[.slice A0 l0.length c0, .int .i64 a1] w fun e w' => e = .returned (.int .i64 r) ∧ Below w.heap.size w w' := by
  have HR0 := Aside0.mk hr0
  have HC0 := Aside0.mk hc0
  obtain ⟨⟨t1, t2, t3⟩, h1, h⟩ := Option.bind_eq_some_iff.mp h
  obtain ⟨⟨b1, b2, b3⟩, h2, h⟩ := Option.bind_eq_some_iff.mp h
  obtain ⟨⟨d1, d2, d3⟩, h3, h⟩ := Option.bind_eq_some_iff.mp h
  obtain rfl := Option.some.inj h
  have A1 := Aside0.mk h1
  have A2 := Aside0.mk h2
  have A3 := Aside0.mk h3
  clear hr0 hc0 h1 h2 h3 h
  go_enter Try.func27, Try.ntmps27
  go_wp2_with (go_at_call 69; (with_reducible refine (spec_l23New.calls k A0 c0 l0 a1 t1 t2 t3 _ HR0.out HC0.out A1.out).mono ?_); rintro e w7 ⟨g, rfl, hi, hb⟩; have HI := Aside0.mk hi; have HB := Aside0.mk hb; clear hi hb)
  go_wp2_with (go_at_call 70; (with_reducible refine (spec_l01Byte.calls g t1 t2 t3 b1 b2 b3 w _ HI.out HB.out A2.out).mono ?_); rintro e w8 ⟨rfl, hi, hb, hk⟩; clear HI HB; have HI := Aside0.mk hi; have HB := Aside0.mk hb; clear hi hb hk)
  go_wp2_with (go_at_call 70; (with_reducible refine (spec_l01Byte.calls g t1 b2 b3 d1 d2 d3 w _ HI.out HB.out A3.out).mono ?_); rintro e w9 ⟨rfl, hi, hb, hk⟩; clear HI HB; have HI := Aside0.mk hi; have HB := Aside0.mk hb; clear hi hb hk)
  go_ret
  exact ⟨by first | rfl | (simp [i64_w]; done), HB.out⟩
end Go.Proofs.Ytfnllojppkjgcaa.F
end
