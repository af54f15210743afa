import Derived.Test.YtbeehklibkeecaaZFnShortest4
import Derived.Test.YtbeehklibkeecaaZFnShortest11
import Derived.Test.YtbeehklibkeecaaZFnShortest9
import Derived.Test.YtbeehklibkeecaaZFnShortest10
import Derived.Test.YtbeehklibkeecaaZFnShortest8
section
/- What the makers of arguments give: numbers in their bounds, whatever the code is. -/
namespace Go.Proofs.Ytbeehklibkeecaa.F
open Go.RowKit Go.Proofs.YtbeehklibkeecaaW.PrintWords Go.Proofs.YtbeehklibkeecaaW.PrintLast Go.Proofs.YtbeehklibkeecaaW.PrintMore
set_option linter.unusedVariables false
set_option linter.unusedSimpArgs false
theorem and_255 (x : Int) : 0 ≤ Go.bits .and .i64 x 255 ∧ Go.bits .and .i64 x 255 ≤ 255 := by
  have h : (BitVec.ofInt 64 x &&& BitVec.ofInt 64 255).toNat ≤ 255 := by
    rw [BitVec.toNat_and]
    exact Nat.le_trans Nat.and_le_right (by decide)
  have e : Go.bits .and .i64 x 255 = wrap64 (((BitVec.ofInt 64 x &&& BitVec.ofInt 64 255).toNat : Nat) : Int) := i64_w _
  rw [e, w64_id (by omega) (by omega)]
  omega
/-- The cursor stands within its code. -/
def curB (f0 : List Int) (f1 : Int) : Prop := 0 ≤ f1 ∧ f1 ≤ (f0.length : Int) ∧ f0.length ≤ 1048576
theorem byte_ex (f0 : List Int) (f1 f2 : Int) (h : curB f0 f1) : ∃ b g1 g2, spec_l01Byte.f f0 f1 f2 = some (b, g1, g2) ∧ 0 ≤ b ∧ b ≤ 255 ∧ curB f0 g1 := by
  obtain ⟨h0, h1, h2⟩ := h
  unfold spec_l01Byte.f
  by_cases c : f1 < (f0.length : Int)
  · rw [if_pos c, if_pos h0]
    have hw : wrap64 (f1 + 1) = f1 + 1 := w64_id (by omega) (by omega)
    exact ⟨_, _, _, rfl, (and_255 _).1, (and_255 _).2, by rw [hw]; omega, by rw [hw]; omega, h2⟩
  · rw [if_neg c]
    exact ⟨_, _, _, rfl, (and_255 _).1, (and_255 _).2, h0, h1, h2⟩
theorem new_at (rest : List Int) : ∀ (pre : List Int) (h : Int), (pre ++ rest).length ≤ 1048576 →
    ∃ r, Ev (fun k => spec_l01New.l0 k (pre ++ rest) h (pre.length : Int)) (pre ++ rest, 0, r) := by
  induction rest with
  | nil =>
    intro pre h hb
    refine ⟨h, Ev.step (f := fun _ => some (pre ++ [], 0, h)) (fun k => ?_) (Ev.now _)⟩
    show spec_l01New.l0 (k + 1) _ h _ = _
    rw [spec_l01New.l0, if_neg (mid_nlt _)]
  | cons x rest ih =>
    intro pre h hb
    by_cases c : (pre.length : Int) < 4000
    · obtain ⟨r, hr⟩ := ih (pre ++ [x]) (Go.bits .and .i64 (wrap64 ((wrap64 ((wrap64 (h * 101)) + (wrap64 x))) + 7)) 1073741823) (by simpa using hb)
      rw [← mid_cons, ← mid_succ pre x (by simp at hb; omega)] at hr
      refine ⟨r, Ev.step (fun k => ?_) hr⟩
      show spec_l01New.l0 (k + 1) _ h _ = _
      rw [spec_l01New.l0, if_pos (mid_lt _ _ _), if_pos c, if_pos (nn _), mid_rd]
    · refine ⟨h, Ev.step (f := fun _ => some (pre ++ x :: rest, 0, h)) (fun k => ?_) (Ev.now _)⟩
      show spec_l01New.l0 (k + 1) _ h _ = _
      rw [spec_l01New.l0, if_pos (mid_lt _ _ _), if_neg c]
theorem new_ev (l : List Int) (hb : l.length ≤ 1048576) : ∃ r, Ev (fun k => spec_l01New.f k l) (l, 0, r) := new_at l [] _ hb
theorem l23_at (f0 : List Int) (n : Nat) : ∀ (i : Int) (a f1 f2 : Int), i + n = a → 0 ≤ i → a ≤ 1048576 → curB f0 f1 →
    ∃ g1 g2, Ev (fun k => spec_l23New.l0 k a f0 f1 f2 i) (f0, g1, g2) ∧ curB f0 g1 := by
  induction n with
  | zero =>
    intro i a f1 f2 hn hi ha h
    refine ⟨f1, f2, Ev.step (f := fun _ => some (f0, f1, f2)) (fun k => ?_) (Ev.now _), h⟩
    show spec_l23New.l0 (k + 1) a f0 f1 f2 i = _
    rw [spec_l23New.l0, if_neg (by omega)]
  | succ n ih =>
    intro i a f1 f2 hn hi ha h
    obtain ⟨b, g1, g2, hb, _, _, hc⟩ := byte_ex f0 f1 f2 h
    obtain ⟨e1, e2, he, hf⟩ := ih (i + 1) a g1 g2 (by omega) (by omega) ha hc
    refine ⟨e1, e2, Ev.step (fun k => ?_) he, hf⟩
    show spec_l23New.l0 (k + 1) a f0 f1 f2 i = _
    rw [spec_l23New.l0, if_pos (by omega), hb, Option.bind_some, w64_id (by omega) (by omega)]
theorem l23_ev (l : List Int) (a : Int) (hb : l.length ≤ 1048576) (h0 : 0 ≤ a) (h1 : a ≤ 1048576) : ∃ g1 g2, Ev (fun k => spec_l23New.f k l a) (l, g1, g2) ∧ curB l g1 := by
  obtain ⟨r, hr⟩ := new_ev l hb
  obtain ⟨g1, g2, hg, hc⟩ := l23_at l a.toNat 0 a 0 r (by omega) (by omega) h1 ⟨by omega, by omega, hb⟩
  unfold spec_l23New.f
  exact ⟨g1, g2, Ev.bind hr hg, hc⟩
theorem num_ev (l : List Int) (a : Int) (hb : l.length ≤ 1048576) (h0 : 0 ≤ a) (h1 : a ≤ 1048576) : ∃ v, Ev (fun k => spec_MakeNum.f k l a) v ∧ 0 ≤ v ∧ v ≤ 65535 := by
  obtain ⟨g1, g2, hg, hc⟩ := l23_ev l a hb h0 h1
  obtain ⟨b, c1, c2, hb1, b0, b1, hc1⟩ := byte_ex l g1 g2 hc
  obtain ⟨d, e1, e2, hd1, d0, d1, hc2⟩ := byte_ex l c1 c2 hc1
  refine ⟨b * 256 + d, ?_, by omega, by omega⟩
  unfold spec_MakeNum.f
  refine Ev.bind hg ?_
  simp only [hb1, hd1, Option.bind_some]
  rw [w64_id (show -9223372036854775808 ≤ b * 256 by omega) (by omega), w64_id (by omega) (by omega)]
  exact Ev.now _
end Go.Proofs.Ytbeehklibkeecaa.F
end
section
/- Numbers from a on. -/
namespace Go.Proofs.Ytbeehklibkeecaa.F
open Go.RowKit Go.Proofs.YtbeehklibkeecaaW.PrintWords Go.Proofs.YtbeehklibkeecaaW.PrintLast Go.Proofs.YtbeehklibkeecaaW.PrintMore
set_option linter.unusedVariables false
set_option linter.unusedSimpArgs false
theorem mem_seqFrom (n : Nat) : ∀ (a x : Int), x ∈ seqFrom a n ↔ a ≤ x ∧ x < a + n := by
  induction n with
  | zero =>
    intro a x
    simp only [seqFrom, List.not_mem_nil, false_iff]
    omega
  | succ n ih =>
    intro a x
    rw [show seqFrom a (n + 1) = a :: seqFrom (a + 1) n from rfl, List.mem_cons, ih]
    omega
end Go.Proofs.Ytbeehklibkeecaa.F
end
section
/- FnShortest: every size, every two places. -/
namespace Go.Proofs.Ytbeehklibkeecaa.Pure
open Go.RowKit Go.Proofs.Ytbeehklibkeecaa.F Go.Proofs.YtbeehklibkeecaaW.PrintWords Go.Proofs.YtbeehklibkeecaaW.PrintLast Go.Proofs.YtbeehklibkeecaaW.PrintMore
set_option linter.unusedVariables false
set_option linter.unusedSimpArgs false
def nxs : List (List Int) → List (List Int)
  | [] => []
  | p :: ps => faroL p 0 :: faroL p 1 :: nxs ps
def reach (n : Nat) : Nat → List (List Int)
  | 0 => [seqFrom 0 n]
  | j + 1 => nxs (reach n j)
theorem nxs_len (al : List (List Int)) : (nxs al).length = 2 * al.length := by
  induction al with
  | nil => rfl
  | cons p ps ih => simp only [nxs, List.length_cons, ih]; omega
theorem nxs_mem (x : List Int) (al : List (List Int)) : x ∈ nxs al ↔ ∃ p ∈ al, x = faroL p 0 ∨ x = faroL p 1 := by
  induction al with
  | nil => simp [nxs]
  | cons p ps ih =>
    simp only [nxs, List.mem_cons, ih]
    constructor
    · rintro (h | h | ⟨q, hq, h⟩)
      · exact ⟨p, .inl rfl, .inl h⟩
      · exact ⟨p, .inl rfl, .inr h⟩
      · exact ⟨q, .inr hq, h⟩
    · rintro ⟨q, rfl | hq, h⟩
      · rcases h with h | h
        · exact .inl h
        · exact .inr (.inl h)
      · exact .inr (.inr ⟨q, hq, h⟩)
def goodB (n i t : Nat) (p : List Int) : Bool := decide ((p.length : Int) = (n : Int)) && (packetB p && (decide (rd p (t : Int) ≠ (i : Int)) && p.all (fun x => decide (0 ≤ x))))
def shOK (n i t : Nat) : Bool := match sfRes n i t with
  | some r => decide (r.1.length ≤ 8) && (colorsB r.1 20 && (packetB (seqFrom 0 n) && ((rd (runF (seqFrom 0 n) r.1) (t : Int) == (i : Int)) && (List.range r.1.length).all fun j => (reach n j).all (goodB n i t))))
  | none => false
def shAll : Bool := (List.range 5).all fun h => (List.range (2 * h)).all fun i => (List.range (2 * h)).all fun t => shOK (2 * h) i t
theorem shAll_true : shAll = true := by decide +kernel
theorem shOK_true (h i t : Nat) (h1 : h ≤ 4) (h5 : i < 2 * h) (h6 : t < 2 * h) : shOK (2 * h) i t = true := by
  have h0 := shAll_true
  unfold shAll at h0
  rw [List.all_eq_true] at h0
  have h7 := h0 h (List.mem_range.2 (by omega))
  rw [List.all_eq_true] at h7
  have h8 := h7 i (List.mem_range.2 h5)
  rw [List.all_eq_true] at h8
  exact h8 t (List.mem_range.2 h6)
theorem perform4 (p : List Int) (c : Int) (hc : c = 0 ∨ c = 1) (hp : packetB p = true) (hl : 1 ≤ p.length) (hw : ∀ x ∈ p, 0 ≤ x) : Ev (fun k => impl_Perform.f k p 4 c) (faroL p c, true) := by
  have hlen := packetB_len hp
  unfold impl_Perform.f
  refine Ev.bind (impl_PacketOk_ev p (by omega) (fun x hx => by have := hw x hx; omega)) ?_
  simp only [hp, if_true]
  have hm : moveB (p.length : Int) 4 c = true := by
    unfold moveB
    rw [if_neg (by omega), if_pos (by omega), decide_eq_true (by omega), decide_eq_true (by omega)]
    rfl
  refine Ev.bind (g := fun k => impl_MoveOk.f k (p.length : Int) 4 c) (a := true) (Ev.at_ 5 (fun k hk => by obtain ⟨m, rfl⟩ := Nat.exists_eq_add_of_le' hk; rw [impl_MoveOk_eq, hm])) ?_
  simp only [if_true]
  refine Ev.bind (a := faroL p c) ?_ (Ev.now _)
  unfold impl_moved.f
  simp only [if_neg (show ¬ (4 : Int) = 1 by omega), if_neg (show ¬ (4 : Int) = 2 by omega), if_neg (show ¬ (4 : Int) = 3 by omega), if_true]
  exact Ev.bind (impl_faro_ev p c (by omega)) (Ev.now _)
theorem nx2_ev (n i t : Nat) (hn : 1 ≤ n) (al : List (List Int)) : (∀ p ∈ al, goodB n i t p = true) → Ev (fun k => nx2 k (n : Int) (i : Int) (t : Int) al) (nxs al) := by
  induction al with
  | nil => intro _; exact Ev.now _
  | cons p ps ih =>
    intro h
    have hg := h p List.mem_cons_self
    unfold goodB at hg
    simp only [Bool.and_eq_true, decide_eq_true_eq, List.all_eq_true] at hg
    obtain ⟨g1, g2, g3, g4⟩ := hg
    have h2 := ih (fun q hq => h q (List.mem_cons_of_mem _ hq))
    have e0 := perform4 p 0 (.inl rfl) g2 (by omega) g4
    have e1 := perform4 p 1 (.inr rfl) g2 (by omega) g4
    refine Ev.congr (f := fun k => (impl_Perform.f k p 4 0).bind fun x => (impl_Perform.f k p 4 1).bind fun y => if x.2 = true ∧ y.2 = true then ((nx2 k (n : Int) (i : Int) (t : Int) ps).bind fun r => some (x.1 :: y.1 :: r)) else none) (fun k => ?_) ?_
    · show nx2 k (n : Int) (i : Int) (t : Int) (p :: ps) = _
      rw [nx2, if_pos ⟨g1, g3⟩]
    · refine Ev.bind e0 (Ev.bind e1 ?_)
      simp only [and_self, if_true]
      exact Ev.bind h2 (Ev.now _)
theorem lp_ev (n i t L : Nat) (hn : 1 ≤ n) (hL : L ≤ 8) (hg : ∀ j, j < L → ∀ p ∈ reach n j, goodB n i t p = true) (d : Nat) : ∀ (j : Nat) (al : List (List Int)), j + d = L → (∀ p ∈ al, p ∈ reach n j) → al.length ≤ 2 ^ j →
    Ev (fun k => lpL k (n : Int) (i : Int) (t : Int) d al) () := by
  induction d with
  | zero => intro j al _ _ _; exact Ev.now _
  | succ d ih =>
    intro j al hj ha hb
    have hall : ∀ p ∈ al, goodB n i t p = true := fun p hp => hg j (by omega) p (ha p hp)
    have h2j : 2 ^ j ≤ 2 ^ 8 := Nat.pow_le_pow_right (by omega) (by omega)
    have hlen := nxs_len al
    have hmem : ∀ p ∈ nxs al, ∃ q ∈ al, p = faroL q 0 ∨ p = faroL q 1 := fun p hp => (nxs_mem p al).mp hp
    have hs := sortPk_ev (nxs al) (by omega) (fun x hx => by
      obtain ⟨q, hq, h⟩ := hmem x hx
      have h1 := hall q hq
      unfold goodB at h1
      simp only [Bool.and_eq_true, decide_eq_true_eq] at h1
      have h2 := packetB_len h1.2.1
      rcases h with rfl | rfl <;> rw [faro_length] <;> omega)
    have hle := sortP_length_le (nxs al)
    have h3 := ih (j + 1) (sortP (nxs al)) (by omega) (fun p hp => by
      obtain ⟨q, hq, h⟩ := hmem p ((sortP_mem p _).mp hp)
      exact (nxs_mem p _).mpr ⟨q, ha q hq, h⟩) (by rw [Nat.pow_succ]; omega)
    refine Ev.congr (f := fun k => (nx2 k (n : Int) (i : Int) (t : Int) al).bind fun nx => if nx.length < 3000 then ((impl_SortPackets.f k nx).bind fun al2 => if al2.length ≤ 3000 then lpL k (n : Int) (i : Int) (t : Int) d al2 else none) else none) (fun k => rfl) ?_
    refine Ev.bind (nx2_ev n i t hn al hall) ?_
    simp only [if_pos (show (nxs al).length < 3000 by omega)]
    refine Ev.bind hs ?_
    simp only [if_pos (show (sortP (nxs al)).length ≤ 3000 by omega)]
    exact h3
theorem group_ev (h : Nat) (h0 : 1 ≤ h) (h1 : h ≤ 4) : ∃ g : Int, Ev (fun k => impl_FaroGroup.f k ((2 * h : Nat) : Int)) g ∧ ((2 * h : Nat) : Int) ≤ g := by
  have h2 : h = 1 ∨ h = 2 ∨ h = 3 ∨ h = 4 := by omega
  rcases h2 with rfl | rfl | rfl | rfl
  · exact ⟨2, Ev.of (fun k => impl_FaroGroup.mono _ k) groupI_2, by decide⟩
  · exact ⟨8, Ev.of (fun k => impl_FaroGroup.mono _ k) groupI_4, by decide⟩
  · exact ⟨24, Ev.of (fun k => impl_FaroGroup.mono _ k) groupI_6, by decide⟩
  · exact ⟨24, Ev.of (fun k => impl_FaroGroup.mono _ k) groupI_8, by decide⟩
theorem FnShortest : laws_FnShortest.Pure := by
  intro l hm hb hw
  by_cases hbig : (l.length : Int) > 1048576
  · exact ⟨0, by unfold laws_FnShortest.f; rw [if_pos hbig]⟩
  obtain ⟨a, ha, a0, a1⟩ := num_ev l 1 (by omega) (by omega) (by omega)
  obtain ⟨b, hb2, b0, b1⟩ := num_ev l 3 (by omega) (by omega) (by omega)
  obtain ⟨c, hc, c0, c1⟩ := num_ev l 5 (by omega) (by omega) (by omega)
  have m0 := Int.tmod_nonneg 4 a0
  have m1 := Int.tmod_lt_of_pos a (show (0 : Int) < 4 by omega)
  obtain ⟨h, hh⟩ : ∃ h : Nat, h = (1 + Int.tmod a 4).toNat := ⟨_, rfl⟩
  have hn : 2 + 2 * Int.tmod a 4 = ((2 * h : Nat) : Int) := by omega
  have h1 : 1 ≤ h := by omega
  have h4 : h ≤ 4 := by omega
  have i0 := Int.tmod_nonneg ((2 * h : Nat) : Int) b0
  have i1 := Int.tmod_lt_of_pos b (show (0 : Int) < ((2 * h : Nat) : Int) by omega)
  have t0 := Int.tmod_nonneg ((2 * h : Nat) : Int) c0
  have t1 := Int.tmod_lt_of_pos c (show (0 : Int) < ((2 * h : Nat) : Int) by omega)
  obtain ⟨i, hi⟩ := Int.eq_ofNat_of_zero_le i0
  obtain ⟨t, ht⟩ := Int.eq_ofNat_of_zero_le t0
  obtain ⟨r, _, hr, hrl, hres⟩ := short_in h i t h1 (by omega) (by omega) (by omega)
  have hok := shOK_true h i t h4 (by omega) (by omega)
  unfold shOK at hok
  rw [hres] at hok
  simp only [Bool.and_eq_true, decide_eq_true_eq, beq_iff_eq, List.all_eq_true] at hok
  obtain ⟨k1, k2, k3, k4, k5⟩ := hok
  have hnew : Ev (fun k => impl_NewPacket.f k ((2 * h : Nat) : Int)) (seqFrom 0 (2 * h)) := by
    have u1 := (upTo_ev ((2 * h : Nat) : Int) (by omega) (by omega)).1
    rw [Int.toNat_natCast] at u1
    unfold impl_NewPacket.f
    simp only [if_neg (show ¬ ((2 * h : Nat) : Int) < 0 by omega), if_neg (show ¬ ((2 * h : Nat) : Int) > 12 by omega)]
    exact Ev.bind u1 (Ev.now _)
  have hsl : (seqFrom 0 (2 * h)).length = 2 * h := seqFrom_length _ _
  have hrun := impl_ev (seqFrom 0 (2 * h)) r (by omega) (by omega) (fun x hx => by
    have e1 := (mem_seqFrom _ _ _).mp hx
    omega)
  have hrr : runR (seqFrom 0 (2 * h)) r = (runF (seqFrom 0 (2 * h)) r, true) := by
    unfold runR
    rw [if_pos ⟨k3, by rw [hsl]; unfold pairedB; exact decide_eq_true (by omega), k2⟩]
  rw [hrr] at hrun
  obtain ⟨g, hg, hgn⟩ := group_ev h h1 h4
  have hlp := lp_ev (2 * h) i t r.length (by omega) k1 (fun j hj p hp => k5 j (List.mem_range.2 hj) p hp) r.length 0 [seqFrom 0 (2 * h)] (by omega) (fun p hp => hp) (by simp)
  have main : Ev (fun k => laws_FnShortest.f k l) true := by
    unfold laws_FnShortest.f
    simp only [if_neg hbig]
    refine Ev.bind ha (Ev.bind hb2 (Ev.bind hc ?_))
    simp only [if_pos (show (0 ≤ a ∧ a ≤ 65535) ∧ (0 ≤ b ∧ b ≤ 65535) ∧ (0 ≤ c ∧ c ≤ 65535) from ⟨⟨a0, a1⟩, ⟨b0, b1⟩, ⟨c0, c1⟩⟩), hn, hi, ht]
    refine Ev.bind hr (Ev.bind hnew (Ev.bind hrun (Ev.bind hg (Ev.bind hlp ?_))))
    have hq : ((runF (seqFrom 0 (2 * h)) r).length : Int) = ((2 * h : Nat) : Int) := by rw [run_length, hsl]
    simp only [hq, k4, true_and, if_pos (show (r.length : Int) ≤ ((2 * h : Nat) : Int) ∧ ((2 * h : Nat) : Int) ≤ g from ⟨by omega, hgn⟩)]
    exact Ev.now _
  exact main.imp fun K hK => hK K (Nat.le_refl _)
end Go.Proofs.Ytbeehklibkeecaa.Pure
end
