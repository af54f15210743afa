import Derived.Test.YtnmfhgllafdkhaaZFnConverse4
import Derived.Test.YtnmfhgllafdkhaaZFnConverse8
import Derived.Test.YtnmfhgllafdkhaaZFnConverse5
section
/- What the makers of arguments give: numbers in their bounds, whatever the code is. -/
namespace Go.Proofs.Ytnmfhgllafdkhaa.F
open Go.RowKit Go.Proofs.YtnmfhgllafdkhaaW.PrintWords Go.Proofs.YtnmfhgllafdkhaaW.PrintLast Go.Proofs.YtnmfhgllafdkhaaW.PrintMore
set_option linter.unusedVariables false
set_option linter.unusedSimpArgs false
theorem and_255 (x : Int) : 0 ≤ Go.bits .and .i64 x 255 ∧ Go.bits .and .i64 x 255 ≤ 255 := by
  have h : (BitVec.ofInt 64 x &&& BitVec.ofInt 64 255).toNat ≤ 255 := by
    rw [BitVec.toNat_and]
    exact Nat.le_trans Nat.and_le_right (by decide)
  have e : Go.bits .and .i64 x 255 = wrap64 (((BitVec.ofInt 64 x &&& BitVec.ofInt 64 255).toNat : Nat) : Int) := i64_w _
  rw [e, w64_id (by omega) (by omega)]
  omega
/-- The cursor stands within its code. -/
def curB (f0 : List Int) (f1 : Int) : Prop := 0 ≤ f1 ∧ f1 ≤ (f0.length : Int) ∧ f0.length ≤ 1048576
theorem byte_ex (f0 : List Int) (f1 f2 : Int) (h : curB f0 f1) : ∃ b g1 g2, spec_l01Byte.f f0 f1 f2 = some (b, g1, g2) ∧ 0 ≤ b ∧ b ≤ 255 ∧ curB f0 g1 := by
  obtain ⟨h0, h1, h2⟩ := h
  unfold spec_l01Byte.f
  by_cases c : f1 < (f0.length : Int)
  · rw [if_pos c, if_pos h0]
    have hw : wrap64 (f1 + 1) = f1 + 1 := w64_id (by omega) (by omega)
    exact ⟨_, _, _, rfl, (and_255 _).1, (and_255 _).2, by rw [hw]; omega, by rw [hw]; omega, h2⟩
  · rw [if_neg c]
    exact ⟨_, _, _, rfl, (and_255 _).1, (and_255 _).2, h0, h1, h2⟩
theorem below_ex (f0 : List Int) (f1 f2 n : Int) (h : curB f0 f1) (h0 : 1 ≤ n) (h1 : n ≤ 256) : ∃ b g1 g2, spec_l01Below.f f0 f1 f2 n = some (b, g1, g2) ∧ 0 ≤ b ∧ b < n ∧ curB f0 g1 := by
  obtain ⟨b, g1, g2, hb, b0, b1, hc⟩ := byte_ex f0 f1 f2 h
  unfold spec_l01Below.f
  rw [if_neg (by omega), if_pos h1, hb, Option.bind_some, if_neg (by omega)]
  refine ⟨_, _, _, rfl, ?_, ?_, hc⟩
  · exact Int.tmod_nonneg _ b0
  · exact Int.tmod_lt_of_pos _ (by omega)
theorem new_at (rest : List Int) : ∀ (pre : List Int) (h : Int), (pre ++ rest).length ≤ 1048576 →
    ∃ r, Ev (fun k => spec_l01New.l0 k (pre ++ rest) h (pre.length : Int)) (pre ++ rest, 0, r) := by
  induction rest with
  | nil =>
    intro pre h hb
    refine ⟨h, Ev.step (f := fun _ => some (pre ++ [], 0, h)) (fun k => ?_) (Ev.now _)⟩
    show spec_l01New.l0 (k + 1) _ h _ = _
    rw [spec_l01New.l0, if_neg (mid_nlt _)]
  | cons x rest ih =>
    intro pre h hb
    by_cases c : (pre.length : Int) < 4000
    · obtain ⟨r, hr⟩ := ih (pre ++ [x]) (Go.bits .and .i64 (wrap64 ((wrap64 ((wrap64 (h * 101)) + (wrap64 x))) + 7)) 1073741823) (by simpa using hb)
      rw [← mid_cons, ← mid_succ pre x (by simp at hb; omega)] at hr
      refine ⟨r, Ev.step (fun k => ?_) hr⟩
      show spec_l01New.l0 (k + 1) _ h _ = _
      rw [spec_l01New.l0, if_pos (mid_lt _ _ _), if_pos c, if_pos (nn _), mid_rd]
    · refine ⟨h, Ev.step (f := fun _ => some (pre ++ x :: rest, 0, h)) (fun k => ?_) (Ev.now _)⟩
      show spec_l01New.l0 (k + 1) _ h _ = _
      rw [spec_l01New.l0, if_pos (mid_lt _ _ _), if_neg c]
theorem new_ev (l : List Int) (hb : l.length ≤ 1048576) : ∃ r, Ev (fun k => spec_l01New.f k l) (l, 0, r) := new_at l [] _ hb
theorem l23_at (f0 : List Int) (n : Nat) : ∀ (i : Int) (a f1 f2 : Int), i + n = a → 0 ≤ i → a ≤ 1048576 → curB f0 f1 →
    ∃ g1 g2, Ev (fun k => spec_l23New.l0 k a f0 f1 f2 i) (f0, g1, g2) ∧ curB f0 g1 := by
  induction n with
  | zero =>
    intro i a f1 f2 hn hi ha h
    refine ⟨f1, f2, Ev.step (f := fun _ => some (f0, f1, f2)) (fun k => ?_) (Ev.now _), h⟩
    show spec_l23New.l0 (k + 1) a f0 f1 f2 i = _
    rw [spec_l23New.l0, if_neg (by omega)]
  | succ n ih =>
    intro i a f1 f2 hn hi ha h
    obtain ⟨b, g1, g2, hb, _, _, hc⟩ := byte_ex f0 f1 f2 h
    obtain ⟨e1, e2, he, hf⟩ := ih (i + 1) a g1 g2 (by omega) (by omega) ha hc
    refine ⟨e1, e2, Ev.step (fun k => ?_) he, hf⟩
    show spec_l23New.l0 (k + 1) a f0 f1 f2 i = _
    rw [spec_l23New.l0, if_pos (by omega), hb, Option.bind_some, w64_id (by omega) (by omega)]
theorem l23_ev (l : List Int) (a : Int) (hb : l.length ≤ 1048576) (h0 : 0 ≤ a) (h1 : a ≤ 1048576) : ∃ g1 g2, Ev (fun k => spec_l23New.f k l a) (l, g1, g2) ∧ curB l g1 := by
  obtain ⟨r, hr⟩ := new_ev l hb
  obtain ⟨g1, g2, hg, hc⟩ := l23_at l a.toNat 0 a 0 r (by omega) (by omega) h1 ⟨by omega, by omega, hb⟩
  unfold spec_l23New.f
  exact ⟨g1, g2, Ev.bind hr hg, hc⟩
theorem num_ev (l : List Int) (a : Int) (hb : l.length ≤ 1048576) (h0 : 0 ≤ a) (h1 : a ≤ 1048576) : ∃ v, Ev (fun k => spec_MakeNum.f k l a) v ∧ 0 ≤ v ∧ v ≤ 65535 := by
  obtain ⟨g1, g2, hg, hc⟩ := l23_ev l a hb h0 h1
  obtain ⟨b, c1, c2, hb1, b0, b1, hc1⟩ := byte_ex l g1 g2 hc
  obtain ⟨d, e1, e2, hd1, d0, d1, hc2⟩ := byte_ex l c1 c2 hc1
  refine ⟨b * 256 + d, ?_, by omega, by omega⟩
  unfold spec_MakeNum.f
  refine Ev.bind hg ?_
  simp only [hb1, hd1, Option.bind_some]
  rw [w64_id (show -9223372036854775808 ≤ b * 256 by omega) (by omega), w64_id (by omega) (by omega)]
  exact Ev.now _
end Go.Proofs.Ytnmfhgllafdkhaa.F
end
section
/- Shuffled rows of numbers, and the maker of permutations. -/
namespace Go.Proofs.Ytnmfhgllafdkhaa.F
open Go.RowKit Go.Proofs.YtnmfhgllafdkhaaW.PrintWords Go.Proofs.YtnmfhgllafdkhaaW.PrintLast Go.Proofs.YtnmfhgllafdkhaaW.PrintMore
set_option linter.unusedVariables false
set_option linter.unusedSimpArgs false
theorem seqFrom_snoc (n : Nat) : ∀ a : Int, seqFrom a (n + 1) = seqFrom a n ++ [a + n] := by
  induction n with
  | zero => intro a; simp [seqFrom]
  | succ n ih =>
    intro a
    rw [show seqFrom a (n + 1 + 1) = a :: seqFrom (a + 1) (n + 1) from rfl, ih (a + 1), show seqFrom a (n + 1) = a :: seqFrom (a + 1) n from rfl]
    simp
    omega
theorem swap_perm (x : List Int) (j : Nat) (hj : j < x.length) (v : Int) : (x.set j v ++ [x.getD j 0]).Perm (x ++ [v]) := by
  have e : x = x.take j ++ x.getD j 0 :: x.drop (j + 1) := by
    rw [List.getD_eq_getElem?_getD, List.getElem?_eq_getElem hj]
    simp
  have e2 : x.set j v = x.take j ++ v :: x.drop (j + 1) := List.set_eq_take_append_cons_drop.trans (by rw [if_pos hj])
  rw [e2]
  conv => rhs; rw [e]
  generalize x.getD j 0 = a
  generalize x.take j = p
  generalize x.drop (j + 1) = q
  rw [List.append_assoc, List.append_assoc, List.cons_append, List.cons_append]
  refine List.Perm.append_left p ?_
  have h1 : (v :: (q ++ [a])).Perm (v :: a :: q) := (List.perm_append_singleton a q).cons v
  have h2 : (a :: (q ++ [v])).Perm (a :: v :: q) := (List.perm_append_singleton v q).cons a
  exact h1.trans ((List.Perm.swap a v q).trans h2.symm)
theorem shuffle_at (f0 : List Int) (m : Nat) : ∀ (n : Nat) (x : List Int) (f1 f2 : Int), n + m ≤ 256 → x.Perm (seqFrom 0 n) → curB f0 f1 →
    ∃ r g1 g2, Ev (fun k => spec_l02Shuffle.l0 k ((n + m : Nat) : Int) x (n : Int) f0 f1 f2) (r, g1, g2) ∧ r.Perm (seqFrom 0 (n + m)) ∧ curB f0 g1 := by
  induction m with
  | zero =>
    intro n x f1 f2 hb hp hc
    refine ⟨x, f1, f2, Ev.step (f := fun _ => some (x, f1, f2)) (fun k => ?_) (Ev.now _), hp, hc⟩
    show spec_l02Shuffle.l0 (k + 1) _ x _ f0 f1 f2 = _
    rw [spec_l02Shuffle.l0, if_neg (by omega)]
  | succ m ih =>
    intro n x f1 f2 hb hp hc
    have hlen : x.length = n := by rw [hp.length_eq, seqFrom_length]
    obtain ⟨b, g1, g2, hbl, b0, b1, hcg⟩ := below_ex f0 f1 f2 ((n : Int) + 1) hc (by omega) (by omega)
    obtain ⟨j, rfl⟩ := Int.eq_ofNat_of_zero_le b0
    have hw : wrap64 ((n : Int) + 1) = (n : Int) + 1 := w64_id (by omega) (by omega)
    have hnew : (((x ++ [(n : Int)]).set n (rd (x ++ [(n : Int)]) (j : Int))).set j (n : Int)).Perm (seqFrom 0 (n + 1)) := by
      rw [seqFrom_snoc, Int.zero_add]
      by_cases e : j = n
      · subst e
        have e1 : rd (x ++ [(j : Int)]) (j : Int) = (j : Int) := by
          have := mid_rd x (j : Int) []
          rwa [hlen] at this
        rw [e1]
        have e2 : ((x ++ [(j : Int)]).set j (j : Int)) = x ++ [(j : Int)] := by
          have := mid_set x (j : Int) (j : Int) []
          rw [hlen, Int.toNat_natCast] at this
          simpa using this
        rw [e2, e2]
        exact hp.append_right _
      · have hj : j < x.length := by omega
        have e1 : rd (x ++ [(n : Int)]) (j : Int) = x.getD j 0 := by
          unfold rd
          simp [List.getD_eq_getElem?_getD, List.getElem?_append_left hj]
        have e2 : ((x ++ [(n : Int)]).set n (x.getD j 0)) = x ++ [x.getD j 0] := by
          have := mid_set x (n : Int) (x.getD j 0) []
          rw [hlen, Int.toNat_natCast] at this
          simpa using this
        rw [e1, e2, List.set_append_left _ _ hj]
        exact (swap_perm x j hj (n : Int)).trans (hp.append_right _)
    obtain ⟨r, e1, e2, he, hr, hc2⟩ := ih (n + 1) _ g1 g2 (by omega) hnew hcg
    refine ⟨r, e1, e2, Ev.step (fun k => ?_) he, by rw [show n + (m + 1) = n + 1 + m by omega]; exact hr, hc2⟩
    show spec_l02Shuffle.l0 (k + 1) _ x _ f0 f1 f2 = _
    have hl2 : ((x ++ [(n : Int)]).length : Int) = (n : Int) + 1 := by rw [List.length_append, hlen]; simp
    rw [spec_l02Shuffle.l0, if_pos (by omega), hw, hbl, Option.bind_some, if_pos (by omega), Option.bind_some, if_pos b0, if_pos (by rw [hl2]; exact b1), if_pos (by omega), if_pos (by rw [hl2]; omega), Int.toNat_natCast, Int.toNat_natCast]
    rw [show ((n + 1 : Nat) : Int) = (n : Int) + 1 by omega, show ((n + (m + 1) : Nat) : Int) = ((n + 1 + m : Nat) : Int) by omega]
theorem shuffle_ev (f0 : List Int) (n : Nat) (f1 f2 : Int) (hn : n ≤ 256) (hc : curB f0 f1) : ∃ r g1 g2, Ev (fun k => spec_l02Shuffle.f k f0 f1 f2 (n : Int)) (r, g1, g2) ∧ r.Perm (seqFrom 0 n) ∧ curB f0 g1 := by
  have h := shuffle_at f0 n 0 [] f1 f2 (by omega) (by simp [seqFrom]) hc
  rw [Nat.zero_add] at h
  exact h
theorem perm_ev (l : List Int) (a b : Int) (hb : l.length ≤ 1048576) (h0 : 0 ≤ a) (h1 : a ≤ 1048576) (b0 : 1 ≤ b) (b1 : b ≤ 12) : ∃ r, Ev (fun k => spec_MakePerm.f k l a b) r ∧ r.Perm (seqFrom 0 b.toNat) := by
  obtain ⟨g1, g2, hg, hc⟩ := l23_ev l a hb h0 h1
  have hm : mx 1 (mn b 12) = ((b.toNat : Nat) : Int) := by unfold mx mn; repeat' split <;> omega
  obtain ⟨r, e1, e2, he, hd, _⟩ := shuffle_ev l b.toNat g1 g2 (by omega) hc
  refine ⟨r, ?_, hd⟩
  unfold spec_MakePerm.f
  rw [hm]
  exact Ev.bind hg (Ev.bind he (Ev.now _))
end Go.Proofs.Ytnmfhgllafdkhaa.F
end
section
/- All permutations of a short row, and the law's body at each of them: a finite question. -/
namespace Go.Proofs.Ytnmfhgllafdkhaa.F
open Go.RowKit Go.Proofs.YtnmfhgllafdkhaaW.PrintWords Go.Proofs.YtnmfhgllafdkhaaW.PrintLast Go.Proofs.YtnmfhgllafdkhaaW.PrintMore
set_option linter.unusedVariables false
set_option linter.unusedSimpArgs false
def ins (x : Int) : List Int → List (List Int)
  | [] => [[x]]
  | y :: ys => (x :: y :: ys) :: (ins x ys).map (y :: ·)
def permsOf : List Int → List (List Int)
  | [] => [[]]
  | x :: xs => (permsOf xs).flatMap (ins x)
theorem mem_ins (x : Int) (q : List Int) : ∀ p : List Int, p ++ x :: q ∈ ins x (p ++ q)
  | [] => by
    cases q with
    | nil => simp [ins]
    | cons y ys => simp [ins]
  | y :: p => by
    rw [List.cons_append, List.cons_append, ins]
    exact List.mem_cons_of_mem _ (List.mem_map.mpr ⟨_, mem_ins x q p, rfl⟩)
theorem mem_permsOf : ∀ (l a : List Int), a.Perm l → a ∈ permsOf l
  | [], a, h => by rw [h.eq_nil]; simp [permsOf]
  | x :: xs, a, h => by
    obtain ⟨p, q, rfl⟩ := List.append_of_mem (h.mem_iff.mpr List.mem_cons_self)
    have h2 : (p ++ q).Perm xs := List.Perm.cons_inv (List.perm_middle.symm.trans h)
    rw [permsOf]
    exact List.mem_flatMap.mpr ⟨_, mem_permsOf xs (p ++ q) h2, mem_ins x q p⟩
def convB (n : Int) (a : List Int) : Bool := laws_FnConverse.j0 60 n a == some true
theorem all_two {f : List Int → Bool} (c : Nat) (l : List (List Int)) (h1 : (l.take c).all f = true) (h2 : (l.drop c).all f = true) : l.all f = true := by
  rw [← List.take_append_drop c l, List.all_append, h1, h2]; rfl
set_option maxRecDepth 100000 in
theorem conv1 : (permsOf [0]).all (convB 1) = true := by decide +kernel
set_option maxRecDepth 100000 in
theorem conv2 : (permsOf [0, 1]).all (convB 2) = true := by decide +kernel
set_option maxRecDepth 100000 in
theorem conv3 : (permsOf [0, 1, 2]).all (convB 3) = true := by decide +kernel
set_option maxRecDepth 100000 in
theorem conv4 : (permsOf [0, 1, 2, 3]).all (convB 4) = true := by decide +kernel
set_option maxRecDepth 100000 in
theorem conv5 : (permsOf [0, 1, 2, 3, 4]).all (convB 5) = true := by decide +kernel
end Go.Proofs.Ytnmfhgllafdkhaa.F
end
section
/- The law's body at every permutation of six numbers. -/
namespace Go.Proofs.Ytnmfhgllafdkhaa.F
open Go.RowKit Go.Proofs.YtnmfhgllafdkhaaW.PrintWords Go.Proofs.YtnmfhgllafdkhaaW.PrintLast Go.Proofs.YtnmfhgllafdkhaaW.PrintMore
set_option linter.unusedVariables false
set_option linter.unusedSimpArgs false
theorem all_at {f : List Int → Bool} (c i : Nat) (l : List (List Int)) (h1 : ((l.drop i).take c).all f = true) (h2 : (l.drop (i + c)).all f = true) : (l.drop i).all f = true :=
  all_two c _ h1 (by rw [List.drop_drop]; exact h2)
set_option maxRecDepth 100000 in
theorem conv6_0 : (((permsOf [0, 1, 2, 3, 4, 5]).drop 0).take 60).all (convB 6) = true := by decide +kernel
set_option maxRecDepth 100000 in
theorem conv6_60 : (((permsOf [0, 1, 2, 3, 4, 5]).drop 60).take 60).all (convB 6) = true := by decide +kernel
set_option maxRecDepth 100000 in
theorem conv6_120 : (((permsOf [0, 1, 2, 3, 4, 5]).drop 120).take 60).all (convB 6) = true := by decide +kernel
set_option maxRecDepth 100000 in
theorem conv6_180 : (((permsOf [0, 1, 2, 3, 4, 5]).drop 180).take 60).all (convB 6) = true := by decide +kernel
set_option maxRecDepth 100000 in
theorem conv6_240 : (((permsOf [0, 1, 2, 3, 4, 5]).drop 240).take 60).all (convB 6) = true := by decide +kernel
set_option maxRecDepth 100000 in
theorem conv6_300 : (((permsOf [0, 1, 2, 3, 4, 5]).drop 300).take 60).all (convB 6) = true := by decide +kernel
set_option maxRecDepth 100000 in
theorem conv6_360 : (((permsOf [0, 1, 2, 3, 4, 5]).drop 360).take 60).all (convB 6) = true := by decide +kernel
set_option maxRecDepth 100000 in
theorem conv6_420 : (((permsOf [0, 1, 2, 3, 4, 5]).drop 420).take 60).all (convB 6) = true := by decide +kernel
set_option maxRecDepth 100000 in
theorem conv6_480 : (((permsOf [0, 1, 2, 3, 4, 5]).drop 480).take 60).all (convB 6) = true := by decide +kernel
set_option maxRecDepth 100000 in
theorem conv6_540 : (((permsOf [0, 1, 2, 3, 4, 5]).drop 540).take 60).all (convB 6) = true := by decide +kernel
set_option maxRecDepth 100000 in
theorem conv6_600 : (((permsOf [0, 1, 2, 3, 4, 5]).drop 600).take 60).all (convB 6) = true := by decide +kernel
set_option maxRecDepth 100000 in
theorem conv6_660 : (((permsOf [0, 1, 2, 3, 4, 5]).drop 660).take 60).all (convB 6) = true := by decide +kernel
set_option maxRecDepth 100000 in
theorem conv6_end : ((permsOf [0, 1, 2, 3, 4, 5]).drop 720).all (convB 6) = true := by decide +kernel
theorem conv6 : (permsOf [0, 1, 2, 3, 4, 5]).all (convB 6) = true :=
  all_at 60 0 _ conv6_0 (all_at 60 60 _ conv6_60 (all_at 60 120 _ conv6_120 (all_at 60 180 _ conv6_180 (all_at 60 240 _ conv6_240 (all_at 60 300 _ conv6_300 (all_at 60 360 _ conv6_360 (all_at 60 420 _ conv6_420 (all_at 60 480 _ conv6_480 (all_at 60 540 _ conv6_540 (all_at 60 600 _ conv6_600 (all_at 60 660 _ conv6_660 conv6_end)))))))))))
end Go.Proofs.Ytnmfhgllafdkhaa.F
end
section
/- The reference's Gilbreath permutations of 1 to 8 numbers, and the law's body at each of them. -/
namespace Go.Proofs.Ytnmfhgllafdkhaa.F
open Go.RowKit Go.Proofs.YtnmfhgllafdkhaaW.PrintWords Go.Proofs.YtnmfhgllafdkhaaW.PrintLast Go.Proofs.YtnmfhgllafdkhaaW.PrintMore
set_option linter.unusedVariables false
set_option linter.unusedSimpArgs false
def gilB (n : Int) : Bool := match spec_GilbreathsOf.f 20 n with
  | some l => decide (1 ≤ l.length ∧ l.length ≤ 128) && l.all (fun a => decide ((a.length : Int) = n) && convB n a)
  | none => false
set_option maxRecDepth 100000 in
theorem gil1 : gilB 1 = true := by decide +kernel
set_option maxRecDepth 100000 in
theorem gil2 : gilB 2 = true := by decide +kernel
set_option maxRecDepth 100000 in
theorem gil3 : gilB 3 = true := by decide +kernel
set_option maxRecDepth 100000 in
theorem gil4 : gilB 4 = true := by decide +kernel
set_option maxRecDepth 100000 in
theorem gil5 : gilB 5 = true := by decide +kernel
set_option maxRecDepth 100000 in
theorem gil6 : gilB 6 = true := by decide +kernel
set_option maxRecDepth 100000 in
theorem gil7 : gilB 7 = true := by decide +kernel
set_option maxRecDepth 100000 in
theorem gil8 : gilB 8 = true := by decide +kernel
theorem gil_ex (n : Int) (h : gilB n = true) : ∃ l, Ev (fun k => spec_GilbreathsOf.f k n) l ∧ 1 ≤ l.length ∧ l.length ≤ 128 ∧ ∀ a ∈ l, (a.length : Int) = n ∧ convB n a = true := by
  unfold gilB at h
  split at h
  · rename_i l hl
    simp only [Bool.and_eq_true, decide_eq_true_eq, List.all_eq_true] at h
    exact ⟨l, Ev.of (fun k => spec_GilbreathsOf.mono n k) hl, h.1.1, h.1.2, h.2⟩
  · exact absurd h (by simp)
end Go.Proofs.Ytnmfhgllafdkhaa.F
end
section
/- FnConverse: what is drawn is a permutation of at most six numbers, or one of the reference's Gilbreath permutations of at most eight; at each of them the law's body says true. -/
namespace Go.Proofs.Ytnmfhgllafdkhaa.Pure
open Go.RowKit Go.Proofs.Ytnmfhgllafdkhaa.F Go.Proofs.YtnmfhgllafdkhaaW.PrintWords Go.Proofs.YtnmfhgllafdkhaaW.PrintLast Go.Proofs.YtnmfhgllafdkhaaW.PrintMore
set_option linter.unusedVariables false
set_option linter.unusedSimpArgs false
theorem conv_ev (n : Int) (a : List Int) (h : convB n a = true) : Ev (fun k => laws_FnConverse.j0 k n a) true :=
  Ev.of (fun k => (laws_FnConverse.mono_l k).1 n a) (beq_iff_eq.mp h)
theorem conv_perm (n : Int) (h1 : 1 ≤ n) (h6 : n ≤ 6) (a : List Int) (h : a.Perm (seqFrom 0 n.toNat)) : convB n a = true := by
  have hm := mem_permsOf _ _ h
  have hn : n = 1 ∨ n = 2 ∨ n = 3 ∨ n = 4 ∨ n = 5 ∨ n = 6 := by omega
  rcases hn with rfl | rfl | rfl | rfl | rfl | rfl
  · exact List.all_eq_true.mp conv1 a hm
  · exact List.all_eq_true.mp conv2 a hm
  · exact List.all_eq_true.mp conv3 a hm
  · exact List.all_eq_true.mp conv4 a hm
  · exact List.all_eq_true.mp conv5 a hm
  · exact List.all_eq_true.mp conv6 a hm
theorem gil_all (n : Int) (h1 : 1 ≤ n) (h8 : n ≤ 8) : gilB n = true := by
  have hn : n = 1 ∨ n = 2 ∨ n = 3 ∨ n = 4 ∨ n = 5 ∨ n = 6 ∨ n = 7 ∨ n = 8 := by omega
  rcases hn with rfl | rfl | rfl | rfl | rfl | rfl | rfl | rfl
  · exact gil1
  · exact gil2
  · exact gil3
  · exact gil4
  · exact gil5
  · exact gil6
  · exact gil7
  · exact gil8
theorem makeGil_ev (l : List Int) (hb : l.length ≤ 1048576) : ∃ a, Ev (fun k => spec_MakeGilbreath.f k l) a ∧ convB (a.length : Int) a = true := by
  obtain ⟨r, hn⟩ := new_ev l hb
  have hc0 : curB l 0 := ⟨by omega, by omega, hb⟩
  obtain ⟨b, g1, g2, e1, b0, b1, hc1⟩ := below_ex l 0 r 8 hc0 (by omega) (by omega)
  obtain ⟨G, hG, l1, l2, hall⟩ := gil_ex (1 + b) (gil_all (1 + b) (by omega) (by omega))
  obtain ⟨i, g3, g4, e2, i0, i1, _⟩ := below_ex l g1 g2 (G.length : Int) hc1 (by omega) (by omega)
  have hw : wrap64 (1 + b) = 1 + b := w64_id (by omega) (by omega)
  obtain ⟨j, rfl⟩ := Int.eq_ofNat_of_zero_le i0
  have hj : j < G.length := by omega
  have hrd : rd_L2 G (j : Int) = G[j] := by
    unfold rd_L2
    rw [Int.toNat_natCast, List.getD_eq_getElem?_getD, List.getElem?_eq_getElem hj]; rfl
  have hm := hall _ (List.getElem_mem hj)
  refine ⟨G[j], ?_, by rw [hm.1]; exact hm.2⟩
  unfold spec_MakeGilbreath.f
  refine Ev.bind hn ?_
  simp only [e1, Option.bind_some, hw]
  refine Ev.bind hG ?_
  simp only [e2, Option.bind_some]
  rw [if_pos i0, if_pos i1, hrd]
  exact Ev.now _
theorem FnConverse : laws_FnConverse.Pure := by
  intro l _ _ _
  have main : Ev (fun k => laws_FnConverse.f k l) true := by
    unfold laws_FnConverse.f
    by_cases c : (l.length : Int) > 1048576
    · simp only [if_pos c]
      exact Ev.now _
    · simp only [if_neg c]
      have hb : l.length ≤ 1048576 := by omega
      obtain ⟨x, hx, x0, x1⟩ := num_ev l 1 hb (by omega) (by omega)
      obtain ⟨y, hy, y0, y1⟩ := num_ev l 40 hb (by omega) (by omega)
      have m0 := Int.tmod_nonneg 6 x0
      have m1 := Int.tmod_lt_of_pos x (show (0 : Int) < 6 by omega)
      have hw : wrap64 (1 + Int.tmod x 6) = 1 + Int.tmod x 6 := w64_id (by omega) (by omega)
      obtain ⟨a, ha, hp⟩ := perm_ev l 3 (1 + Int.tmod x 6) hb (by omega) (by omega) (by omega) (by omega)
      refine Ev.bind hx ?_
      simp only [hw]
      refine Ev.bind ha (Ev.bind hy ?_)
      by_cases d : Int.tmod y 2 = 0
      · simp only [if_pos d]
        obtain ⟨g, hg, hgb⟩ := makeGil_ev l hb
        exact Ev.bind hg (conv_ev _ g hgb)
      · simp only [if_neg d]
        exact conv_ev _ a (conv_perm _ (by omega) (by omega) a hp)
  exact main.imp fun K hK => hK K (Nat.le_refl _)
end Go.Proofs.Ytnmfhgllafdkhaa.Pure
end
