import Derived.Test.YtbeehklibkeecaaZFnShortest4
import Derived.Test.YtbeehklibkeecaaZFnShortest8
import Derived.Test.YtbeehklibkeecaaZFnShortest9
import Derived.Test.YtbeehklibkeecaaZFnShortest10
import Derived.Test.YtbeehklibkeecaaZFnShortest5
import Derived.Test.YtbeehklibkeecaaZFnShortest6
section
/- Laid by a program of this claim's own. What the Go function does, as a Lean function, and the proof that the Go code does just that; Lean checks it. -/
namespace Go.Proofs.Ytbeehklibkeecaa.F
open Go.RowKit Go.Proofs.YtbeehklibkeecaaW.PrintWords Go.Proofs.YtbeehklibkeecaaW.PrintLast Go.Proofs.YtbeehklibkeecaaW.PrintMore
attribute [local go_sem] max2_int min2_int max_two min_two max_three min_three max_four min_four   -- for this text's walks alone
set_option linter.unusedVariables false
set_option linter.unusedSimpArgs false
/-! ### laws_FnShortest: function 9 -/
-- HOME impl_FaroGroup
/-- Two shuffles of each packet of a list. -/
def nx2 (k : Nat) (n fr to_ : Int) : List (List Int) → Option (List (List Int))
  | [] => some []
  | p :: ps => if (p.length : Int) = n ∧ rd p to_ ≠ fr then ((impl_Perform.f k p 4 0).bind fun x => (impl_Perform.f k p 4 1).bind fun y => if x.2 = true ∧ y.2 = true then ((nx2 k n fr to_ ps).bind fun r => some (x.1 :: y.1 :: r)) else none) else none
def lpL (k : Nat) (n fr to_ : Int) : Nat → List (List Int) → Option Unit
  | 0, _ => some ()
  | d + 1, al => (nx2 k n fr to_ al).bind fun nx => if nx.length < 3000 then ((impl_SortPackets.f k nx).bind fun al2 => if al2.length ≤ 3000 then lpL k n fr to_ d al2 else none) else none
def laws_FnShortest.f (k : Nat) (l0 : List Int) : Option Bool :=
  if (l0.length : Int) > 1048576 then some true else
  (spec_MakeNum.f k l0 1).bind fun a => (spec_MakeNum.f k l0 3).bind fun b => (spec_MakeNum.f k l0 5).bind fun c =>
    if (0 ≤ a ∧ a ≤ 65535) ∧ (0 ≤ b ∧ b ≤ 65535) ∧ (0 ≤ c ∧ c ≤ 65535) then
      ((impl_ShortestFaro.f k (2 + 2 * Int.tmod a 4) (Int.tmod b (2 + 2 * Int.tmod a 4)) (Int.tmod c (2 + 2 * Int.tmod a 4))).bind fun L => (impl_NewPacket.f k (2 + 2 * Int.tmod a 4)).bind fun p => (impl_FaroRun.f k p L.1).bind fun q => (impl_FaroGroup.f k (2 + 2 * Int.tmod a 4)).bind fun g =>
        (lpL k (2 + 2 * Int.tmod a 4) (Int.tmod b (2 + 2 * Int.tmod a 4)) (Int.tmod c (2 + 2 * Int.tmod a 4)) L.1.length [p]).bind fun _ =>
          if L.2 = true ∧ q.2 = true ∧ (q.1.length : Int) = 2 + 2 * Int.tmod a 4 ∧ rd q.1 (Int.tmod c (2 + 2 * Int.tmod a 4)) = Int.tmod b (2 + 2 * Int.tmod a 4) ∧ (L.1.length : Int) ≤ 2 + 2 * Int.tmod a 4 ∧ 2 + 2 * Int.tmod a 4 ≤ g then some true else none)
    else none
theorem own_C {w : World} {base n : Nat} {v : Value} {hs : List Value} {xs : List (List Int)} (h : w.ownsRow base 24 1 v n hs) (hv : HdV w base hs xs) (hn : n = xs.length) (hb : n ≤ 100000) : ∃ A c, v = .slice A n c ∧ n ≤ c ∧ Kd.C (Kd.slice 3 (Kd.int .i64)) w A n xs := by
  obtain ⟨A, c, rfl, hc⟩ := own_slice h
  refine ⟨A, c, rfl, hc, hn.symm, by omega, fun hp => ?_⟩
  rcases h.2 with ⟨e, h0⟩ | ⟨g, cap, cur, e, _⟩
  · omega
  · injection e with e1 e2 e3
    subst e1
    refine ⟨_, rfl, fun j p hj => ?_⟩
    have hjl : j < xs.length := (List.getElem?_eq_some_iff.1 hj).1
    obtain ⟨Ah, ch, h1, h2⟩ := HdV.get hv j hjl
    have ep : xs.getD j [] = p := by rw [List.getD_eq_getElem?_getD, hj]; rfl
    rw [ep] at h1 h2
    refine ⟨[.slice Ah p.length ch], rfl, ⟨Ah, ch, rfl, (Kd.R_reads' h2).2.1, (Kd.R_reads' h2).2.2⟩, fun i u hu => ?_⟩
    cases i with
    | zero =>
      injection hu with hu
      subst hu
      show w.cell? ((⟨g, 0, none⟩ : Addr).add (j * 1 + 0)) = _
      rw [Nat.mul_one, Nat.add_zero]
      exact h.cells (g := g) rfl j _ h1
    | succ i => simp at hu
theorem nx2_drop {k : Nat} {n fr to_ : Int} {al : List (List Int)} {i : Nat} {rest : List (List Int)} (hi : i < al.length) (h : nx2 k n fr to_ (al.drop i) = some rest) : ((al.getD i []).length : Int) = n ∧ rd (al.getD i []) to_ ≠ fr ∧ ∃ x y r2, impl_Perform.f k (al.getD i []) 4 0 = some (x, true) ∧ impl_Perform.f k (al.getD i []) 4 1 = some (y, true) ∧ nx2 k n fr to_ (al.drop (i + 1)) = some r2 ∧ rest = x :: y :: r2 := by
  rw [List.drop_eq_getElem_cons hi] at h
  have e : al.getD i [] = al[i] := by rw [List.getD_eq_getElem?_getD, List.getElem?_eq_getElem hi]; rfl
  rw [e]
  unfold nx2 at h
  split at h
  · rename_i hc
    obtain ⟨⟨x, b1⟩, h1, h⟩ := Option.bind_eq_some_iff.mp h
    obtain ⟨⟨y, b2⟩, h2, h⟩ := Option.bind_eq_some_iff.mp h
    split at h
    · rename_i hb
      obtain ⟨rfl, rfl⟩ := hb
      obtain ⟨r2, h3, h⟩ := Option.bind_eq_some_iff.mp h
      exact ⟨hc.1, hc.2, x, y, r2, h1, h2, h3, (Option.some.inj h).symm⟩
    · cases h
  · cases h
set_option maxHeartbeats 32000000 in
set_option maxRecDepth 100000 in
theorem laws_FnShortest.calls_in (k : Nat) (A0 : Option Addr) (c0 : Nat) (l0 : List Int) (w : World) (hr0 : Kd.C (Kd.int .u8) w A0 l0.length l0) (hc0 : l0.length ≤ c0) (hle : ¬ (l0.length : Int) > 1048576) (a b c : Int) (ha : spec_MakeNum.f k l0 1 = some a) (hb : spec_MakeNum.f k l0 3 = some b) (hc : spec_MakeNum.f k l0 5 = some c) (ba : 0 ≤ a ∧ a ≤ 65535) (bb : 0 ≤ b ∧ b ≤ 65535) (bc : 0 ≤ c ∧ c ≤ 65535)
    (n fr to_ : Int) (hn : 2 + 2 * Int.tmod a 4 = n) (hfr : Int.tmod b n = fr) (hto : Int.tmod c n = to_) (l : List Int) (h1 : impl_ShortestFaro.f k n fr to_ = some (l, true)) (p : List Int) (h2 : impl_NewPacket.f k n = some p) (q : List Int) (h3 : impl_FaroRun.f k p l = some (q, true)) (g : Int) (h4 : impl_FaroGroup.f k n = some g) (h5 : lpL k n fr to_ l.length [p] = some ())
    (q1 : (q.length : Int) = n) (q2 : rd q to_ = fr) (q3 : (l.length : Int) ≤ n) (q4 : n ≤ g) :
    Calls Try.prog 9 #[.slice A0 l0.length c0] w fun e w' => e = .returned (.bool true) ∧ Below w.heap.size w w' := by
  have HR0 := Aside0.mk hr0
  have HC0 := Aside0.mk hc0
  have HA := Aside0.mk ha
  have HB_ := Aside0.mk hb
  have HC_ := Aside0.mk hc
  have H1 := Aside0.mk h1
  have H2 := Aside0.mk h2
  have H3 := Aside0.mk h3
  have H4 := Aside0.mk h4
  have H5 := Aside0.mk h5
  have t0 : 0 ≤ Int.tmod a 4 ∧ Int.tmod a 4 < 4 := by have e1 := Int.tmod_nonneg 4 ba.1; have e2 := Int.tmod_lt_of_pos a (show (0 : Int) < 4 by omega); omega
  have hn8 : 2 ≤ n ∧ n ≤ 8 := by omega
  have t1 : 0 ≤ to_ ∧ to_ < n := by have e1 := Int.tmod_nonneg n bc.1; have e2 := Int.tmod_lt_of_pos c (show (0 : Int) < n by omega); omega
  have w1 : IntKind.i64.wrap (2 * Int.tmod a 4) = 2 * Int.tmod a 4 := by rw [IntKind.wrap_i64]; omega
  have w2 : IntKind.i64.wrap (2 + 2 * Int.tmod a 4) = n := by rw [IntKind.wrap_i64]; omega
  have w1' : wrap64 (2 * Int.tmod a 4) = 2 * Int.tmod a 4 := w64_id (by omega) (by omega)
  have w2' : wrap64 (2 + 2 * Int.tmod a 4) = n := by rw [hn]; exact w64_id (by omega) (by omega)
  have w3 : IntKind.i64.wrap (Int.tmod a 4) = Int.tmod a 4 := by rw [IntKind.wrap_i64]; omega
  have hn0 : ¬ (n = 0) := by omega
  have hn0b : (n == 0) = false := beq_eq_false_iff_ne.mpr hn0
  have g1 : decide (1048576 < l0.length) = false := decide_eq_false (by omega)
  have g2 : decide (1048576 < (l0.length : Int)) = false := decide_eq_false (by omega)
  have g3 : ((q.length : Int) != n) = false := bne_eq_false_iff_eq.mpr q1
  have g4 : (fr != fr) = false := bne_self_eq_false fr
  have g5 : decide (n < (l.length : Int)) = false := decide_eq_false (by omega)
  have g6 : decide ((l.length : Int) > n) = false := decide_eq_false (by omega)
  have g7 : decide (n ≤ g) = true := decide_eq_true q4
  have g8 : decide (g ≥ n) = true := decide_eq_true q4
  have T1 := Aside0.mk t1
  have Q1 := Aside0.mk q1
  have Q2 := Aside0.mk q2
  have Q3 := Aside0.mk q3
  have N8 := Aside0.mk hn8
  have HTO := Aside0.mk hto
  have HFR := Aside0.mk hfr
  have u1 : decide (0 ≤ to_) = true := decide_eq_true t1.1
  have u2 : (0 ≤ to_) = True := eq_true t1.1
  have u3 : (to_ < (q.length : Int)) = True := eq_true (by omega)
  obtain ⟨iI, hiI, hzI, hsI, hbI⟩ := info_parts (show (Try.prog.info? 24).map (fun i => (i.zero, i.size, i.bytes)) = some (some (Value.slice none 0 0), 1, 24) by kernel_rfl)
  have II := Aside0.mk hiI
  have ZI := Aside0.mk hzI
  have SI := Aside0.mk hsI
  have BI := Aside0.mk hbI
  clear hr0 hc0 hle ha hb hc h1 h2 h3 h4 h5 ba bb bc q1 q2 q3 q4 t0 t1 hn8 hiI hzI hsI hbI hn
  go_enter Try.func9, Try.ntmps9
  go_wp2_with (go_at_call 21; (with_reducible refine (spec_MakeNum.calls k A0 c0 l0 1 a _ HR0.out HC0.out HA.out).mono ?_); rintro e w1 ⟨rfl, hb⟩; have B1 := Aside0.mk hb; clear hb)
  go_wp2_with (go_at_call 21; (with_reducible refine (spec_MakeNum.calls k A0 c0 l0 3 b _ (Kd.C_below HR0.out B1.out) HC0.out HB_.out).mono ?_); rintro e w2 ⟨rfl, hb⟩; have B2 := Aside0.mk (below_step B1.out hb); clear hb B1; try rw [HFR.out])
  go_wp2_with (go_at_call 21; (with_reducible refine (spec_MakeNum.calls k A0 c0 l0 5 c _ (Kd.C_below HR0.out B2.out) HC0.out HC_.out).mono ?_); rintro e w3 ⟨rfl, hb⟩; have B3 := Aside0.mk (below_step B2.out hb); clear hb B2)
  go_wp2_with (go_at_call 34; (with_reducible refine (impl_ShortestFaro.calls k n fr to_ l true _ H1.out).mono ?_); rintro e w4 ⟨v4, rfl, ho, hb⟩; obtain ⟨A4, c4, rfl⟩ := Kd.R_slice ho; have C4 := Aside0.mk (Kd.R_reads' ho).2; have B4 := Aside0.mk (below_step B3.out hb); clear ho hb B3)
  go_wp2_with (go_at_call 27; (with_reducible refine (impl_NewPacket.calls k n p _ H2.out).mono ?_); rintro e w5 ⟨v5, rfl, ho, hb⟩; obtain ⟨A5, c5, rfl⟩ := Kd.R_slice ho; have C5 := Aside0.mk (Kd.R_reads' ho).2; have B5 := Aside0.mk (below_step B4.out hb); have C45 := Aside0.mk (Kd.C_below C4.out.2 hb); clear ho hb B4)
  go_wp2_with (go_at_call 35; (with_reducible refine (impl_FaroRun.calls k A5 c5 p A4 c4 l q true _ C5.out.2 C5.out.1 C45.out C4.out.1 H3.out).mono ?_); rintro e w6 ⟨v6, rfl, ho, hb⟩; obtain ⟨A6, c6, rfl⟩ := Kd.R_slice ho; obtain ⟨ad6, e6, hx6⟩ := Kd.at_int (Kd.R_reads' ho).2.2 to_ T1.out.1 (by have e1 := T1.out.2; have e2 := Q1.out; omega); cases e6; have hx7 : w6.cell? (ad6.add to_.toNat) = some (.int .i64 fr) := (by rw [← Q2.out]; exact hx6); have B6 := Aside0.mk (below_step B5.out hb); clear ho hb hx6 B5)
  go_wp2_with (go_at_call 27; (with_reducible refine (impl_NewPacket.calls k n p _ H2.out).mono ?_); rintro e w7 ⟨v7, rfl, ho, hb⟩; obtain ⟨A7, c7, rfl⟩ := Kd.R_slice ho; have O7 := Aside0.mk ho; have SZ7 := Aside0.mk hb.size; have B7 := Aside0.mk (below_step B6.out hb); clear ho hb B6 hx7)
  have hC0 : Aside0 (Kd.C (Kd.slice 3 (Kd.int .i64)) (w7.alloc (.cells #[.slice A7 p.length c7] 24)) (some ⟨w7.heap.size, 0, none⟩) 1 [p]) := ⟨by
    obtain ⟨A, c, e1, e2, e3⟩ := own_C (w := w7.alloc (.cells #[.slice A7 p.length c7] 24)) (base := w6.heap.size) (n := 1) (v := .slice (some ⟨w7.heap.size, 0, none⟩) 1 1) (hs := [.slice A7 p.length c7]) (xs := [p]) ⟨rfl, .inr ⟨w7.heap.size, 1, #[.slice A7 p.length c7], rfl, SZ7.out, heap_alloc_new w7 _, Nat.le_refl _, by unfold maxLen; omega, rfl, rfl⟩⟩ ⟨Kd.R_alloc O7.out _, trivial⟩ rfl (by omega)
    injection e1 with e1 e4 e5
    subst e1
    exact e3⟩
  obtain ⟨m, hm⟩ : ∃ m, m = l.length := ⟨_, rfl⟩
  have HM := Aside0.mk hm
  have HMB := Aside0.mk (show m ≤ 8 by have e1 := N8.out; have e2 := Q3.out; omega)
  go_loopg [10, 11] (m + 1) (fun kq v10 v11 w' => ∃ (j : Nat) (al : List (List Int)) (A : Option Addr) (c : Nat) (z : Nat), v10 = .slice A z c ∧ v11 = .int .i64 j ∧ Aside0 (z = al.length) ∧ Aside0 (j + kq = m + 1) ∧ Aside0 (lpL k n fr to_ (m - j) al = some ()) ∧ Aside0 (z ≤ c) ∧ Aside0 (z ≤ 3000) ∧ Aside0 (Kd.C (Kd.slice 3 (Kd.int .i64)) w' A z al) ∧ Aside0 (Below w.heap.size w w'))
  case atStart => exact ⟨0, [p], _, 1, 1, rfl, rfl, ⟨rfl⟩, ⟨by omega⟩, ⟨by rw [HM.out]; exact H5.out⟩, ⟨Nat.le_refl _⟩, ⟨by omega⟩, hC0, ⟨below_alloc B7.out _⟩⟩
  case round =>
    clear hC0 O7 B7
    obtain ⟨j, al, A, c, z, rfl, rfl, HZ, HK, HLP, HZC, HZB, HC, HB⟩ := hrel
    by_cases cj : j < m
    · have hlp := HLP.out
      rw [show m - j = (m - j - 1) + 1 by omega] at hlp
      unfold lpL at hlp
      obtain ⟨nx, hnx, hlp⟩ := Option.bind_eq_some_iff.mp hlp
      split at hlp
      rotate_left
      · cases hlp
      rename_i hnl
      obtain ⟨al2, hal2, hlp⟩ := Option.bind_eq_some_iff.mp hlp
      split at hlp
      rotate_left
      · cases hlp
      rename_i hal3
      have HAL3 := Aside0.mk hal3
      clear hal3
      have HNX := Aside0.mk hnx
      have HNL := Aside0.mk hnl
      have HAL2 := Aside0.mk hal2
      have HLP2 := Aside0.mk hlp
      have cjb : decide ((j : Int) < (l.length : Int)) = true := decide_eq_true (by omega)
      have cjc : decide (j < l.length) = true := decide_eq_true (by omega)
      have cjd : (j < l.length) = True := eq_true (by omega)
      have CJ := Aside0.mk cj
      clear hnx hnl hal2 hlp cj HLP hm
      go_wp2
      rename World => wo
      go_loopg [12, 88] (z + 1) (fun kq v12 v88 w' => ∃ (i : Nat) (nn : List (List Int)) (nh : List Value), v88 = .int .i64 i ∧ Aside0 (i + kq = z + 1) ∧ Aside0 (∃ rest, nx2 k n fr to_ (al.drop i) = some rest ∧ nn ++ rest = nx) ∧ Aside0 (w'.ownsRow wo.heap.size 24 1 v12 nh.length nh) ∧ Aside0 (HdV w' wo.heap.size nh nn) ∧ Aside0 (Below wo.heap.size wo w'))
      case atStart => exact ⟨0, [], [], rfl, ⟨by omega⟩, ⟨nx, HNX.out, rfl⟩, ⟨rfl, .inr ⟨wo.heap.size, 0, #[], rfl, Nat.le_refl _, heap_alloc_new wo _, Nat.le_refl _, by unfold maxLen; omega, rfl, rfl⟩⟩, ⟨trivial⟩, ⟨below_alloc (Below.refl _ _) _⟩⟩
      case round =>
        obtain ⟨i, nn, nh, rfl, HK2, HR, HOWN, HNH, HB2⟩ := hrel
        by_cases ci : i < z
        · obtain ⟨rest, hr1, hr2⟩ := HR.out
          obtain ⟨d1, d2, x, y, r2, d3, d4, d5, d6⟩ := nx2_drop (by have e1 := HZ.out; omega) hr1
          have hil : i < al.length := by have e1 := HZ.out; omega
          obtain ⟨ad, Ap, cp, ead, hx0, hle, hCp⟩ := at_slice (Kd.C_below HC.out HB2.out) (i : Int) (by omega) (by omega)
          rw [Int.toNat_natCast] at hx0 hle hCp
          cases ead
          have hnn : nn.length + 2 ≤ 3000 := by
            have e1 := congrArg List.length hr2
            have e2 := HNL.out
            rw [d6] at e1
            simp at e1
            omega
          generalize al.getD i [] = pp at hx0 hle hCp d1 d2 d3 d4
          obtain ⟨adp, ep, hxp⟩ := Kd.at_int hCp to_ T1.out.1 (by have e1 := T1.out.2; omega)
          cases ep
          have hc0 : wr.cell? (ad.add i) = some (.slice (some adp) pp.length cp) := hx0
          have cib : decide ((i : Int) < (z : Int)) = true := decide_eq_true (by omega)
          have cic : decide (i < z) = true := decide_eq_true ci
          have k1 : ((pp.length : Int) != n) = false := bne_eq_false_iff_eq.mpr d1
          have k2 : (rd pp to_ == fr) = false := beq_eq_false_iff_ne.mpr d2
          have k3 : (to_ < (pp.length : Int)) = True := eq_true (by have e1 := T1.out.2; omega)
          have CP := Aside0.mk hCp
          have LE := Aside0.mk hle
          have D3 := Aside0.mk d3
          have D4 := Aside0.mk d4
          have D5 := Aside0.mk d5
          have HR2 := Aside0.mk (show (nn ++ [x, y]) ++ r2 = nx by rw [← hr2, d6]; simp)
          have HNN := Aside0.mk hnn
          have CI := Aside0.mk ci
          replace ci := eq_true ci
          clear hr1 hr2 d1 d2 d3 d4 d5 d6 hil hx0 hle hCp hnn
          go_wp2_with (first
            | (go_at_call 26; (with_reducible refine (impl_Perform.calls k (some adp) cp pp 4 0 x true _ CP.out LE.out D3.out).mono ?_); rintro e w8 ⟨v8, rfl, ho, hb⟩; obtain ⟨A8, c8, rfl⟩ := Kd.R_slice ho; have O8 := Aside0.mk (Kd.R_lower ho (below_size HB2.out)); have B8 := Aside0.mk (below_step HB2.out hb); have BI8 := Aside0.mk hb; have CP8 := Aside0.mk (Kd.C_below CP.out hb); clear ho hb hc0 hxp)
            | (go_at_call 26; (with_reducible refine (impl_Perform.calls k (some adp) cp pp 4 1 y true _ CP8.out LE.out D4.out).mono ?_); rintro e w9 ⟨v9, rfl, ho, hb⟩; obtain ⟨A9, c9, rfl⟩ := Kd.R_slice ho; have O9 := Aside0.mk (Kd.R_lower ho (below_size B8.out)); have O89 := Aside0.mk (Kd.R_below O8.out hb); have B9 := Aside0.mk (below_step B8.out hb); have BI9 := Aside0.mk (below_step BI8.out hb); clear ho hb)
            | (at_builtin; refine wpList_append_own_at _ rfl (.tmp 122) (.tmp 125) 44 rfl wo.heap.size 24 iI (.slice none 0 0) 1 24 Try.underlying44 II.out ZI.out SI.out BI.out rfl (by decide) _ nh.length nh rfl ((HOWN.out.kept (grown_of_below BI9.out none) (by cases u12.ownBlock <;> simp)).alloc _) ⟨w9.heap.size, 0, none⟩ 2 2 [.slice A8 x.length c8, .slice A9 y.length c9] rfl rfl (fun j_ u_ hj_ => by rw [Addr.add_lit, Nat.zero_add, cell_of_row _ _ j_ _ 24 (0, 0) (heap_alloc_new w9 _)]; simpa using hj_) (fun u_ hu_ => by simp only [List.mem_cons, List.not_mem_nil, or_false] at hu_; rcases hu_ with rfl | rfl <;> rfl) (by have e1 := HNN.out; have e2 := HdV.len HNH.out; unfold maxLen; omega) (by have e1 := HNN.out; have e2 := HdV.len HNH.out; omega) (below_alloc B9.out _).size ?_; intro vA wA ho2 hg2 hn2 hat2; have HO2 := Aside0.mk ho2; have HG2 := Aside0.mk hg2; clear ho2 hg2 hn2 hat2))
          go_roundg (z - i)
          case measure => have e1 := HK2.out; have e2 := CI.out; omega
          case rel =>
            have own9 := (HOWN.out.kept (grown_of_below BI9.out none) (by cases u12.ownBlock <;> simp)).alloc (.cells #[.slice A8 x.length c8, .slice A9 y.length c9] 24)
            have ROW := own_hdr own9
            refine ⟨i + 1, nn ++ [x, y], nh ++ [.slice A8 x.length c8, .slice A9 y.length c9], by have e1 := CI.out; have e2 := HZB.out; rw [w64_id (by omega) (by omega)]; rfl, ⟨by have e1 := CI.out; omega⟩, ⟨r2, D5.out, HR2.out⟩, ⟨?_⟩, ⟨?_⟩, ⟨pw_below_grown (below_alloc B9.out _) _ (below_alloc B9.out _).size HG2.out (fun i_ hi_ => (own9.lt i_ hi_).1)⟩⟩
            · rw [show (nh ++ [(.slice A8 x.length c8 : Value), .slice A9 y.length c9]).length = nh.length + 2 by simp]
              exact HO2.out
            · exact HdV.app (HdV.apart HG2.out ROW (HdV.apart (World.grownBy_alloc w9 _ none) (by simp) (HdV.below BI9.out HNH.out))) ⟨R_apart (Kd.R_alloc O89.out _) HG2.out ROW, R_apart (Kd.R_alloc O9.out _) HG2.out ROW, trivial⟩
        · have hnn : nn = nx := by
            obtain ⟨rest, hr1, hr2⟩ := HR.out
            rw [List.drop_eq_nil_of_le (by have e1 := HZ.out; omega)] at hr1
            simp only [nx2, Option.some.injEq] at hr1
            subst hr1
            simpa using hr2
          have HNN := Aside0.mk hnn
          have hl : nh.length = nx.length := by rw [HdV.len HNH.out, hnn]
          have hcc := own_C HOWN.out HNH.out (HdV.len HNH.out) (by have e1 := HNL.out; omega)
          rw [hnn, hl] at hcc
          obtain ⟨Am, cm, em, hmc, hCm⟩ := hcc
          subst em
          have cib : decide ((i : Int) < (z : Int)) = false := decide_eq_false (by omega)
          have cic : decide (i < z) = false := decide_eq_false ci
          have cid : (i < z) = False := eq_false ci
          have CM := Aside0.mk hCm
          have MC := Aside0.mk hmc
          clear hnn hl hCm hmc ci
          go_wp2_with (go_at_call 36; (with_reducible refine (impl_SortPackets.calls k Am cm nx al2 _ CM.out MC.out HAL2.out).mono ?_); rintro e w10 ⟨v10, rfl, ho, hb⟩; obtain ⟨A10, c10, rfl⟩ := Kd.S_slice ho; have C10 := Aside0.mk (Kd.S_reads' ho).2.2; have L10 := Aside0.mk (Kd.S_reads' ho).2.1; have B10 := Aside0.mk (below_step (below_step HB.out HB2.out) hb); clear ho hb)
          go_roundg (m - j)
          case measure => have e1 := HK.out; have e2 := CJ.out; omega
          case rel => exact ⟨j + 1, al2, A10, c10, al2.length, rfl, by have e1 := CJ.out; have e2 := HMB.out; rw [w64_id (by omega) (by omega)]; rfl, ⟨rfl⟩, ⟨by have e2 := CJ.out; omega⟩, ⟨by rw [show m - (j + 1) = m - j - 1 by omega]; exact HLP2.out⟩, L10, HAL3, C10, B10⟩
    · have cjb : decide ((j : Int) < (l.length : Int)) = false := decide_eq_false (by omega)
      have cjc : decide (j < l.length) = false := decide_eq_false (by omega)
      have cjd : (j < l.length) = False := eq_false (by omega)
      clear hm cj
      go_wp2_with (go_at_call 33; (with_reducible refine (impl_FaroGroup.calls k n g _ H4.out).mono ?_); rintro e w10 ⟨rfl, hb⟩; have B10 := Aside0.mk (below_step HB.out hb); clear hb)
      go_ret
      exact ⟨rfl, B10.out⟩
theorem laws_FnShortest.calls_true (k : Nat) (A0 : Option Addr) (c0 : Nat) (l0 : List Int) (w : World) (hr0 : Kd.C (Kd.int .u8) w A0 l0.length l0) (hc0 : l0.length ≤ c0) (h : laws_FnShortest.f k l0 = some true) :
    Calls Try.prog 9 #[.slice A0 l0.length c0] w fun e w' => e = .returned (.bool true) ∧ Below w.heap.size w w' := by
  unfold laws_FnShortest.f at h
  by_cases hle : (l0.length : Int) > 1048576
  · have g1 : decide (1048576 < l0.length) = true := decide_eq_true (by omega)
    have g2 : decide (1048576 < (l0.length : Int)) = true := decide_eq_true hle
    have HB := Aside0.mk (Below.refl w.heap.size w)
    clear h hr0 hle
    go_enter Try.func9, Try.ntmps9
    go_wp2
    go_ret
    exact ⟨rfl, HB.out⟩
  · rw [if_neg hle] at h
    obtain ⟨a, ha, h⟩ := Option.bind_eq_some_iff.mp h
    obtain ⟨b, hb, h⟩ := Option.bind_eq_some_iff.mp h
    obtain ⟨c, hc, h⟩ := Option.bind_eq_some_iff.mp h
    split at h
    rotate_left
    · cases h
    rename_i hcc
    obtain ⟨⟨l, lb⟩, h1, h⟩ := Option.bind_eq_some_iff.mp h
    obtain ⟨p, h2, h⟩ := Option.bind_eq_some_iff.mp h
    obtain ⟨⟨q, qb⟩, h3, h⟩ := Option.bind_eq_some_iff.mp h
    obtain ⟨g, h4, h⟩ := Option.bind_eq_some_iff.mp h
    obtain ⟨u, h5, h⟩ := Option.bind_eq_some_iff.mp h
    split at h
    rotate_left
    · cases h
    rename_i hq
    obtain ⟨rfl, rfl, q1, q2, q3, q4⟩ := hq
    exact laws_FnShortest.calls_in k A0 c0 l0 w hr0 hc0 hle a b c ha hb hc hcc.1 hcc.2.1 hcc.2.2 _ _ _ rfl rfl rfl l h1 p h2 q h3 g h4 h5 q1 q2 q3 q4
def laws_FnShortest.Pure : Prop := ∀ (l0 : List Int), l0.length ≤ maxLen → l0.length * 1 ≤ 140737488351232 → (∀ x ∈ l0, (Lit.int .u8 x).wf = true) → ∃ k, laws_FnShortest.f k l0 = some true
theorem laws_FnShortest.walk (P : laws_FnShortest.Pure) (a0 : Option Addr) (len0 cap0 : Nat) (z0 : List Int) (w : World) (w0 : (a0 = none ∧ len0 = 0 ∧ cap0 = 0 ∧ z0 = []) ∨ ∃ x, a0 = some x ∧ len0 ≤ cap0 ∧ cap0 ≤ maxLen ∧ z0.length = cap0 ∧ (∀ i, i < z0.length → w.cell? (x.add i) = some (.int .u8 (z0.getD i 0))) ∧ ∀ n ∈ z0, (Lit.int .u8 n).wf = true) (y0 : len0 * 1 ≤ 140737488351232) :
    Calls Try.prog 9 #[.slice a0 len0 cap0] w fun e w' => e = .returned (.bool true) ∧ Below w.heap.size w w' := by
  obtain ⟨l0, rfl, hr0, hm0, hw0, hc0⟩ := ReadsInt.ofRowC w0
  obtain ⟨k, h⟩ := P l0 hm0 y0 hw0
  refine (laws_FnShortest.calls_true k _ _ l0 w (Kd.C_of_reads (d := (0 : Int)) (h1 := fun _ => rfl) hr0) hc0 h).mono ?_
  rintro e w' ⟨rfl, hd⟩
  exact ⟨rfl, hd⟩
end Go.Proofs.Ytbeehklibkeecaa.F
end
section
/- Laid by a program of this claim's own. What the Go function does, as a Lean function, and the proof that the Go code does just that; Lean checks it. -/
namespace Go.Proofs.Ytbeehklibkeecaa.F
open Go.RowKit Go.Proofs.YtbeehklibkeecaaW.PrintWords Go.Proofs.YtbeehklibkeecaaW.PrintLast Go.Proofs.YtbeehklibkeecaaW.PrintMore
attribute [local go_sem] max2_int min2_int max_two min_two max_three min_three max_four min_four   -- for this text's walks alone
set_option linter.unusedVariables false
set_option linter.unusedSimpArgs false
/-! ### spec_l01In: function 39 -/
def spec_l01In.f (a0 : Int) (a1 : Int) (a2 : Int) : Option (Bool) := if a0 ≥ a1 then (some (decide (a0 ≤ a2))) else (some false)
end Go.Proofs.Ytbeehklibkeecaa.F
end
section
/- Laid by a program of this claim's own. What the Go function does, as a Lean function, and the proof that the Go code does just that; Lean checks it. -/
namespace Go.Proofs.Ytbeehklibkeecaa.F
open Go.RowKit Go.Proofs.YtbeehklibkeecaaW.PrintWords Go.Proofs.YtbeehklibkeecaaW.PrintLast Go.Proofs.YtbeehklibkeecaaW.PrintMore
attribute [local go_sem] max2_int min2_int max_two min_two max_three min_three max_four min_four   -- for this text's walks alone
set_option linter.unusedVariables false
set_option linter.unusedSimpArgs false
/-! ### spec_NewPacket: function 67 -/
def spec_NewPacket.l0 : Nat → Int → List Int → Int → Option (List Int)
  | 0, _, _, _ => none
  | k + 1, x0, x3, x4 => if x4 < x0 then (if x3.length < 17592186044416 then (spec_NewPacket.l0 k x0 (x3 ++ [x4]) (wrap64 (x4 + 1))) else (none)) else (some x3)
def spec_NewPacket.f (k : Nat) (a0 : Int) : Option (List Int) := (spec_l01In.f a0 0 12).bind fun t105 => (if t105 = true then (spec_NewPacket.l0 k a0 (([] : List Int)) 0) else (some ([] : List Int)))
end Go.Proofs.Ytbeehklibkeecaa.F
end
section
/- Laid by a program of this claim's own. What the Go function does, as a Lean function, and the proof that the Go code does just that; Lean checks it. -/
namespace Go.Proofs.Ytbeehklibkeecaa.F
open Go.RowKit Go.Proofs.YtbeehklibkeecaaW.PrintWords Go.Proofs.YtbeehklibkeecaaW.PrintLast Go.Proofs.YtbeehklibkeecaaW.PrintMore
attribute [local go_sem] max2_int min2_int max_two min_two max_three min_three max_four min_four   -- for this text's walks alone
set_option linter.unusedVariables false
set_option linter.unusedSimpArgs false
/-! ### spec_l04Faro: function 68 -/
mutual
def spec_l04Faro.l0 : Nat → Int → List Int → List Int → List Int → Option (List Int)
  | 0, _, _, _, _ => none
  | k + 1, x1, x5, x6, x7 => if (x5.length : Int) > 0 then (spec_l04Faro.j1 k x1 x5 x6 x7 true) else (spec_l04Faro.j1 k x1 x5 x6 x7 (decide ((x6.length : Int) > 0)))
def spec_l04Faro.j1 : Nat → Int → List Int → List Int → List Int → Bool → Option (List Int)
  | 0, _, _, _, _, _ => none
  | k + 1, x1, x5, x6, x7, x26 => if x26 = true then (if (x6.length : Int) = 0 then (if 0 < (x5.length : Int) then (if x7.length < 17592186044416 then (if 1 ≤ (x5.length : Int) then (spec_l04Faro.l0 k x1 (x5.drop 1) x6 (x7 ++ [rd x5 0])) else (none)) else (none)) else (none)) else (if (x5.length : Int) > 0 then (if ((x7.length : Int) % 2) = x1 then (if 0 < (x5.length : Int) then (if x7.length < 17592186044416 then (if 1 ≤ (x5.length : Int) then (spec_l04Faro.l0 k x1 (x5.drop 1) x6 (x7 ++ [rd x5 0])) else (none)) else (none)) else (none)) else (if 0 < (x6.length : Int) then (if x7.length < 17592186044416 then (if 1 ≤ (x6.length : Int) then (spec_l04Faro.l0 k x1 x5 (x6.drop 1) (x7 ++ [rd x6 0])) else (none)) else (none)) else (none))) else (if 0 < (x6.length : Int) then (if x7.length < 17592186044416 then (if 1 ≤ (x6.length : Int) then (spec_l04Faro.l0 k x1 x5 (x6.drop 1) (x7 ++ [rd x6 0])) else (none)) else (none)) else (none)))) else (some x7)
end
def spec_l04Faro.f (k : Nat) (l0 : List Int) (a1 : Int) : Option (List Int) := if 0 ≤ (wrap64 ((l0.length : Int) / 2)) then (if (wrap64 ((l0.length : Int) / 2)) ≤ (l0.length : Int) then (spec_l04Faro.l0 k a1 (l0.take ((wrap64 ((l0.length : Int) / 2)) : Int).toNat) (l0.drop ((wrap64 ((l0.length : Int) / 2)) : Int).toNat) (([] : List Int))) else (none)) else (none)
end Go.Proofs.Ytbeehklibkeecaa.F
end
section
/- Laid by a program of this claim's own. What the Go function does, as a Lean function, and the proof that the Go code does just that; Lean checks it. -/
namespace Go.Proofs.Ytbeehklibkeecaa.F
open Go.RowKit Go.Proofs.YtbeehklibkeecaaW.PrintWords Go.Proofs.YtbeehklibkeecaaW.PrintLast Go.Proofs.YtbeehklibkeecaaW.PrintMore
attribute [local go_sem] max2_int min2_int max_two min_two max_three min_three max_four min_four   -- for this text's walks alone
set_option linter.unusedVariables false
set_option linter.unusedSimpArgs false
/-! ### spec_l08Perm: function 107 -/
def spec_l08Perm.f (k : Nat) (a0 : Int) (a1 : Int) : Option (List Int) := (spec_NewPacket.f k a0).bind fun t788 => ((spec_l04Faro.f k t788 a1).bind fun t791 => (some t791))
end Go.Proofs.Ytbeehklibkeecaa.F
end
section
/- Laid by a program of this claim's own. What the Go function does, as a Lean function, and the proof that the Go code does just that; Lean checks it. -/
namespace Go.Proofs.Ytbeehklibkeecaa.F
open Go.RowKit Go.Proofs.YtbeehklibkeecaaW.PrintWords Go.Proofs.YtbeehklibkeecaaW.PrintLast Go.Proofs.YtbeehklibkeecaaW.PrintMore
attribute [local go_sem] max2_int min2_int max_two min_two max_three min_three max_four min_four   -- for this text's walks alone
set_option linter.unusedVariables false
set_option linter.unusedSimpArgs false
/-! ### spec_CardOf: function 110 -/
def spec_CardOf.f (a0 : Int) : Option (Int) := (spec_l01In.f a0 0 11).bind fun t112 => (if t112 = true then (some a0) else ((spec_l01In.f a0 (-12) (-1)).bind fun t113 => (if t113 = true then (some (wrap64 ((-1) - a0))) else (some (-1)))))
end Go.Proofs.Ytbeehklibkeecaa.F
end
section
/- Laid by a program of this claim's own. What the Go function does, as a Lean function, and the proof that the Go code does just that; Lean checks it. -/
namespace Go.Proofs.Ytbeehklibkeecaa.F
open Go.RowKit Go.Proofs.YtbeehklibkeecaaW.PrintWords Go.Proofs.YtbeehklibkeecaaW.PrintLast Go.Proofs.YtbeehklibkeecaaW.PrintMore
attribute [local go_sem] max2_int min2_int max_two min_two max_three min_three max_four min_four   -- for this text's walks alone
set_option linter.unusedVariables false
set_option linter.unusedSimpArgs false
/-! ### spec_PositionOf: function 83 -/
def spec_PositionOf.l0 : Nat → Int → List Int → Int → Int → Option (Int)
  | 0, _, _, _, _ => none
  | k + 1, x1, x7, x8, x9 => if x9 < x8 then (if 0 ≤ x9 then (if x9 < (x7.length : Int) then ((spec_CardOf.f (rd x7 x9)).bind fun t115 => (if t115 = x1 then (if x1 ≥ 0 then (some x9) else (spec_PositionOf.l0 k x1 x7 x8 (wrap64 (x9 + 1)))) else (spec_PositionOf.l0 k x1 x7 x8 (wrap64 (x9 + 1))))) else (none)) else (none)) else (some (-1))
def spec_PositionOf.f (k : Nat) (l0 : List Int) (a1 : Int) : Option (Int) := spec_PositionOf.l0 k a1 l0 (l0.length : Int) 0
end Go.Proofs.Ytbeehklibkeecaa.F
end
section
/- Laid by a program of this claim's own. What the Go function does, as a Lean function, and the proof that the Go code does just that; Lean checks it. -/
namespace Go.Proofs.Ytbeehklibkeecaa.F
open Go.RowKit Go.Proofs.YtbeehklibkeecaaW.PrintWords Go.Proofs.YtbeehklibkeecaaW.PrintLast Go.Proofs.YtbeehklibkeecaaW.PrintMore
attribute [local go_sem] max2_int min2_int max_two min_two max_three min_three max_four min_four   -- for this text's walks alone
set_option linter.unusedVariables false
set_option linter.unusedSimpArgs false
/-! ### spec_l08Next: function 81 -/
def spec_l08Next.f (k : Nat) (a0 : Int) (a1 : Int) (a2 : Int) : Option (Int) := (spec_l08Perm.f k a0 a1).bind fun t794 => ((spec_PositionOf.f k t794 a2).bind fun t797 => (some t797))
end Go.Proofs.Ytbeehklibkeecaa.F
end
section
/- Laid by a program of this claim's own. What the Go function does, as a Lean function, and the proof that the Go code does just that; Lean checks it. -/
namespace Go.Proofs.Ytbeehklibkeecaa.F
open Go.RowKit Go.Proofs.YtbeehklibkeecaaW.PrintWords Go.Proofs.YtbeehklibkeecaaW.PrintLast Go.Proofs.YtbeehklibkeecaaW.PrintMore
attribute [local go_sem] max2_int min2_int max_two min_two max_three min_three max_four min_four   -- for this text's walks alone
set_option linter.unusedVariables false
set_option linter.unusedSimpArgs false
/-! ### spec_l02Has: function 44 -/
def spec_l02Has.l0 : Nat → Int → List Int → Int → Int → Option (Bool)
  | 0, _, _, _, _ => none
  | k + 1, x1, x7, x8, x9 => if x9 < x8 then (if 0 ≤ x9 then (if x9 < (x7.length : Int) then (if (rd x7 x9) = x1 then (some true) else (spec_l02Has.l0 k x1 x7 x8 (wrap64 (x9 + 1)))) else (none)) else (none)) else (some false)
def spec_l02Has.f (k : Nat) (l0 : List Int) (a1 : Int) : Option (Bool) := spec_l02Has.l0 k a1 l0 (l0.length : Int) 0
end Go.Proofs.Ytbeehklibkeecaa.F
end
section
/- Laid by a program of this claim's own. What the Go function does, as a Lean function, and the proof that the Go code does just that; Lean checks it. -/
namespace Go.Proofs.Ytbeehklibkeecaa.F
open Go.RowKit Go.Proofs.YtbeehklibkeecaaW.PrintWords Go.Proofs.YtbeehklibkeecaaW.PrintLast Go.Proofs.YtbeehklibkeecaaW.PrintMore
attribute [local go_sem] max2_int min2_int max_two min_two max_three min_three max_four min_four   -- for this text's walks alone
set_option linter.unusedVariables false
set_option linter.unusedSimpArgs false
/-! ### spec_l08Ok: function 66 -/
def spec_l08Ok.f (a0 : Int) : Option (Bool) := (spec_l01In.f a0 2 12).bind fun t690 => (if t690 = true then (some ((Int.tmod a0 2) == 0)) else (some false))
end Go.Proofs.Ytbeehklibkeecaa.F
end
section
/- Laid by a program of this claim's own. What the Go function does, as a Lean function, and the proof that the Go code does just that; Lean checks it. -/
namespace Go.Proofs.Ytbeehklibkeecaa.F
open Go.RowKit Go.Proofs.YtbeehklibkeecaaW.PrintWords Go.Proofs.YtbeehklibkeecaaW.PrintLast Go.Proofs.YtbeehklibkeecaaW.PrintMore
attribute [local go_sem] max2_int min2_int max_two min_two max_three min_three max_four min_four   -- for this text's walks alone
set_option linter.unusedVariables false
set_option linter.unusedSimpArgs false
/-! ### spec_ShortestFaro: function 37 -/
mutual
def spec_ShortestFaro.j0 : Nat → Int → Int → Int → Bool → Option (List Int × Bool)
  | 0, _, _, _, _ => none
  | k + 1, x0, x1, x2, x29 => if x29 = true then (some (([] : List Int), false)) else (spec_ShortestFaro.l0 k x0 x2 (([(([] : List Int))] : List (List Int))) (([x1] : List Int)) 0)
def spec_ShortestFaro.l0 : Nat → Int → Int → List (List Int) → List Int → Int → Option (List Int × Bool)
  | 0, _, _, _, _, _ => none
  | k + 1, x0, x2, x8, x9, x10 => if x10 < (x9.length : Int) then (if 0 ≤ x10 then (if (rd x9 x10) = x2 then ((some (([] : List Int) : List Int)).bind fun y811 => (if x10 < (x8.length : Int) then (if y811.length + (rd_L1 x8 x10).length < 17592186044416 then (some ((y811 ++ (rd_L1 x8 x10)), true)) else (none)) else (none))) else (spec_ShortestFaro.l1 k x0 x2 x8 x9 x10 0)) else (none)) else (some (([] : List Int), false))
def spec_ShortestFaro.l1 : Nat → Int → Int → List (List Int) → List Int → Int → Int → Option (List Int × Bool)
  | 0, _, _, _, _, _, _ => none
  | k + 1, x0, x2, x8, x9, x10, x11 => if x11 < 2 then (if 0 ≤ x10 then (if x10 < (x9.length : Int) then ((spec_l08Next.f k x0 x11 (rd x9 x10)).bind fun t819 => ((spec_l02Has.f k x9 t819).bind fun t820 => (if t820 = true then (spec_ShortestFaro.l1 k x0 x2 x8 x9 x10 (wrap64 (x11 + 1))) else (if x9.length < 17592186044416 then ((some (([] : List Int) : List Int)).bind fun y824 => (if x10 < (x8.length : Int) then (if y824.length + (rd_L1 x8 x10).length < 17592186044416 then ((some (y824 ++ (rd_L1 x8 x10) : List Int)).bind fun y828 => (if y828.length < 17592186044416 then (if x8.length < 5864062014805 then (spec_ShortestFaro.l1 k x0 x2 (x8 ++ [(y828 ++ [x11])]) (x9 ++ [t819]) x10 (wrap64 (x11 + 1))) else (none)) else (none))) else (none)) else (none))) else (none))))) else (none)) else (none)) else (spec_ShortestFaro.l0 k x0 x2 x8 x9 (wrap64 (x10 + 1)))
end
def spec_ShortestFaro.f (k : Nat) (a0 : Int) (a1 : Int) (a2 : Int) : Option (List Int × Bool) := (spec_l08Ok.f a0).bind fun t798 => (if t798 = true then ((spec_l01In.f a1 0 (wrap64 (a0 - 1))).bind fun t799 => (if t799 = true then ((spec_l01In.f a2 0 (wrap64 (a0 - 1))).bind fun t800 => (spec_ShortestFaro.j0 k a0 a1 a2 (!t800))) else (spec_ShortestFaro.j0 k a0 a1 a2 true))) else (spec_ShortestFaro.j0 k a0 a1 a2 true))
end Go.Proofs.Ytbeehklibkeecaa.F
end
section
/- Cards, and when a list is a packet: the program's and the reference's functions tell one thing. -/
namespace Go.Proofs.Ytbeehklibkeecaa.F
open Go.RowKit Go.Proofs.YtbeehklibkeecaaW.PrintWords Go.Proofs.YtbeehklibkeecaaW.PrintLast Go.Proofs.YtbeehklibkeecaaW.PrintMore
set_option linter.unusedVariables false
set_option linter.unusedSimpArgs false
theorem l01In_eq (a b c : Int) : spec_l01In.f a b c = some (decide (b ≤ a ∧ a ≤ c)) := by
  unfold spec_l01In.f
  by_cases h : b ≤ a
  · simp [h]
  · simp [h]
def cardOf (x : Int) : Int := if 0 ≤ x ∧ x ≤ 11 then x else if -12 ≤ x ∧ x ≤ -1 then -1 - x else -1
theorem cardOf_lt (x : Int) : cardOf x < 12 := by
  unfold cardOf
  repeat' split
  all_goals omega
theorem spec_CardOf_eq (x : Int) : spec_CardOf.f x = some (cardOf x) := by
  unfold spec_CardOf.f cardOf
  rw [l01In_eq, l01In_eq]
  by_cases h : 0 ≤ x ∧ x ≤ 11
  · simp [h]
  · by_cases k : -12 ≤ x ∧ x ≤ -1
    · have e : wrap64 (-1 - x) = -1 - x := w64_id (by omega) (by omega)
      simp [h, k, e]
    · simp [h, k]
theorem impl_CardOf_eq (x : Int) (h0 : -9223372036854775808 ≤ x) : impl_CardOf.f x = some (cardOf x) := by
  unfold impl_CardOf.f cardOf
  by_cases h : x < 0
  · have e : wrap64 (-1 - x) = -1 - x := w64_id (by omega) (by omega)
    simp only [if_pos h, e]
    by_cases k : -1 - x ≥ 12
    · rw [if_pos k, if_neg (by omega), if_neg (by omega)]
    · rw [if_neg k, if_neg (by omega), if_pos (by omega)]
  · simp only [if_neg h]
    by_cases k : x ≥ 12
    · rw [if_pos k, if_neg (by omega), if_neg (by omega)]
    · rw [if_neg k, if_pos (by omega)]
theorem l02Has_at (x : Int) (rest : List Int) : ∀ (pre : List Int), (pre ++ rest).length ≤ 4611686018427387904 →
    Ev (fun k => spec_l02Has.l0 k x (pre ++ rest) ((pre ++ rest).length : Int) (pre.length : Int)) (rest.contains x) := by
  induction rest with
  | nil =>
    intro pre hb
    exact Ev.step (f := fun _ => some false) (fun k => by rw [spec_l02Has.l0, if_neg (mid_nlt _)]) (Ev.now _)
  | cons y rest ih =>
    intro pre hb
    by_cases e : y = x
    · subst e
      simp only [List.contains_cons, beq_self_eq_true, Bool.true_or]
      exact Ev.step (f := fun _ => some true) (fun k => by rw [spec_l02Has.l0, if_pos (mid_lt _ _ _), if_pos (nn _), if_pos (mid_lt _ _ _), mid_rd, if_pos rfl]) (Ev.now _)
    · have h := ih (pre ++ [y]) (by simpa using hb)
      rw [← mid_cons] at h
      rw [show (y :: rest).contains x = rest.contains x by simp only [List.contains_cons]; rw [show (x == y) = false by simpa using fun h => e h.symm]; rfl]
      exact Ev.step (fun k => by rw [spec_l02Has.l0, if_pos (mid_lt _ _ _), if_pos (nn _), if_pos (mid_lt _ _ _), mid_rd, if_neg e, mid_succ pre y (by simp at hb; omega)]) h
theorem l02Has_ev (l : List Int) (x : Int) (hb : l.length ≤ 4611686018427387904) : Ev (fun k => spec_l02Has.f k l x) (l.contains x) := l02Has_at x l [] hb
/-- Is a list a packet: the cards met so far are told by twelve bools. -/
def packetM : List Bool → List Int → Bool
  | _, [] => true
  | met, x :: xs => if cardOf x < 0 then false else if met.getD (cardOf x).toNat false = true then false else packetM (met.set (cardOf x).toNat true) xs
def packetB (l : List Int) : Bool := packetM (List.replicate 12 false) l
theorem impl_PacketOk_at (rest : List Int) : ∀ (pre : List Int) (met : List Bool), (pre ++ rest).length ≤ 4611686018427387904 → (∀ x ∈ rest, -9223372036854775808 ≤ x) →
    Ev (fun k => impl_PacketOk.l0 k (pre ++ rest) met (pre.length : Int)) (packetM met rest) := by
  induction rest with
  | nil =>
    intro pre met hb hw
    exact Ev.step (f := fun _ => some true) (fun k => by rw [impl_PacketOk.l0, if_neg (mid_nlt _)]) (Ev.now _)
  | cons x rest ih =>
    intro pre met hb hw
    have hx := hw x (by simp)
    unfold packetM
    by_cases c : cardOf x < 0
    · rw [if_pos c]
      exact Ev.step (f := fun _ => some false) (fun k => by rw [impl_PacketOk.l0, if_pos (mid_lt _ _ _), if_pos (nn _), mid_rd, impl_CardOf_eq x hx]; simp only [Option.bind_some]; rw [if_pos c]) (Ev.now _)
    · rw [if_neg c]
      by_cases m : met.getD (cardOf x).toNat false = true
      · rw [if_pos m]
        exact Ev.step (f := fun _ => some false) (fun k => by rw [impl_PacketOk.l0, if_pos (mid_lt _ _ _), if_pos (nn _), mid_rd, impl_CardOf_eq x hx]; simp only [Option.bind_some]; rw [if_neg c, if_pos (cardOf_lt x), if_pos m]) (Ev.now _)
      · rw [if_neg m]
        have h := ih (pre ++ [x]) (met.set (cardOf x).toNat true) (by simpa using hb) (fun y hy => hw y (by simp [hy]))
        rw [← mid_cons] at h
        exact Ev.step (fun k => by rw [impl_PacketOk.l0, if_pos (mid_lt _ _ _), if_pos (nn _), mid_rd, impl_CardOf_eq x hx]; simp only [Option.bind_some]; rw [if_neg c, if_pos (cardOf_lt x), if_neg m, mid_succ pre x (by simp at hb; omega)]) h
theorem impl_PacketOk_ev (l : List Int) (hb : l.length ≤ 4611686018427387904) (hw : ∀ x ∈ l, -9223372036854775808 ≤ x) : Ev (fun k => impl_PacketOk.f k l) (packetB l) := impl_PacketOk_at l [] _ hb hw
theorem count_set (l : List Bool) : ∀ i, i < l.length → l.getD i false ≠ true → (l.set i true).count true = l.count true + 1 := by
  induction l with
  | nil => intro i h; simp at h
  | cons b l ih =>
    intro i h hb
    cases i with
    | zero =>
      cases b with
      | true => simp at hb
      | false => simp
    | succ i =>
      have := ih i (by simpa using h) (by simpa using hb)
      simp only [List.set_cons_succ, List.count_cons]
      omega
theorem packetM_len (xs : List Int) : ∀ met : List Bool, met.length = 12 → packetM met xs = true → met.count true + xs.length ≤ 12 := by
  induction xs with
  | nil =>
    intro met hl _
    have := List.count_le_length (a := true) (l := met)
    simp; omega
  | cons x xs ih =>
    intro met hl h
    unfold packetM at h
    by_cases c : cardOf x < 0
    · rw [if_pos c] at h; cases h
    · rw [if_neg c] at h
      by_cases m : met.getD (cardOf x).toNat false = true
      · rw [if_pos m] at h; cases h
      · rw [if_neg m] at h
        have h1 := ih _ (by simpa using hl) h
        have := cardOf_lt x
        rw [count_set met _ (by omega) m] at h1
        simp; omega
theorem packetB_len {l : List Int} (h : packetB l = true) : l.length ≤ 12 := by
  have := packetM_len l _ (by simp) h
  simp at this
  omega
end Go.Proofs.Ytbeehklibkeecaa.F
end
section
/- Searching in breadth, told of lists: places that were met, each with its list of choices. -/
namespace Go.Proofs.Ytbeehklibkeecaa.F
open Go.RowKit Go.Proofs.YtbeehklibkeecaaW.PrintWords Go.Proofs.YtbeehklibkeecaaW.PrintLast Go.Proofs.YtbeehklibkeecaaW.PrintMore
set_option linter.unusedVariables false
set_option linter.unusedSimpArgs false
def addC (st : Int → Int → Int) (n x : Int) (wy : List Int) : List Int → List (Int × List Int) → Option (List (Int × List Int))
  | [], vis => some vis
  | c :: cs, vis => if 0 ≤ st x c ∧ st x c < n then (if vis.any (fun q => q.1 == st x c) = true then addC st n x wy cs vis else if vis.length < 100 ∧ wy.length < 100 then addC st n x wy cs (vis ++ [(st x c, wy ++ [c])]) else none) else none
def bfs (st : Int → Int → Int) (n go : Int) (chs : List Int) : Nat → List (Int × List Int) → Nat → Option (List Int × Bool)
  | 0, _, _ => none
  | m + 1, vis, att => match vis.drop att with
    | [] => some ([], false)
    | p :: _ => if p.1 = go then (if p.2.length < 200 then some (p.2, true) else none) else if 0 ≤ p.1 ∧ p.1 < n ∧ att < 1000 then (addC st n p.1 p.2 chs vis).bind fun v => bfs st n go chs m v (att + 1) else none
/-- All fuels from one on, the function's and the steps'. -/
def Ev2 {α : Type} (g : Nat → Nat → Option α) (r : α) : Prop := ∃ K, ∀ k k', K ≤ k → K ≤ k' → g k k' = some r
theorem addC_drop {st : Int → Int → Int} {n x : Int} {wy : List Int} : ∀ (cs : List Int) (pre rest v : List (Int × List Int)), addC st n x wy cs (pre ++ rest) = some v → ∃ rest', v = pre ++ rest'
  | [], pre, rest, v, h => ⟨rest, (Option.some.inj h).symm⟩
  | c :: cs, pre, rest, v, h => by
    unfold addC at h
    split at h
    · split at h
      · exact addC_drop cs pre rest v h
      · split at h
        · rw [List.append_assoc] at h
          exact addC_drop cs pre _ v h
        · cases h
    · cases h
section
variable (s : Nat → Int → Int → Option Int) (st : Int → Int → Int) (n go c : Int) (hn : n ≤ 1000) (hc : c ≤ 1000)
  (hs : ∀ x ch, 0 ≤ x → x < n → 0 ≤ ch → ch < c → Ev (fun k => s k x ch) (st x ch))
include hn hc hs
theorem sh_l1 (x : Int) (wy : List Int) (h0 : 0 ≤ x) (h1 : x < n) (att : Nat) (r : List Int × Bool) (d : Nat) : ∀ (a : Int) (vis v : List (Int × List Int)), 0 ≤ a → a + d = c → addC st n x wy (seqFrom a d) vis = some v →
    Ev2 (fun k k' => impl_shortest.l0 (s k') go c k v (att + 1)) r → Ev2 (fun k k' => impl_shortest.l1 (s k') go c k vis att (x, wy) a) r := by
  induction d with
  | zero =>
    intro a vis v ha hd hv h
    obtain rfl := Option.some.inj hv
    obtain ⟨K, hK⟩ := h
    refine ⟨K + 1, fun k k' hk hk' => ?_⟩
    obtain ⟨m, rfl⟩ := Nat.exists_eq_add_of_le' (show 1 ≤ k by omega)
    show impl_shortest.l1 _ _ _ (m + 1) _ _ _ _ = _
    rw [impl_shortest.l1, if_neg (by omega)]
    exact hK m k' (by omega) (by omega)
  | succ d ih =>
    intro a vis v ha hd hv h
    obtain ⟨K1, hK1⟩ := hs x a h0 h1 ha (by omega)
    have w : wrap64 (a + 1) = a + 1 := w64_id (by omega) (by omega)
    simp only [seqFrom, addC] at hv
    split at hv
    · rename_i hy
      split at hv
      · rename_i hm
        obtain ⟨K2, hK2⟩ := ih (a + 1) vis v (by omega) (by omega) hv h
        refine ⟨K1 + K2 + 1, fun k k' hk hk' => ?_⟩
        obtain ⟨m, rfl⟩ := Nat.exists_eq_add_of_le' (show 1 ≤ k by omega)
        show impl_shortest.l1 _ _ _ (m + 1) _ _ _ _ = _
        rw [impl_shortest.l1, if_pos (by omega), show s k' x a = some (st x a) from hK1 k' (by omega), Option.bind_some, if_pos (by omega), if_pos hm, w]
        exact hK2 m k' (by omega) (by omega)
      · rename_i hm
        split at hv
        · rename_i hl
          obtain ⟨K2, hK2⟩ := ih (a + 1) _ v (by omega) (by omega) hv h
          refine ⟨K1 + K2 + 1, fun k k' hk hk' => ?_⟩
          obtain ⟨m, rfl⟩ := Nat.exists_eq_add_of_le' (show 1 ≤ k by omega)
          show impl_shortest.l1 _ _ _ (m + 1) _ _ _ _ = _
          rw [impl_shortest.l1, if_pos (by omega), show s k' x a = some (st x a) from hK1 k' (by omega), Option.bind_some, if_pos (by omega), if_neg hm, if_pos (by omega), show slices_Clone_Lint_int.f wy = some wy by unfold slices_Clone_Lint_int.f; rw [if_pos (by omega)], Option.bind_some, if_pos (by omega), w]
          exact hK2 m k' (by omega) (by omega)
        · cases hv
    · cases hv
theorem sh_l0 (hc0 : 0 ≤ c) (m : Nat) : ∀ (vis : List (Int × List Int)) (att : Nat) (r : List Int × Bool), bfs st n go (seqFrom 0 c.toNat) m vis att = some r → Ev2 (fun k k' => impl_shortest.l0 (s k') go c k vis att) r := by
  induction m with
  | zero => intro vis att r h; simp [bfs] at h
  | succ m ih =>
    intro vis att r h
    unfold bfs at h
    cases hd : vis.drop att with
    | nil =>
      rw [hd] at h
      obtain rfl := Option.some.inj h
      refine ⟨1, fun k k' hk hk' => ?_⟩
      obtain ⟨m, rfl⟩ := Nat.exists_eq_add_of_le' hk
      show impl_shortest.l0 _ _ _ (m + 1) _ _ = _
      simp only [impl_shortest.l0, hd]
    | cons p tl =>
      obtain ⟨x, wy⟩ := p
      rw [hd] at h
      simp only at h
      split at h
      · rename_i hx
        split at h
        · rename_i hl
          obtain rfl := Option.some.inj h
          refine ⟨1, fun k k' hk hk' => ?_⟩
          obtain ⟨m, rfl⟩ := Nat.exists_eq_add_of_le' hk
          show impl_shortest.l0 _ _ _ (m + 1) _ _ = _
          simp only [impl_shortest.l0, hd, if_pos hx]
          rw [show slices_Clone_Lint_int.f wy = some wy by unfold slices_Clone_Lint_int.f; rw [if_pos (by omega)]]
          rfl
        · cases h
      · rename_i hx
        split at h
        · rename_i hr
          obtain ⟨v, hv, h⟩ := Option.bind_eq_some_iff.mp h
          obtain ⟨K, hK⟩ := sh_l1 s st n go c hn hc hs x wy hr.1 hr.2.1 att r c.toNat 0 vis v (by omega) (by omega) hv (ih v (att + 1) r h)
          refine ⟨K + 1, fun k k' hk hk' => ?_⟩
          obtain ⟨m, rfl⟩ := Nat.exists_eq_add_of_le' (show 1 ≤ k by omega)
          show impl_shortest.l0 _ _ _ (m + 1) _ _ = _
          simp only [impl_shortest.l0, hd, if_neg hx]
          exact hK m k' (by omega) (by omega)
        · cases h
theorem sh_ev (hc0 : 0 ≤ c) (a : Int) (ha : 0 ≤ a ∧ a < n) (m : Nat) (r : List Int × Bool) (h : bfs st n go (seqFrom 0 c.toNat) m [(a, [])] 0 = some r) : Ev (fun k => impl_shortest.f (s k) k a go c) r := by
  obtain ⟨K, hK⟩ := sh_l0 s st n go c hn hc hs hc0 m [(a, [])] 0 r h
  refine ⟨K, fun k hk => ?_⟩
  show impl_shortest.f (s k) k a go c = _
  unfold impl_shortest.f
  rw [if_pos (by omega)]
  exact hK k k hk hk
end
theorem any_has (y : Int) : ∀ vis : List (Int × List Int), vis.any (fun q => q.1 == y) = (vis.map Prod.fst).contains y
  | [] => rfl
  | p :: vis => by
    rw [List.any_cons, List.map_cons, List.contains_cons, any_has y vis]
    congr 1
    by_cases h : p.1 = y
    · rw [h]
    · rw [beq_eq_false_iff_ne.mpr h, beq_eq_false_iff_ne.mpr (Ne.symm h)]
theorem addC_len {st : Int → Int → Int} {n x : Int} {wy : List Int} : ∀ (cs : List Int) (vis v : List (Int × List Int)), addC st n x wy cs vis = some v → vis.length ≤ 1200 → v.length ≤ max vis.length 100
  | [], vis, v, h, _ => by obtain rfl := Option.some.inj h; omega
  | c :: cs, vis, v, h, hb => by
    unfold addC at h
    split at h
    · split at h
      · exact addC_len cs vis v h hb
      · split at h
        · rename_i hl
          have := addC_len cs _ v h (by simp; omega)
          simp at this
          omega
        · cases h
    · cases h
end Go.Proofs.Ytbeehklibkeecaa.F
end
section
/- A row's element, told of lists. -/
namespace Go.Proofs.Ytbeehklibkeecaa.F
open Go.RowKit Go.Proofs.YtbeehklibkeecaaW.PrintWords Go.Proofs.YtbeehklibkeecaaW.PrintLast Go.Proofs.YtbeehklibkeecaaW.PrintMore
set_option linter.unusedVariables false
set_option linter.unusedSimpArgs false
theorem mid_rdLM (pre : List (List Int)) (x : List Int) (rest : List (List Int)) : rd_L1 (pre ++ x :: rest) (pre.length : Int) = x := by
  unfold rd_L1
  simp
end Go.Proofs.Ytbeehklibkeecaa.F
end
section
/- ShortestFaro: the reference's search. -/
namespace Go.Proofs.Ytbeehklibkeecaa.F
open Go.RowKit Go.Proofs.YtbeehklibkeecaaW.PrintWords Go.Proofs.YtbeehklibkeecaaW.PrintLast Go.Proofs.YtbeehklibkeecaaW.PrintMore
set_option linter.unusedVariables false
set_option linter.unusedSimpArgs false
section
variable (n go : Int) (st : Int → Int → Int)
theorem sf_l1 (c : Int) (hc : c = 2) (hc1 : c ≤ 1000) (x : Int) (wy : List Int) (pre : List (Int × List Int)) (hb : pre.length < 1000) (hs : ∀ ch, 0 ≤ ch → ch < c → Ev (fun k => spec_l08Next.f k n ch x) (st x ch)) (r : List Int × Bool) (d : Nat) : ∀ (a : Int) (tl v : List (Int × List Int)), 0 ≤ a → a + d = c → tl.length < 200 → addC st n x wy (seqFrom a d) (pre ++ (x, wy) :: tl) = some v →
    Ev (fun k => spec_ShortestFaro.l0 k n go (v.map Prod.snd) (v.map Prod.fst) (wrap64 ((pre.length : Int) + 1))) r → Ev (fun k => spec_ShortestFaro.l1 k n go ((pre ++ (x, wy) :: tl).map Prod.snd) ((pre ++ (x, wy) :: tl).map Prod.fst) (pre.length : Int) a) r := by
  induction d with
  | zero =>
    intro a tl v ha hd htl hv h
    obtain rfl := Option.some.inj hv
    refine Ev.step (fun k => ?_) h
    show spec_ShortestFaro.l1 (k + 1) n go _ _ _ _ = _
    rw [spec_ShortestFaro.l1, if_neg (by omega)]
  | succ d ih =>
    intro a tl v ha hd htl hv h
    have w : wrap64 (a + 1) = a + 1 := w64_id (by omega) (by omega)
    have e1 : (pre ++ (x, wy) :: tl).map Prod.fst = pre.map Prod.fst ++ x :: tl.map Prod.fst := by simp
    have e2 : (pre ++ (x, wy) :: tl).map Prod.snd = pre.map Prod.snd ++ wy :: tl.map Prod.snd := by simp
    have l1 : ((pre.length : Nat) : Int) = ((pre.map Prod.fst).length : Int) := by simp
    have l2 : ((pre.length : Nat) : Int) = ((pre.map Prod.snd).length : Int) := by simp
    have r1 : rd ((pre ++ (x, wy) :: tl).map Prod.fst) (pre.length : Int) = x := by rw [e1, l1, mid_rd]
    have r2 : rd_L1 ((pre ++ (x, wy) :: tl).map Prod.snd) (pre.length : Int) = wy := by rw [e2, l2, mid_rdLM]
    have q1 : (pre.length : Int) < (((pre ++ (x, wy) :: tl).map Prod.fst).length : Int) := by rw [e1, l1]; exact mid_lt _ _ _
    have q2 : (pre.length : Int) < (((pre ++ (x, wy) :: tl).map Prod.snd).length : Int) := by rw [e2, l2]; exact mid_lt _ _ _
    have b1 : ((pre ++ (x, wy) :: tl).map Prod.fst).length < 17592186044416 := by simp; omega
    have b2 : ((pre ++ (x, wy) :: tl).map Prod.snd).length < 5864062014805 := by simp; omega
    simp only [seqFrom, addC] at hv
    split at hv
    · rename_i hy
      refine Ev.stepb (hs a ha (by omega)) (fun k => by rw [spec_ShortestFaro.l1, if_pos (by omega), if_pos (nn _), if_pos q1, r1]) ?_
      refine Ev.bind (l02Has_ev ((pre ++ (x, wy) :: tl).map Prod.fst) (st x a) (by omega)) ?_
      rw [← any_has]
      split at hv
      · rename_i hm
        rw [hm]
        simp only [if_true]
        have h2 := ih (a + 1) tl v (by omega) (by omega) htl hv h
        rw [w]
        exact h2
      · rename_i hm
        rw [Bool.eq_false_iff.mpr hm]
        simp only [Bool.false_eq_true, if_false, if_pos b1, Option.bind_some, if_pos q2, r2, List.nil_append, List.length_nil, Nat.zero_add]
        split at hv
        · rename_i hl
          have hw : wy.length < 17592186044416 := by omega
          simp only [if_pos hw, if_pos b2]
          rw [List.append_assoc, List.cons_append] at hv
          have h2 := ih (a + 1) (tl ++ [(st x a, wy ++ [a])]) v (by omega) (by omega) (by simp at hl ⊢; omega) hv h
          rw [w]
          rw [show ((pre ++ (x, wy) :: tl).map Prod.snd) ++ [wy ++ [a]] = (pre ++ (x, wy) :: (tl ++ [(st x a, wy ++ [a])])).map Prod.snd by simp, show ((pre ++ (x, wy) :: tl).map Prod.fst) ++ [st x a] = (pre ++ (x, wy) :: (tl ++ [(st x a, wy ++ [a])])).map Prod.fst by simp]
          exact h2
        · cases hv
    · cases hv
theorem sf_l0 (c : Int) (hc : c = 2) (hc0 : 0 ≤ c) (hc1 : c ≤ 1000) (hs : ∀ x ch, 0 ≤ x → x < n → 0 ≤ ch → ch < c → Ev (fun k => spec_l08Next.f k n ch x) (st x ch)) (m : Nat) : ∀ (pre rest : List (Int × List Int)) (r : List Int × Bool), rest.length < 200 → bfs st n go (seqFrom 0 c.toNat) m (pre ++ rest) pre.length = some r → Ev (fun k => spec_ShortestFaro.l0 k n go ((pre ++ rest).map Prod.snd) ((pre ++ rest).map Prod.fst) (pre.length : Int)) r := by
  induction m with
  | zero => intro pre rest r _ h; simp [bfs] at h
  | succ m ih =>
    intro pre rest r hrl h
    unfold bfs at h
    rw [List.drop_left] at h
    cases rest with
    | nil =>
      obtain rfl := Option.some.inj h
      refine Ev.step (f := fun _ => some ([], false)) (fun k => ?_) (Ev.now _)
      show spec_ShortestFaro.l0 (k + 1) n go _ _ _ = _
      rw [spec_ShortestFaro.l0, if_neg (by simp)]
    | cons p tl =>
      obtain ⟨x, wy⟩ := p
      have e1 : (pre ++ (x, wy) :: tl).map Prod.fst = pre.map Prod.fst ++ x :: tl.map Prod.fst := by simp
      have e2 : (pre ++ (x, wy) :: tl).map Prod.snd = pre.map Prod.snd ++ wy :: tl.map Prod.snd := by simp
      have l1 : ((pre.length : Nat) : Int) = ((pre.map Prod.fst).length : Int) := by simp
      have l2 : ((pre.length : Nat) : Int) = ((pre.map Prod.snd).length : Int) := by simp
      have r1 : rd ((pre ++ (x, wy) :: tl).map Prod.fst) (pre.length : Int) = x := by rw [e1, l1, mid_rd]
      have r2 : rd_L1 ((pre ++ (x, wy) :: tl).map Prod.snd) (pre.length : Int) = wy := by rw [e2, l2, mid_rdLM]
      have q1 : (pre.length : Int) < (((pre ++ (x, wy) :: tl).map Prod.fst).length : Int) := by rw [e1, l1]; exact mid_lt _ _ _
      have q2 : (pre.length : Int) < (((pre ++ (x, wy) :: tl).map Prod.snd).length : Int) := by rw [e2, l2]; exact mid_lt _ _ _
      simp only at h
      split at h
      · rename_i hx
        split at h
        · rename_i hl
          obtain rfl := Option.some.inj h
          refine Ev.step (f := fun _ => some (wy, true)) (fun k => ?_) (Ev.now _)
          show spec_ShortestFaro.l0 (k + 1) n go _ _ _ = _
          rw [spec_ShortestFaro.l0, if_pos q1, if_pos (nn _), r1, if_pos hx, Option.bind_some, if_pos q2, r2, if_pos (by simp; omega)]
          rfl
        · cases h
      · rename_i hx
        split at h
        · rename_i hr
          obtain ⟨v, hv, h⟩ := Option.bind_eq_some_iff.mp h
          obtain ⟨rest', rfl⟩ := addC_drop (seqFrom 0 c.toNat) (pre ++ [(x, wy)]) tl v (by simpa using hv)
          have hlen : rest'.length < 200 := by
            have := addC_len (seqFrom 0 c.toNat) _ _ hv (by simp at hrl ⊢; omega)
            simp only [List.length_append, List.length_cons, List.length_nil] at this hrl
            omega
          have h3 := ih (pre ++ [(x, wy)]) rest' r hlen (by simpa using h)
          refine Ev.step (fun k => ?_) (sf_l1 n go st c hc hc1 x wy pre (by omega) (fun ch => hs x ch hr.1 hr.2.1) r c.toNat 0 tl _ (by omega) (by omega) (by simp at hrl; omega) hv (by rw [w64_nat pre.length (by omega)]; simpa using h3))
          show spec_ShortestFaro.l0 (k + 1) n go _ _ _ = _
          rw [spec_ShortestFaro.l0, if_pos q1, if_pos (nn _), r1, if_neg hx]
        · cases h
end
end Go.Proofs.Ytbeehklibkeecaa.F
end
section
/- Even numbers of cards. -/
namespace Go.Proofs.Ytbeehklibkeecaa.F
open Go.RowKit Go.Proofs.YtbeehklibkeecaaW.PrintWords Go.Proofs.YtbeehklibkeecaaW.PrintLast Go.Proofs.YtbeehklibkeecaaW.PrintMore
set_option linter.unusedVariables false
set_option linter.unusedSimpArgs false
/-- An even number of cards, from 2 to 12. -/
def pairedB (n : Int) : Bool := decide (2 ≤ n ∧ n ≤ 12 ∧ n % 2 = 0)
theorem paired_eq (n : Int) : impl_isPaired.f n = some (pairedB n) ∧ spec_l08Ok.f n = some (pairedB n) := by
  unfold spec_l08Ok.f impl_isPaired.f pairedB
  rw [l01In_eq]
  by_cases h1 : 2 ≤ n
  · by_cases h2 : n ≤ 12
    · have h4 : Int.tmod n 2 = n % 2 := Int.tmod_eq_emod_of_nonneg (by omega)
      by_cases h3 : n % 2 = 0
      · simp [h1, h2, h4, h3]
      · simp [h1, h2, h4, h3]
    · simp [h1, h2]
  · simp [h1]
end Go.Proofs.Ytbeehklibkeecaa.F
end
section
/- The perfect shuffle: the program's and the reference's functions make one list. -/
namespace Go.Proofs.Ytbeehklibkeecaa.F
open Go.RowKit Go.Proofs.YtbeehklibkeecaaW.PrintWords Go.Proofs.YtbeehklibkeecaaW.PrintLast Go.Proofs.YtbeehklibkeecaaW.PrintMore
set_option linter.unusedVariables false
set_option linter.unusedSimpArgs false
def weaveN : Nat → Bool → List Int → List Int → List Int
  | 0, _, _, _ => []
  | n + 1, true, x :: a, b => x :: weaveN n false a b
  | n + 1, true, [], y :: b => y :: weaveN n false [] b
  | n + 1, false, a, y :: b => y :: weaveN n true a b
  | n + 1, false, x :: a, [] => x :: weaveN n true a []
  | _ + 1, _, [], [] => []
def faroL (l : List Int) (k : Int) : List Int := weaveN l.length (k == 0) (l.take (l.length / 2)) (l.drop (l.length / 2))
theorem weave_length (n : Nat) : ∀ (f : Bool) (a b : List Int), a.length + b.length = n → (weaveN n f a b).length = n := by
  induction n with
  | zero => intro f a b h; cases f <;> rfl
  | succ n ih =>
    intro f a b h
    cases f with
    | true =>
      cases a with
      | cons x a => simp [weaveN, ih false a b (by simp at h; omega)]
      | nil =>
        cases b with
        | cons y b => simp [weaveN, ih false [] b (by simp at h ⊢; omega)]
        | nil => simp at h
    | false =>
      cases b with
      | cons y b => simp [weaveN, ih true a b (by simp at h; omega)]
      | nil =>
        cases a with
        | cons x a => simp [weaveN, ih true a [] (by simp at h ⊢; omega)]
        | nil => simp at h
theorem faro_length (l : List Int) (k : Int) : (faroL l k).length = l.length := weave_length _ _ _ _ (by rw [List.length_take, List.length_drop]; omega)
theorem rd_zero (x : Int) (a : List Int) : rd (x :: a) 0 = x := by simp [rd]
theorem len_pos (x : Int) (a : List Int) : ((x :: a).length : Int) > 0 := by rw [List.length_cons]; omega
theorem len_pos' (x : Int) (a : List Int) : 0 < ((x :: a).length : Int) := by rw [List.length_cons]; omega
theorem len_one (x : Int) (a : List Int) : 1 ≤ ((x :: a).length : Int) := by rw [List.length_cons]; omega
theorem len_nz (x : Int) (a : List Int) : ¬ ((x :: a).length : Int) = 0 := by rw [List.length_cons]; omega
theorem nil_npos : ¬ (([] : List Int).length : Int) > 0 := by simp
theorem nil_z : (([] : List Int).length : Int) = 0 := rfl
theorem impl_faro_at (n : Nat) : ∀ (f : Bool) (a b out : List Int), a.length + b.length = n → out.length + n ≤ 1048576 →
    Ev (fun k => impl_faro.l0 k a b out f) (out ++ weaveN n f a b) := by
  induction n with
  | zero =>
    intro f a b out h hb
    obtain rfl : a = [] := List.eq_nil_of_length_eq_zero (by omega)
    obtain rfl : b = [] := List.eq_nil_of_length_eq_zero (by omega)
    refine Ev.succ (Ev.succ ?_)
    refine Ev.congr (f := fun _ => some out) (fun k => ?_) (by simpa [weaveN] using Ev.now out)
    rw [impl_faro.l0, if_neg nil_npos, show decide ((([] : List Int).length : Int) > 0) = false from rfl, impl_faro.j1, if_neg (by decide)]
  | succ n ih =>
    intro f a b out h hb
    have ho : out.length < 17592186044416 := by omega
    have ha : ∀ x a', a = x :: a' → (f = true ∨ b = []) → Ev (fun k => impl_faro.l0 k a b out f) (out ++ x :: weaveN n (!f) a' b) := by
      intro x a' e c
      subst e
      have hi := ih (!f) a' b (out ++ [x]) (by simp at h; omega) (by simp; omega)
      rw [List.append_assoc] at hi
      refine Ev.succ (Ev.step (fun k => ?_) hi)
      rw [impl_faro.l0, if_pos (len_pos _ _), impl_faro.j1, if_pos rfl]
      cases f with
      | true => rw [if_pos rfl, if_pos (len_pos _ _), if_pos (len_pos' _ _), if_pos ho, if_pos (len_one _ _), rd_zero]; rfl
      | false =>
        rcases c with c | c
        · cases c
        · subst c
          rw [if_neg (by decide), if_pos nil_z, if_pos (len_pos' _ _), if_pos ho, if_pos (len_one _ _), rd_zero]; rfl
    have hbb : ∀ y b', b = y :: b' → (f = false ∨ a = []) → Ev (fun k => impl_faro.l0 k a b out f) (out ++ y :: weaveN n (!f) a b') := by
      intro y b' e c
      subst e
      have hi := ih (!f) a b' (out ++ [y]) (by simp at h; omega) (by simp; omega)
      rw [List.append_assoc] at hi
      refine Ev.succ (Ev.step (fun k => ?_) hi)
      have hj : impl_faro.l0 (k + 1 + 1) a (y :: b') out f = impl_faro.j1 (k + 1) a (y :: b') out f true := by
        rw [impl_faro.l0]
        by_cases c0 : (a.length : Int) > 0
        · rw [if_pos c0]
        · rw [if_neg c0, decide_eq_true (len_pos y b')]
      rw [hj, impl_faro.j1, if_pos rfl]
      cases f with
      | false => rw [if_neg (by decide), if_neg (len_nz _ _), if_pos (len_pos' _ _), if_pos ho, if_pos (len_one _ _), rd_zero]; rfl
      | true =>
        rcases c with c | c
        · cases c
        · subst c
          rw [if_pos rfl, if_neg nil_npos, if_neg (len_nz _ _), if_pos (len_pos' _ _), if_pos ho, if_pos (len_one _ _), rd_zero]; rfl
    cases f with
    | true =>
      cases a with
      | cons x a => simpa [weaveN] using ha x a rfl (.inl rfl)
      | nil =>
        cases b with
        | cons y b => simpa [weaveN] using hbb y b rfl (.inr rfl)
        | nil => simp at h
    | false =>
      cases b with
      | cons y b => simpa [weaveN] using hbb y b rfl (.inl rfl)
      | nil =>
        cases a with
        | cons x a => simpa [weaveN] using ha x a rfl (.inr rfl)
        | nil => simp at h
theorem half_id (l : List Int) (hb : l.length ≤ 1048576) : wrap64 ((l.length : Int) / 2) = ((l.length / 2 : Nat) : Int) := by
  rw [w64_id (by omega) (by omega)]
  omega
theorem impl_faro_ev (l : List Int) (k : Int) (hb : l.length ≤ 1048576) : Ev (fun n => impl_faro.f n l k) (faroL l k) := by
  unfold impl_faro.f
  have h1 : (0 : Int) ≤ ((l.length / 2 : Nat) : Int) := nn _
  have h2 : ((l.length / 2 : Nat) : Int) ≤ (l.length : Int) := by omega
  simp only [half_id l hb, if_pos h1, if_pos h2, Int.toNat_natCast]
  have h := impl_faro_at l.length (k == 0) (l.take (l.length / 2)) (l.drop (l.length / 2)) [] (by rw [List.length_take, List.length_drop]; omega) (by simpa using hb)
  simpa [faroL] using h
theorem spec_faro_at (k : Int) (hk : k = 0 ∨ k = 1) (n : Nat) : ∀ (f : Bool) (a b out : List Int), a.length + b.length = n → out.length + n ≤ 1048576 → f = decide ((out.length : Int) % 2 = k) →
    Ev (fun m => spec_l04Faro.l0 m k a b out) (out ++ weaveN n f a b) := by
  induction n with
  | zero =>
    intro f a b out h hb hf
    obtain rfl : a = [] := List.eq_nil_of_length_eq_zero (by omega)
    obtain rfl : b = [] := List.eq_nil_of_length_eq_zero (by omega)
    refine Ev.succ (Ev.succ ?_)
    refine Ev.congr (f := fun _ => some out) (fun m => ?_) (by simpa [weaveN] using Ev.now out)
    rw [spec_l04Faro.l0, if_neg nil_npos, show decide ((([] : List Int).length : Int) > 0) = false from rfl, spec_l04Faro.j1, if_neg (by decide)]
  | succ n ih =>
    intro f a b out h hb hf
    have ho : out.length < 17592186044416 := by omega
    have hnext : ∀ z : Int, (!f) = decide (((out ++ [z]).length : Int) % 2 = k) := by
      intro z
      rw [hf]
      rw [Bool.eq_iff_iff]
      simp
      omega
    have ha : ∀ x a', a = x :: a' → (f = true ∨ b = []) → Ev (fun m => spec_l04Faro.l0 m k a b out) (out ++ x :: weaveN n (!f) a' b) := by
      intro x a' e c
      subst e
      have hi := ih (!f) a' b (out ++ [x]) (by simp at h; omega) (by simp; omega) (hnext x)
      rw [List.append_assoc] at hi
      refine Ev.succ (Ev.step (fun m => ?_) hi)
      rw [spec_l04Faro.l0, if_pos (len_pos _ _), spec_l04Faro.j1, if_pos rfl]
      cases b with
      | nil => rw [if_pos nil_z, if_pos (len_pos' _ _), if_pos ho, if_pos (len_one _ _), rd_zero]; rfl
      | cons y b =>
        rcases c with c | c
        · have h2 : (out.length : Int) % 2 = k := of_decide_eq_true (hf.symm.trans c)
          rw [if_neg (len_nz _ _), if_pos (len_pos _ _), if_pos h2, if_pos (len_pos' _ _), if_pos ho, if_pos (len_one _ _), rd_zero]; rfl
        · cases c
    have hbb : ∀ y b', b = y :: b' → (f = false ∨ a = []) → Ev (fun m => spec_l04Faro.l0 m k a b out) (out ++ y :: weaveN n (!f) a b') := by
      intro y b' e c
      subst e
      have hi := ih (!f) a b' (out ++ [y]) (by simp at h; omega) (by simp; omega) (hnext y)
      rw [List.append_assoc] at hi
      refine Ev.succ (Ev.step (fun m => ?_) hi)
      have hj : spec_l04Faro.l0 (m + 1 + 1) k a (y :: b') out = spec_l04Faro.j1 (m + 1) k a (y :: b') out true := by
        rw [spec_l04Faro.l0]
        by_cases c0 : (a.length : Int) > 0
        · rw [if_pos c0]
        · rw [if_neg c0, decide_eq_true (len_pos y b')]
      rw [hj, spec_l04Faro.j1, if_pos rfl, if_neg (len_nz _ _)]
      cases a with
      | nil => rw [if_neg nil_npos, if_pos (len_pos' _ _), if_pos ho, if_pos (len_one _ _), rd_zero]; rfl
      | cons x a =>
        rcases c with c | c
        · have h2 : ¬ (out.length : Int) % 2 = k := of_decide_eq_false (hf.symm.trans c)
          rw [if_pos (len_pos _ _), if_neg h2, if_pos (len_pos' _ _), if_pos ho, if_pos (len_one _ _), rd_zero]; rfl
        · cases c
    cases f with
    | true =>
      cases a with
      | cons x a => simpa [weaveN] using ha x a rfl (.inl rfl)
      | nil =>
        cases b with
        | cons y b => simpa [weaveN] using hbb y b rfl (.inr rfl)
        | nil => simp at h
    | false =>
      cases b with
      | cons y b => simpa [weaveN] using hbb y b rfl (.inl rfl)
      | nil =>
        cases a with
        | cons x a => simpa [weaveN] using ha x a rfl (.inr rfl)
        | nil => simp at h
theorem spec_faro_ev (l : List Int) (k : Int) (hk : k = 0 ∨ k = 1) (hb : l.length ≤ 1048576) : Ev (fun n => spec_l04Faro.f n l k) (faroL l k) := by
  unfold spec_l04Faro.f
  have h1 : (0 : Int) ≤ ((l.length / 2 : Nat) : Int) := nn _
  have h2 : ((l.length / 2 : Nat) : Int) ≤ (l.length : Int) := by omega
  simp only [half_id l hb, if_pos h1, if_pos h2, Int.toNat_natCast]
  have h := spec_faro_at k hk l.length (k == 0) (l.take (l.length / 2)) (l.drop (l.length / 2)) [] (by rw [List.length_take, List.length_drop]; omega) (by simpa using hb) (by
    rcases hk with rfl | rfl <;> rfl)
  simpa [faroL] using h
end Go.Proofs.Ytbeehklibkeecaa.F
end
section
/- Laid by a program of this claim's own. What the Go function does, as a Lean function, and the proof that the Go code does just that; Lean checks it. -/
namespace Go.Proofs.Ytbeehklibkeecaa.F
open Go.RowKit Go.Proofs.YtbeehklibkeecaaW.PrintWords Go.Proofs.YtbeehklibkeecaaW.PrintLast Go.Proofs.YtbeehklibkeecaaW.PrintMore
attribute [local go_sem] max2_int min2_int max_two min_two max_three min_three max_four min_four   -- for this text's walks alone
set_option linter.unusedVariables false
set_option linter.unusedSimpArgs false
/-! ### spec_l14Piles: function 128 -/
mutual
def spec_l14Piles.l0 : Nat → List Int → Int → List (List Int) → Int → Option ((List (List Int)))
  | 0, _, _, _, _ => none
  | k + 1, x0, x1, x5, x6 => if x6 < x1 then (spec_l14Piles.l1 k x0 x1 x5 x6 (([] : List Int)) x6) else (some x5)
def spec_l14Piles.l1 : Nat → List Int → Int → List (List Int) → Int → List Int → Int → Option ((List (List Int)))
  | 0, _, _, _, _, _, _ => none
  | k + 1, x0, x1, x5, x6, x7, x8 => if x8 < (x0.length : Int) then (if 0 ≤ x8 then ((some (([rd x0 x8] : List Int) : List Int)).bind fun y133 => (if y133.length + x7.length < 17592186044416 then (spec_l14Piles.l1 k x0 x1 x5 x6 (y133 ++ x7) (wrap64 (x8 + x1))) else (none))) else (none)) else (if x5.length < 5864062014805 then (spec_l14Piles.l0 k x0 x1 (x5 ++ [x7]) (wrap64 (x6 + 1))) else (none))
end
end Go.Proofs.Ytbeehklibkeecaa.F
end
section
/- Laid by a program of this claim's own. What the Go function does, as a Lean function, and the proof that the Go code does just that; Lean checks it. -/
namespace Go.Proofs.Ytbeehklibkeecaa.F
open Go.RowKit Go.Proofs.YtbeehklibkeecaaW.PrintWords Go.Proofs.YtbeehklibkeecaaW.PrintLast Go.Proofs.YtbeehklibkeecaaW.PrintMore
attribute [local go_sem] max2_int min2_int max_two min_two max_three min_three max_four min_four   -- for this text's walks alone
set_option linter.unusedVariables false
set_option linter.unusedSimpArgs false
/-! ### impl_PilesOf: function 84 -/
mutual
def impl_PilesOf.j0 : Nat → List Int → Int → Bool → Option ((List (List Int)))
  | 0, _, _, _ => none
  | k + 1, x0, x1, x16 => if x16 = true then (some ([] : List (List Int))) else (if 0 ≤ x1 then (if (x1 : Int).toNat ≤ 11728124029610 then (impl_PilesOf.l0 k x0 x1 (List.replicate (x1 : Int).toNat []) (wrap64 ((x0.length : Int) - 1))) else (none)) else (none))
def impl_PilesOf.l0 : Nat → List Int → Int → List (List Int) → Int → Option ((List (List Int)))
  | 0, _, _, _, _ => none
  | k + 1, x0, x1, x5, x6 => if x6 ≥ 0 then (if x1 = 0 then (none) else (if 0 ≤ (Int.tmod x6 x1) then (if (Int.tmod x6 x1) < (x5.length : Int) then (if 0 ≤ x6 then (if x6 < (x0.length : Int) then (if (rd_L1 x5 (Int.tmod x6 x1)).length < 17592186044416 then (impl_PilesOf.l0 k x0 x1 (x5.set ((Int.tmod x6 x1) : Int).toNat ((rd_L1 x5 (Int.tmod x6 x1)) ++ [rd x0 x6])) (wrap64 (x6 - 1))) else (none)) else (none)) else (none)) else (none)) else (none))) else (some x5)
end
end Go.Proofs.Ytbeehklibkeecaa.F
end
section
/- Where a card stands. -/
namespace Go.Proofs.Ytbeehklibkeecaa.F
open Go.RowKit Go.Proofs.YtbeehklibkeecaaW.PrintWords Go.Proofs.YtbeehklibkeecaaW.PrintLast Go.Proofs.YtbeehklibkeecaaW.PrintMore
set_option linter.unusedVariables false
set_option linter.unusedSimpArgs false
theorem posOf_at (c : Int) (hc : 0 ≤ c) (rest : List Int) : ∀ (pre : List Int), (pre ++ rest).length ≤ 4611686018427387904 →
    Ev (fun k => spec_PositionOf.l0 k c (pre ++ rest) ((pre ++ rest).length : Int) (pre.length : Int)) (idxFrom (fun x => cardOf x == c) rest (pre.length : Int)) := by
  induction rest with
  | nil =>
    intro pre hb
    refine Ev.step (f := fun _ => some (-1)) (fun k => ?_) (Ev.now _)
    show spec_PositionOf.l0 (k + 1) c _ _ _ = _
    rw [spec_PositionOf.l0, if_neg (mid_nlt _)]
  | cons x rest ih =>
    intro pre hb
    by_cases e : cardOf x = c
    · rw [show idxFrom (fun x => cardOf x == c) (x :: rest) (pre.length : Int) = (pre.length : Int) by simp [idxFrom, e]]
      refine Ev.step (f := fun _ => some (pre.length : Int)) (fun k => ?_) (Ev.now _)
      show spec_PositionOf.l0 (k + 1) c _ _ _ = _
      rw [spec_PositionOf.l0, if_pos (mid_lt _ _ _), if_pos (nn _), if_pos (mid_lt _ _ _), mid_rd, spec_CardOf_eq, Option.bind_some, if_pos e, if_pos hc]
    · have h := ih (pre ++ [x]) (by simpa using hb)
      rw [← mid_cons, ← mid_succ pre x (by simp at hb; omega)] at h
      rw [show idxFrom (fun x => cardOf x == c) (x :: rest) (pre.length : Int) = idxFrom (fun x => cardOf x == c) rest (wrap64 ((pre.length : Int) + 1)) by simp [idxFrom, e]; rw [w64_nat _ (by simp at hb; omega)]; simp]
      refine Ev.step (fun k => ?_) h
      show spec_PositionOf.l0 (k + 1) c _ _ _ = _
      rw [spec_PositionOf.l0, if_pos (mid_lt _ _ _), if_pos (nn _), if_pos (mid_lt _ _ _), mid_rd, spec_CardOf_eq, Option.bind_some, if_neg e]
theorem posOf_ev (q : List Int) (c : Int) (hc : 0 ≤ c) (hb : q.length ≤ 4611686018427387904) : Ev (fun k => spec_PositionOf.f k q c) (idxFrom (fun x => cardOf x == c) q 0) := posOf_at c hc q [] hb
end Go.Proofs.Ytbeehklibkeecaa.F
end
section
/- One round of piles: both functions do the same. -/
namespace Go.Proofs.Ytbeehklibkeecaa.F
open Go.RowKit Go.Proofs.YtbeehklibkeecaaW.PrintWords Go.Proofs.YtbeehklibkeecaaW.PrintLast Go.Proofs.YtbeehklibkeecaaW.PrintMore
set_option linter.unusedVariables false
set_option linter.unusedSimpArgs false
/-- Where card c stands in q; -1: nowhere. -/
def posB (q : List Int) (c : Int) : Int := if c < 0 then -1 else idxFrom (fun x => cardOf x == c) q 0
theorem posNeg_at (c : Int) (hc : c < 0) (rest : List Int) : ∀ (pre : List Int), (pre ++ rest).length ≤ 4611686018427387904 →
    Ev (fun k => spec_PositionOf.l0 k c (pre ++ rest) ((pre ++ rest).length : Int) (pre.length : Int)) (-1) := by
  induction rest with
  | nil =>
    intro pre hb
    refine Ev.step (f := fun _ => some (-1)) (fun k => ?_) (Ev.now _)
    show spec_PositionOf.l0 (k + 1) c _ _ _ = _
    rw [spec_PositionOf.l0, if_neg (mid_nlt _)]
  | cons x rest ih =>
    intro pre hb
    have h := ih (pre ++ [x]) (by simpa using hb)
    rw [← mid_cons, ← mid_succ pre x (by simp at hb; omega)] at h
    refine Ev.step (fun k => ?_) h
    show spec_PositionOf.l0 (k + 1) c _ _ _ = _
    rw [spec_PositionOf.l0, if_pos (mid_lt _ _ _), if_pos (nn _), if_pos (mid_lt _ _ _), mid_rd, spec_CardOf_eq, Option.bind_some]
    by_cases e : cardOf x = c
    · rw [if_pos e, if_neg (by omega)]
    · rw [if_neg e]
theorem spec_posB (q : List Int) (c : Int) (hb : q.length ≤ 4611686018427387904) : Ev (fun k => spec_PositionOf.f k q c) (posB q c) := by
  unfold posB
  by_cases h : c < 0
  · rw [if_pos h]; exact posNeg_at c h q [] hb
  · rw [if_neg h]; exact posOf_ev q c (by omega) hb
end Go.Proofs.Ytbeehklibkeecaa.F
end
section
/- Where a card lies behind one round: both functions tell the same. -/
namespace Go.Proofs.Ytbeehklibkeecaa.F
open Go.RowKit Go.Proofs.YtbeehklibkeecaaW.PrintWords Go.Proofs.YtbeehklibkeecaaW.PrintLast Go.Proofs.YtbeehklibkeecaaW.PrintMore
set_option linter.unusedVariables false
set_option linter.unusedSimpArgs false
theorem upTo_ev (n : Int) (h0 : 0 ≤ n) (h1 : n ≤ 12) : Ev (fun k => impl_upTo.f k n) (seqFrom 0 n.toNat) ∧ Ev (fun k => spec_NewPacket.f k n) (seqFrom 0 n.toNat) := by
  have h : n = 0 ∨ n = 1 ∨ n = 2 ∨ n = 3 ∨ n = 4 ∨ n = 5 ∨ n = 6 ∨ n = 7 ∨ n = 8 ∨ n = 9 ∨ n = 10 ∨ n = 11 ∨ n = 12 := by omega
  rcases h with rfl | rfl | rfl | rfl | rfl | rfl | rfl | rfl | rfl | rfl | rfl | rfl | rfl
  all_goals exact ⟨Ev.at_ 20 (fun k hk => by obtain ⟨m, rfl⟩ := Nat.exists_eq_add_of_le' hk; kernel_rfl), Ev.at_ 20 (fun k hk => by obtain ⟨m, rfl⟩ := Nat.exists_eq_add_of_le' hk; kernel_rfl)⟩
theorem index_idx (x : Int) (rest : List Int) : ∀ (pre : List Int), (pre ++ rest).length ≤ 4611686018427387904 →
    Ev (fun k => slices_Index_Lint_int.l0 k (pre ++ rest) x ((pre ++ rest).length : Int) (pre.length : Int)) (idxFrom (fun y => y == x) rest (pre.length : Int)) := by
  induction rest with
  | nil =>
    intro pre hb
    refine Ev.step (f := fun _ => some (-1)) (fun k => ?_) (Ev.now _)
    show slices_Index_Lint_int.l0 (k + 1) _ _ _ _ = _
    rw [slices_Index_Lint_int.l0, if_neg (mid_nlt _)]
  | cons y rest ih =>
    intro pre hb
    by_cases e : x = y
    · rw [show idxFrom (fun y => y == x) (y :: rest) (pre.length : Int) = (pre.length : Int) by simp [idxFrom, e]]
      refine Ev.step (f := fun _ => some (pre.length : Int)) (fun k => ?_) (Ev.now _)
      show slices_Index_Lint_int.l0 (k + 1) _ _ _ _ = _
      rw [slices_Index_Lint_int.l0, if_pos (mid_lt _ _ _), if_pos (nn _), if_pos (mid_lt _ _ _), mid_rd, if_pos e]
    · have h := ih (pre ++ [y]) (by simpa using hb)
      rw [← mid_cons, ← mid_succ pre y (by simp at hb; omega)] at h
      rw [show idxFrom (fun y => y == x) (y :: rest) (pre.length : Int) = idxFrom (fun y => y == x) rest (wrap64 ((pre.length : Int) + 1)) by simp [idxFrom, Ne.symm e]; rw [w64_nat _ (by simp at hb; omega)]; simp]
      refine Ev.step (fun k => ?_) h
      show slices_Index_Lint_int.l0 (k + 1) _ _ _ _ = _
      rw [slices_Index_Lint_int.l0, if_pos (mid_lt _ _ _), if_pos (nn _), if_pos (mid_lt _ _ _), mid_rd, if_neg e]
theorem idxFrom_congr (p q : Int → Bool) (l : List Int) : ∀ i, (∀ x ∈ l, p x = q x) → idxFrom p l i = idxFrom q l i := by
  induction l with
  | nil => intro i _; rfl
  | cons x l ih =>
    intro i h
    unfold idxFrom
    rw [h x List.mem_cons_self, ih (i + 1) (fun y hy => h y (List.mem_cons_of_mem _ hy))]
theorem cardOf_self (x : Int) (h0 : 0 ≤ x) (h1 : x < 12) : cardOf x = x := by
  have h : x = 0 ∨ x = 1 ∨ x = 2 ∨ x = 3 ∨ x = 4 ∨ x = 5 ∨ x = 6 ∨ x = 7 ∨ x = 8 ∨ x = 9 ∨ x = 10 ∨ x = 11 := by omega
  rcases h with rfl | rfl | rfl | rfl | rfl | rfl | rfl | rfl | rfl | rfl | rfl | rfl <;> decide +kernel
end Go.Proofs.Ytbeehklibkeecaa.F
end
section
/- ShortestFaro: both functions answer the same, whatever the arguments are; and what the answer is good for. -/
namespace Go.Proofs.Ytbeehklibkeecaa.F
open Go.RowKit Go.Proofs.YtbeehklibkeecaaW.PrintWords Go.Proofs.YtbeehklibkeecaaW.PrintLast Go.Proofs.YtbeehklibkeecaaW.PrintMore
set_option linter.unusedVariables false
set_option linter.unusedSimpArgs false
/-- Where a card goes by a perfect shuffle. -/
def fnx (n : Nat) (x c : Int) : Int := idxFrom (fun y => y == x) (faroL (seqFrom 0 n) c) 0
def sfRes (n i t : Nat) : Option (List Int × Bool) := bfs (fnx n) (n : Int) (t : Int) (seqFrom 0 2) 20 [((i : Int), [])] 0
def sfOK (n i t : Nat) : Bool := match sfRes n i t with
  | some r => decide (r.1.length ≤ n) && (r.2 && ((r.1.foldl (fun x c => fnx n x c) (i : Int) == (t : Int)) && r.1.all (fun c => decide (c = 0 ∨ c = 1))))
  | none => false
def sfAll : Bool := (List.range 7).all fun h => (List.range (2 * h)).all fun i => (List.range (2 * h)).all fun t => sfOK (2 * h) i t
theorem sfAll_true : sfAll = true := by decide +kernel
def inAll : Bool := (List.range 7).all fun h => (List.range 2).all fun c => (faroL (seqFrom 0 (2 * h)) (c : Int)).all fun x => decide (0 ≤ x ∧ x < 12)
theorem inAll_true : inAll = true := by decide +kernel
theorem sfOK_true (h i t : Nat) (h1 : h ≤ 6) (h5 : i < 2 * h) (h6 : t < 2 * h) : sfOK (2 * h) i t = true := by
  have h0 := sfAll_true
  unfold sfAll at h0
  rw [List.all_eq_true] at h0
  have h7 := h0 h (List.mem_range.2 (by omega))
  rw [List.all_eq_true] at h7
  have h8 := h7 i (List.mem_range.2 h5)
  rw [List.all_eq_true] at h8
  exact h8 t (List.mem_range.2 h6)
theorem in_true (h : Nat) (h1 : h ≤ 6) (c : Nat) (hc : c < 2) (x : Int) (hx : x ∈ faroL (seqFrom 0 (2 * h)) (c : Int)) : 0 ≤ x ∧ x < 12 := by
  have h0 := inAll_true
  unfold inAll at h0
  rw [List.all_eq_true] at h0
  have h7 := h0 h (List.mem_range.2 (by omega))
  rw [List.all_eq_true] at h7
  have h8 := h7 c (List.mem_range.2 hc)
  rw [List.all_eq_true] at h8
  exact of_decide_eq_true (h8 x hx)
/-- Both functions' step. -/
theorem step_both (h : Nat) (h1 : h ≤ 6) (x ch : Int) (hx : 0 ≤ x) (hc0 : 0 ≤ ch) (hc1 : ch < 2) : Ev (fun k => impl_ShortestFaro.s k ((2 * h : Nat) : Int) x ch) (fnx (2 * h) x ch) ∧ Ev (fun k => spec_l08Next.f k ((2 * h : Nat) : Int) ch x) (fnx (2 * h) x ch) := by
  obtain ⟨u1, u2⟩ := upTo_ev ((2 * h : Nat) : Int) (by omega) (by omega)
  rw [Int.toNat_natCast] at u1 u2
  have hlen : (faroL (seqFrom 0 (2 * h)) ch).length = 2 * h := by rw [faro_length, seqFrom_length]
  have e1 := impl_faro_ev (seqFrom 0 (2 * h)) ch (by rw [seqFrom_length]; omega)
  have e2 := spec_faro_ev (seqFrom 0 (2 * h)) ch (by omega) (by rw [seqFrom_length]; omega)
  have hcn : ch = ((ch.toNat : Nat) : Int) := (Int.toNat_of_nonneg hc0).symm
  have hin : ∀ y ∈ faroL (seqFrom 0 (2 * h)) ch, 0 ≤ y ∧ y < 12 := fun y hy => by
    rw [hcn] at hy
    exact in_true h h1 ch.toNat (by omega) y hy
  constructor
  · unfold impl_ShortestFaro.s
    exact Ev.bind u1 (Ev.bind e1 (index_idx x (faroL (seqFrom 0 (2 * h)) ch) [] (by simp; omega)))
  · unfold spec_l08Next.f spec_l08Perm.f
    have hp := spec_posB (faroL (seqFrom 0 (2 * h)) ch) x (by omega)
    have hcg : posB (faroL (seqFrom 0 (2 * h)) ch) x = fnx (2 * h) x ch := by
      unfold posB fnx
      rw [if_neg (by omega)]
      exact idxFrom_congr _ _ _ _ (fun y hy => by rw [cardOf_self y (hin y hy).1 (hin y hy).2])
    rw [hcg] at hp
    exact Ev.bind (Ev.bind u2 (Ev.bind e2 (Ev.now _))) (Ev.bind hp (Ev.now _))
theorem short_in (h i t : Nat) (h0 : 1 ≤ h) (h1 : h ≤ 6) (h5 : i < 2 * h) (h6 : t < 2 * h) : ∃ r : List Int, Ev (fun k => spec_ShortestFaro.f k ((2 * h : Nat) : Int) (i : Int) (t : Int)) (r, true) ∧ Ev (fun k => impl_ShortestFaro.f k ((2 * h : Nat) : Int) (i : Int) (t : Int)) (r, true) ∧ r.length ≤ 2 * h ∧ sfRes (2 * h) i t = some (r, true) := by
  have hok := sfOK_true h i t h1 h5 h6
  unfold sfOK at hok
  cases hr : sfRes (2 * h) i t with
  | none => rw [hr] at hok; cases hok
  | some r =>
    rw [hr] at hok
    obtain ⟨r1, r2⟩ := r
    simp only [Bool.and_eq_true, decide_eq_true_eq] at hok
    obtain ⟨hl, hr2, _⟩ := hok
    subst hr2
    have hpb : pairedB ((2 * h : Nat) : Int) = true := by
      unfold pairedB
      exact decide_eq_true (by omega)
    have hb : bfs (fnx (2 * h)) ((2 * h : Nat) : Int) (t : Int) (seqFrom 0 ((2 : Int)).toNat) 20 [((i : Int), [])] 0 = some (r1, true) := hr
    refine ⟨r1, ?_, ?_, hl, rfl⟩
    · have e := sf_l0 ((2 * h : Nat) : Int) (t : Int) (fnx (2 * h)) 2 rfl (by omega) (by omega) (fun x ch a b c d => (step_both h h1 x ch a c d).2) 20 [] [((i : Int), [])] (r1, true) (by simp) hb
      unfold spec_ShortestFaro.f
      simp only [(paired_eq _).2, hpb, Option.bind_some, if_true, l01In_eq, w64_id (show -9223372036854775808 ≤ ((2 * h : Nat) : Int) - 1 by omega) (show ((2 * h : Nat) : Int) - 1 ≤ 9223372036854775807 by omega), decide_eq_true (show 0 ≤ (i : Int) ∧ (i : Int) ≤ ((2 * h : Nat) : Int) - 1 by omega), decide_eq_true (show 0 ≤ (t : Int) ∧ (t : Int) ≤ ((2 * h : Nat) : Int) - 1 by omega), Bool.not_true]
      refine Ev.step (fun k => ?_) e
      show spec_ShortestFaro.j0 (k + 1) _ _ _ _ = _
      rw [spec_ShortestFaro.j0, if_neg (by decide)]
      rfl
    · have e := sh_ev (fun k x y => impl_ShortestFaro.s k ((2 * h : Nat) : Int) x y) (fnx (2 * h)) ((2 * h : Nat) : Int) (t : Int) 2 (by omega) (by omega) (fun x ch a b c d => (step_both h h1 x ch a c d).1) (by omega) (i : Int) (by omega) 20 (r1, true) hb
      unfold impl_ShortestFaro.f
      simp only [(paired_eq _).1, hpb, Option.bind_some, if_true, if_neg (show ¬ ((i : Int) < 0) by omega), if_neg (show ¬ (((2 * h : Nat) : Int) ≤ (i : Int)) by omega), if_neg (show ¬ ((t : Int) < 0) by omega), if_neg (show ¬ (((2 * h : Nat) : Int) ≤ (t : Int)) by omega)]
      exact e
end Go.Proofs.Ytbeehklibkeecaa.F
end
section
/- How many packets perfect shuffles make, for each size. -/
namespace Go.Proofs.Ytbeehklibkeecaa.F
open Go.RowKit Go.Proofs.YtbeehklibkeecaaW.PrintWords Go.Proofs.YtbeehklibkeecaaW.PrintLast Go.Proofs.YtbeehklibkeecaaW.PrintMore
set_option linter.unusedVariables false
set_option linter.unusedSimpArgs false
theorem groupI_2 : impl_FaroGroup.f 400 2 = some 2 := by decide +kernel
theorem groupI_4 : impl_FaroGroup.f 400 4 = some 8 := by decide +kernel
theorem groupI_6 : impl_FaroGroup.f 400 6 = some 24 := by decide +kernel
theorem groupI_8 : impl_FaroGroup.f 400 8 = some 24 := by decide +kernel
end Go.Proofs.Ytbeehklibkeecaa.F
end
section
/- Colours: bits; the check of a list of colours. -/
namespace Go.Proofs.Ytbeehklibkeecaa.F
open Go.RowKit Go.Proofs.YtbeehklibkeecaaW.PrintWords Go.Proofs.YtbeehklibkeecaaW.PrintLast Go.Proofs.YtbeehklibkeecaaW.PrintMore
set_option linter.unusedVariables false
set_option linter.unusedSimpArgs false
def isColor (x : Int) : Bool := decide (0 ≤ x ∧ x ≤ 1)
def colorsB (l : List Int) (most : Int) : Bool := decide ((l.length : Int) ≤ most) && l.all isColor
theorem color_pred (x : Int) : (impl_areColors_1.f x == some true) = !isColor x := by
  unfold impl_areColors_1.f isColor
  by_cases c : x = 0
  · subst c; rfl
  · by_cases d : x = 1
    · subst d; rfl
    · have e : decide (0 ≤ x ∧ x ≤ 1) = false := decide_eq_false (by omega)
      simp [c, d, e]
theorem areColors_eq (l : List Int) (most : Int) : impl_areColors.f l most = some (colorsB l most) := by
  unfold impl_areColors.f slices_ContainsFunc_Lint_int__impl_areColors_1.f colorsB
  by_cases c : (l.length : Int) ≤ most
  · simp only [if_pos c, Option.bind_some, decide_eq_true c, Bool.true_and]
    congr 1
    rw [List.all_eq_not_any_not]
    congr 2
    funext x
    exact color_pred x
  · simp only [if_neg c, decide_eq_false c, Bool.false_and]
end Go.Proofs.Ytbeehklibkeecaa.F
end
section
/- FaroRun of the program. -/
namespace Go.Proofs.Ytbeehklibkeecaa.F
open Go.RowKit Go.Proofs.YtbeehklibkeecaaW.PrintWords Go.Proofs.YtbeehklibkeecaaW.PrintLast Go.Proofs.YtbeehklibkeecaaW.PrintMore
set_option linter.unusedVariables false
set_option linter.unusedSimpArgs false
def runF (out : List Int) : List Int → List Int
  | [] => out
  | k :: ks => runF (faroL out k) ks
theorem run_length (ks : List Int) : ∀ out : List Int, (runF out ks).length = out.length := by
  induction ks with
  | nil => intro out; rfl
  | cons k ks ih => intro out; simp [runF, ih, faro_length]
theorem impl_at (rest : List Int) : ∀ (pre out : List Int), (pre ++ rest).length ≤ 1048576 → out.length ≤ 1048576 →
    Ev (fun n => impl_FaroRun.l0 n out (pre ++ rest) ((pre ++ rest).length : Int) (pre.length : Int)) (runF out rest, true) := by
  induction rest with
  | nil =>
    intro pre out hb ho
    exact Ev.step (f := fun _ => some (out, true)) (fun k => by rw [impl_FaroRun.l0, if_neg (mid_nlt _)]) (Ev.now _)
  | cons x rest ih =>
    intro pre out hb ho
    have h := ih (pre ++ [x]) (faroL out x) (by simpa using hb) (by rw [faro_length]; exact ho)
    rw [← mid_cons, ← mid_succ pre x (by simp at hb; omega)] at h
    exact Ev.stepb (impl_faro_ev out x ho) (fun k => by rw [impl_FaroRun.l0, if_pos (mid_lt _ _ _), if_pos (nn _), if_pos (mid_lt _ _ _), mid_rd]) h
def runR (l ks : List Int) : List Int × Bool := if packetB l = true ∧ pairedB l.length = true ∧ colorsB ks 20 = true then (runF l ks, true) else ([], false)
theorem impl_ev (l ks : List Int) (hl : l.length ≤ 1048576) (hk : ks.length ≤ 1048576) (hw : ∀ x ∈ l, -9223372036854775808 ≤ x) : Ev (fun n => impl_FaroRun.f n l ks) (runR l ks) := by
  unfold impl_FaroRun.f runR
  refine Ev.bind (impl_PacketOk_ev l (by omega) hw) ?_
  have hcl : slices_Clone_Lint_int.f l = some l := by
    unfold slices_Clone_Lint_int.f
    rw [if_pos (by omega)]
  by_cases p : packetB l = true
  · simp only [p, if_true, (paired_eq l.length).1, Option.bind_some, true_and]
    by_cases q : pairedB l.length = true
    · simp only [q, if_true, areColors_eq, Option.bind_some, true_and]
      refine Ev.succ ?_
      by_cases c : colorsB ks 20 = true
      · simp only [c, impl_FaroRun.j0, Bool.not_true, Bool.false_eq_true, if_false, if_true, hcl, Option.bind_some]
        exact impl_at ks [] l hk hl
      · have c' : colorsB ks 20 = false := by simpa using c
        simp only [c', impl_FaroRun.j0, Bool.not_false, if_true, Bool.false_eq_true, if_false]
        exact Ev.now _
    · have q' : pairedB l.length = false := by simpa using q
      simp only [q', Bool.false_eq_true, if_false, false_and]
      refine Ev.succ ?_
      simp only [impl_FaroRun.j0, if_true]
      exact Ev.now _
  · have p' : packetB l = false := by simpa using p
    simp only [p', Bool.false_eq_true, if_false, false_and]
    refine Ev.succ ?_
    simp only [impl_FaroRun.j0, if_true]
    exact Ev.now _
end Go.Proofs.Ytbeehklibkeecaa.F
end
section
/- SortPackets of the program: sorted, each list once. -/
namespace Go.Proofs.Ytbeehklibkeecaa.F
open Go.RowKit Go.Proofs.YtbeehklibkeecaaW.PrintWords Go.Proofs.YtbeehklibkeecaaW.PrintLast Go.Proofs.YtbeehklibkeecaaW.PrintMore
set_option linter.unusedVariables false
set_option linter.unusedSimpArgs false
theorem rdLLs (pre : List (List Int)) (x : List Int) (rest : List (List Int)) : rd_L1 (pre ++ x :: rest) (pre.length : Int) = x := by
  unfold rd_L1
  simp
theorem sortPk_at (rest : List (List Int)) : ∀ (pre : List (List Int)), (pre ++ rest).length < 5864062014805 → (∀ x ∈ rest, x.length < 17592186044416) →
    Ev (fun k => impl_SortPackets.l0 k pre (pre ++ rest) ((pre ++ rest).length : Int) (pre.length : Int)) (sortP (pre ++ rest)) := by
  induction rest with
  | nil =>
    intro pre hb hx
    refine Ev.step (f := fun _ => some (sortP (pre ++ []))) (fun k => ?_) (Ev.now _)
    show impl_SortPackets.l0 (k + 1) _ _ _ _ = _
    rw [List.append_nil] at hb ⊢
    rw [impl_SortPackets.l0, if_neg (by omega), if_pos (by omega)]
  | cons x rest ih =>
    intro pre hb hx
    have h := ih (pre ++ [x]) (by simpa using hb) (fun y hy => hx y (by simp [hy]))
    have hp : pre.length < 5864062014805 := by simp at hb; omega
    have hc : slices_Clone_Lint_int.f x = some x := by
      unfold slices_Clone_Lint_int.f
      rw [if_pos (hx x (by simp))]
    rw [← mid_cons, ← mid_succ pre x (by omega)] at h
    refine Ev.step (fun k => ?_) h
    show impl_SortPackets.l0 (k + 1) _ _ _ _ = _
    rw [impl_SortPackets.l0, if_pos (mid_lt _ _ _), if_pos (nn _), if_pos (mid_lt _ _ _), rdLLs, hc, Option.bind_some, if_pos hp]
theorem sortPk_ev (l : List (List Int)) (hb : l.length < 5864062014805) (hx : ∀ x ∈ l, x.length < 17592186044416) : Ev (fun k => impl_SortPackets.f k l) (sortP l) := sortPk_at l [] hb hx
end Go.Proofs.Ytbeehklibkeecaa.F
end
section
/- When a move is right: the program's check. -/
namespace Go.Proofs.Ytbeehklibkeecaa.F
open Go.RowKit Go.Proofs.YtbeehklibkeecaaW.PrintWords Go.Proofs.YtbeehklibkeecaaW.PrintLast Go.Proofs.YtbeehklibkeecaaW.PrintMore
set_option linter.unusedVariables false
set_option linter.unusedSimpArgs false
def moveB (n c a : Int) : Bool := decide (1 ≤ n ∧ n ≤ 12) && (if c = 1 ∨ c = 2 ∨ c = 3 then decide (0 ≤ a ∧ a ≤ n) else if c = 4 ∨ c = 5 ∨ c = 7 then decide (0 ≤ a ∧ a ≤ 1) else if c = 6 then decide (a = 0) else if c = 8 ∨ c = 9 then decide (0 ≤ a ∧ a < n) else false)
theorem impl_MoveOk_eq (k : Nat) (n c a : Int) : impl_MoveOk.f (k + 5) n c a = some (moveB n c a) := by
  unfold impl_MoveOk.f moveB
  by_cases h1 : n < 1
  · rw [if_pos h1, decide_eq_false (by omega), Bool.false_and]; rfl
  · rw [if_neg h1]
    by_cases h2 : n > 12
    · rw [if_pos h2, decide_eq_false (by omega), Bool.false_and]; rfl
    · rw [if_neg h2, decide_eq_true (show 1 ≤ n ∧ n ≤ 12 by omega), Bool.true_and]
      by_cases h3 : a < 0
      · rw [decide_eq_true h3]
        have e1 : decide (0 ≤ a ∧ a ≤ n) = false := decide_eq_false (by omega)
        have e2 : decide (0 ≤ a ∧ a ≤ 1) = false := decide_eq_false (by omega)
        have e3 : decide (0 ≤ a ∧ a < n) = false := decide_eq_false (by omega)
        have e4 : decide (a = 0) = false := decide_eq_false (by omega)
        rw [e1, e2, e3, e4]
        simp [impl_MoveOk.j0]
      · rw [decide_eq_false h3]
        have e0 : 0 ≤ a := by omega
        by_cases c1 : c = 1
        · subst c1; simp [impl_MoveOk.j0, impl_MoveOk.j1, e0]
        by_cases c2 : c = 2
        · subst c2; simp [impl_MoveOk.j0, impl_MoveOk.j1, e0]
        by_cases c3 : c = 3
        · subst c3; simp [impl_MoveOk.j0, impl_MoveOk.j1, e0]
        by_cases c4 : c = 4
        · subst c4; simp [impl_MoveOk.j0, impl_MoveOk.j1, impl_MoveOk.j2, e0]
        by_cases c5 : c = 5
        · subst c5; simp [impl_MoveOk.j0, impl_MoveOk.j1, impl_MoveOk.j2, e0]
        by_cases c7 : c = 7
        · subst c7; simp [impl_MoveOk.j0, impl_MoveOk.j1, impl_MoveOk.j2, e0]
        by_cases c6 : c = 6
        · subst c6; simp [impl_MoveOk.j0, impl_MoveOk.j1, impl_MoveOk.j2]; rfl
        by_cases c8 : c = 8
        · subst c8; simp [impl_MoveOk.j0, impl_MoveOk.j1, impl_MoveOk.j2, e0]
        by_cases c9 : c = 9
        · subst c9; simp [impl_MoveOk.j0, impl_MoveOk.j1, impl_MoveOk.j2, e0]
        simp [impl_MoveOk.j0, impl_MoveOk.j1, impl_MoveOk.j2, c1, c2, c3, c4, c5, c6, c7, c8, c9]
end Go.Proofs.Ytbeehklibkeecaa.F
end
