import Derived.Test.YtgldcbcefncjjaaZGFnExactFourForce11
import Derived.Test.YtgldcbcefncjjaaZGFnExactFourForce8
import Derived.Test.YtgldcbcefncjjaaZGFnExactFourForce4
section
/- PairForce: both functions make the same. -/
namespace Go.Proofs.Ytgldcbcefncjjaa.Pure
open Go.RowKit Go.Proofs.Ytgldcbcefncjjaa.F Go.Proofs.YtgldcbcefncjjaaW.PrintWords Go.Proofs.YtgldcbcefncjjaaW.PrintLast Go.Proofs.YtgldcbcefncjjaaW.PrintMore
set_option linter.unusedVariables false
set_option linter.unusedSimpArgs false
theorem FnExactPairForce : laws_FnExactPairForce.Pure := by
  intro l a hq _
  by_cases c : (l.length : Int) > 1048576
  · exact ⟨0, by unfold laws_FnExactPairForce.f; rw [if_pos c]⟩
  · have hb : l.length ≤ 1048576 := by omega
    have hR : (pairR l a).1.length ≤ 7 ∧ wN (pairR l a).1 ≤ 100 ∧ ∀ x ∈ (pairR l a).1, x.f1.length ≤ 4611686018427387904 := by
      unfold pairR
      split
      · rename_i hc
        have h2 := objB_len hc
        have hle : ∀ x ∈ pairN ++ l.map (sayN a), x.f1.length ≤ 2 := by
          intro x hx
          rcases List.mem_append.1 hx with hx | hx
          · rw [List.mem_singleton.1 hx]; exact Nat.le_refl _
          · obtain ⟨y, _, rfl⟩ := List.mem_map.1 hx
            simp [sayN]
        refine ⟨by simp [pairN]; omega, ?_, fun x hx => by have := hle x hx; omega⟩
        have : ∀ m : List IN, (∀ x ∈ m, x.f1.length ≤ 2) → wN m ≤ 4 * m.length := by
          intro m
          induction m with
          | nil => intro _; simp [wN]
          | cons y m ih =>
            intro h
            have h1 := h y (by simp)
            have h2 := ih (fun x hx => h x (by simp [hx]))
            rw [wN_cons]
            simp only [List.length_cons]
            omega
        have h3 := this _ hle
        have h4 : (pairN ++ l.map (sayN a)).length ≤ 3 := by simp [pairN]; omega
        show wN (pairN ++ l.map (sayN a)) ≤ 100
        omega
      · exact ⟨by simp, by decide, by simp⟩
    obtain ⟨k2, H2⟩ := spec_pair_ev l a hb
    obtain ⟨k3, H3⟩ := impl_pair_ev l a hb
    generalize pairR l a = R at H2 H3 hR
    obtain ⟨hl, hw, hx2⟩ := hR
    obtain ⟨k4, H4⟩ := markIntS_ev l 1 (by omega) (by omega) (by omega)
    obtain ⟨k5, H5⟩ := markNodeS_ev R.1 1 (by omega) (by omega) (by omega)
    obtain ⟨k6, H6⟩ := toIntS_ev l (by omega)
    obtain ⟨k7, H7⟩ := eqNodeS_same R.1 (by omega) hx2
    obtain ⟨k8, H8⟩ := eqIntS_same l (by omega)
    obtain ⟨k9, H9⟩ := heldNodeS_ev R.1 1 (by omega) (by omega) (by omega)
    obtain ⟨K, hK⟩ : ∃ K, K = k2 + k3 + k4 + k5 + k6 + k7 + k8 + k9 := ⟨_, rfl⟩
    have e6 : laws_toIntS.f K l = some l := H6 K (by omega)
    have e2 : spec_PairForce.f K l a = some R := H2 K (by omega)
    have e4 : laws_markIntS.f K l 1 = some ((1 : Int) + (l.length : Int), seqFrom 1 l.length) := H4 K (by omega)
    have e5 : laws_markNodeS.f K R.1 1 = some ((1 : Int) + (wN R.1 : Int), markN 1 R.1) := H5 K (by omega)
    refine ⟨K, ?_⟩
    unfold laws_FnExactPairForce.f
    rw [if_neg c, e6, Option.bind_some, e2, Option.bind_some, e4, Option.bind_some, e5, Option.bind_some]
    rw [if_pos]
    exact ⟨H3 K (by omega), H7 K (by omega), H8 K (by omega), by simp only; omega, by simp only; omega, H9 K (by omega)⟩
end Go.Proofs.Ytgldcbcefncjjaa.Pure
end
