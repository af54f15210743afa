/- PilesOf: both functions deal the same piles. -/
import Derived.Test.YtclmicogljidkaaF24
import Derived.Test.YtclmicogljidkaaF25
import Derived.Test.YtclmicogljidkaaF26
import Derived.Test.YtclmicogljidkaaF55
import Derived.Test.YtclmicogljidkaaF56
import Derived.Test.YtclmicogljidkaaF57
import Derived.Test.YtclmicogljidkaaF60
import Derived.Test.YtclmicogljidkaaF61
import Derived.Test.YtclmicogljidkaaF62
import Derived.Test.YtclmicogljidkaaGLaws
import Derived.Test.YtclmicogljidkaaGLawsSS
import Derived.Test.YtclmicogljidkaaGCards
import Derived.Test.YtclmicogljidkaaGPiles
import Derived.Test.YtclmicogljidkaaM
namespace Go.Proofs.Ytclmicogljidkaa.Pure
open Go.RowKit Go.Proofs.Ytclmicogljidkaa.F Go.Proofs.YtclmicogljidkaaW.PrintWords Go.Proofs.YtclmicogljidkaaW.PrintLast Go.Proofs.YtclmicogljidkaaW.PrintMore
set_option linter.unusedVariables false
set_option linter.unusedSimpArgs false
theorem FnExactPilesOf : laws_FnExactPilesOf.Pure := by
  intro l a hm hb hw ha
  by_cases hbig : (l.length : Int) > 1048576
  · exact Or.inl hbig
  refine Or.inr ?_
  have hl : l.length ≤ 1048576 := by omega
  have E1 := toIntS_ev l (by omega)
  have E2 := spec_PacketOk_ev l
  have E3 := impl_PacketOk_ev l (by omega) (fun x hx => (wf64 (hw x hx)).1)
  have E4 := eqIntS_same l (by omega)
  have E5 := markIntS_ev l 1 (by omega) (by omega) (by omega)
  have key : ∃ r : List (List Int), Ev (fun k => spec_PilesOf.f k l a) r ∧ Ev (fun k => impl_PilesOf.f k l a) r ∧ r.length ≤ 12 ∧ (∀ y ∈ r, y.length ≤ 12) ∧ total r ≤ 12 := by
    by_cases h : packetB l = true ∧ pilesB (l.length : Int) a = true
    · obtain ⟨r, d1, d2, d3, d4, d5⟩ := dealt_ex l a h.2
      have D1 : Ev (fun k => spec_l14Piles.f k l a) r := Ev.at_ 60 (fun k hk => by obtain ⟨m, rfl⟩ := Nat.exists_eq_add_of_le' hk; exact d1 m)
      have D2 : Ev (fun k => impl_PilesOf.j0 k l a false) r := Ev.at_ 60 (fun k hk => by obtain ⟨m, rfl⟩ := Nat.exists_eq_add_of_le' hk; exact d2 m)
      refine ⟨r, ?_, ?_, d3, d4, d5⟩
      · unfold spec_PilesOf.f
        refine Ev.bind E2 ?_
        simp only [h.1, if_true, spec_PilesOk_eq, h.2, Option.bind_some]
        exact Ev.bind D1 (Ev.now _)
      · unfold impl_PilesOf.f
        refine Ev.bind E3 ?_
        simp only [h.1, if_true, impl_PilesOk_eq, h.2, Option.bind_some, Bool.not_true]
        exact D2
    · refine ⟨[], ?_, ?_, by decide, by simp, by decide⟩
      · unfold spec_PilesOf.f
        refine Ev.bind E2 ?_
        simp only [spec_PilesOk_eq, Option.bind_some]
        by_cases h1 : packetB l = true
        · have h2 : pilesB (l.length : Int) a = false := by simpa [h1] using h
          simp only [h1, h2, if_true, Bool.false_eq_true, if_false]
          exact Ev.now _
        · simp only [h1, if_false]
          exact Ev.now _
      · have hj : Ev (fun k => impl_PilesOf.j0 k l a true) [] := Ev.at_ 1 (fun k hk => by obtain ⟨m, rfl⟩ := Nat.exists_eq_add_of_le' hk; rfl)
        unfold impl_PilesOf.f
        refine Ev.bind E3 ?_
        simp only [impl_PilesOk_eq, Option.bind_some]
        by_cases h1 : packetB l = true
        · have h2 : pilesB (l.length : Int) a = false := by simpa [h1] using h
          simp only [h1, h2, if_true, Bool.not_false]
          exact hj
        · simp only [h1, if_false]
          exact hj
  obtain ⟨r, E6, E7, h3, h4, h5⟩ := key
  have E8 := eqIntSS_same r (by omega) (fun x hx => by have := h4 x hx; omega)
  have E9 := markIntSS_ev r 1 (by omega) (by omega) (by omega)
  have E10 := heldIntSS_ev r 1 (by omega) (by omega) (by omega)
  obtain ⟨k1, H1⟩ := E1
  obtain ⟨k4, H4⟩ := E4
  obtain ⟨k5, H5⟩ := E5
  obtain ⟨k6, H6⟩ := E6
  obtain ⟨k7, H7⟩ := E7
  obtain ⟨k8, H8⟩ := E8
  obtain ⟨k9, H9⟩ := E9
  obtain ⟨k10, H10⟩ := E10
  refine ⟨k1 + k4 + k5 + k6 + k7 + k8 + k9 + k10, r, _, _, _, _, H1 _ (by omega), H6 _ (by omega), H7 _ (by omega), H8 _ (by omega), H4 _ (by omega), H5 _ (by omega), by omega, H9 _ (by omega), H10 _ (by omega), by omega⟩
end Go.Proofs.Ytclmicogljidkaa.Pure
