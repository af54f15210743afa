/- The perfect shuffle: the program's and the reference's functions make one list. -/
import Derived.Test.YtclmicogljidkaaF66
import Derived.Test.YtclmicogljidkaaF67
import Derived.Test.YtclmicogljidkaaF74
import Derived.Test.YtclmicogljidkaaF76
import Derived.Test.YtclmicogljidkaaF80
import Derived.Test.YtclmicogljidkaaF85
import Derived.Test.YtclmicogljidkaaGCards
import Derived.Test.YtclmicogljidkaaM
namespace Go.Proofs.Ytclmicogljidkaa.F
open Go.RowKit Go.Proofs.YtclmicogljidkaaW.PrintWords Go.Proofs.YtclmicogljidkaaW.PrintLast Go.Proofs.YtclmicogljidkaaW.PrintMore
set_option linter.unusedVariables false
set_option linter.unusedSimpArgs false
def weaveN : Nat → Bool → List Int → List Int → List Int
  | 0, _, _, _ => []
  | n + 1, true, x :: a, b => x :: weaveN n false a b
  | n + 1, true, [], y :: b => y :: weaveN n false [] b
  | n + 1, false, a, y :: b => y :: weaveN n true a b
  | n + 1, false, x :: a, [] => x :: weaveN n true a []
  | _ + 1, _, [], [] => []
def faroL (l : List Int) (k : Int) : List Int := weaveN l.length (k == 0) (l.take (l.length / 2)) (l.drop (l.length / 2))
theorem weave_length (n : Nat) : ∀ (f : Bool) (a b : List Int), a.length + b.length = n → (weaveN n f a b).length = n := by
  induction n with
  | zero => intro f a b h; cases f <;> rfl
  | succ n ih =>
    intro f a b h
    cases f with
    | true =>
      cases a with
      | cons x a => simp [weaveN, ih false a b (by simp at h; omega)]
      | nil =>
        cases b with
        | cons y b => simp [weaveN, ih false [] b (by simp at h ⊢; omega)]
        | nil => simp at h
    | false =>
      cases b with
      | cons y b => simp [weaveN, ih true a b (by simp at h; omega)]
      | nil =>
        cases a with
        | cons x a => simp [weaveN, ih true a [] (by simp at h ⊢; omega)]
        | nil => simp at h
theorem faro_length (l : List Int) (k : Int) : (faroL l k).length = l.length := weave_length _ _ _ _ (by rw [List.length_take, List.length_drop]; omega)
theorem rd_zero (x : Int) (a : List Int) : rd (x :: a) 0 = x := by simp [rd]
theorem len_pos (x : Int) (a : List Int) : ((x :: a).length : Int) > 0 := by rw [List.length_cons]; omega
theorem len_pos' (x : Int) (a : List Int) : 0 < ((x :: a).length : Int) := by rw [List.length_cons]; omega
theorem len_one (x : Int) (a : List Int) : 1 ≤ ((x :: a).length : Int) := by rw [List.length_cons]; omega
theorem len_nz (x : Int) (a : List Int) : ¬ ((x :: a).length : Int) = 0 := by rw [List.length_cons]; omega
theorem nil_npos : ¬ (([] : List Int).length : Int) > 0 := by simp
theorem nil_z : (([] : List Int).length : Int) = 0 := rfl
theorem impl_faro_at (n : Nat) : ∀ (f : Bool) (a b out : List Int), a.length + b.length = n → out.length + n ≤ 1048576 →
    Ev (fun k => impl_faro.l0 k a b out f) (out ++ weaveN n f a b) := by
  induction n with
  | zero =>
    intro f a b out h hb
    obtain rfl : a = [] := List.eq_nil_of_length_eq_zero (by omega)
    obtain rfl : b = [] := List.eq_nil_of_length_eq_zero (by omega)
    refine Ev.succ (Ev.succ ?_)
    refine Ev.congr (f := fun _ => some out) (fun k => ?_) (by simpa [weaveN] using Ev.now out)
    rw [impl_faro.l0, if_neg nil_npos, show decide ((([] : List Int).length : Int) > 0) = false from rfl, impl_faro.j1, if_neg (by decide)]
  | succ n ih =>
    intro f a b out h hb
    have ho : out.length < 17592186044416 := by omega
    have ha : ∀ x a', a = x :: a' → (f = true ∨ b = []) → Ev (fun k => impl_faro.l0 k a b out f) (out ++ x :: weaveN n (!f) a' b) := by
      intro x a' e c
      subst e
      have hi := ih (!f) a' b (out ++ [x]) (by simp at h; omega) (by simp; omega)
      rw [List.append_assoc] at hi
      refine Ev.succ (Ev.step (fun k => ?_) hi)
      rw [impl_faro.l0, if_pos (len_pos _ _), impl_faro.j1, if_pos rfl]
      cases f with
      | true => rw [if_pos rfl, if_pos (len_pos _ _), if_pos (len_pos' _ _), if_pos ho, if_pos (len_one _ _), rd_zero]; rfl
      | false =>
        rcases c with c | c
        · cases c
        · subst c
          rw [if_neg (by decide), if_pos nil_z, if_pos (len_pos' _ _), if_pos ho, if_pos (len_one _ _), rd_zero]; rfl
    have hbb : ∀ y b', b = y :: b' → (f = false ∨ a = []) → Ev (fun k => impl_faro.l0 k a b out f) (out ++ y :: weaveN n (!f) a b') := by
      intro y b' e c
      subst e
      have hi := ih (!f) a b' (out ++ [y]) (by simp at h; omega) (by simp; omega)
      rw [List.append_assoc] at hi
      refine Ev.succ (Ev.step (fun k => ?_) hi)
      have hj : impl_faro.l0 (k + 1 + 1) a (y :: b') out f = impl_faro.j1 (k + 1) a (y :: b') out f true := by
        rw [impl_faro.l0]
        by_cases c0 : (a.length : Int) > 0
        · rw [if_pos c0]
        · rw [if_neg c0, decide_eq_true (len_pos y b')]
      rw [hj, impl_faro.j1, if_pos rfl]
      cases f with
      | false => rw [if_neg (by decide), if_neg (len_nz _ _), if_pos (len_pos' _ _), if_pos ho, if_pos (len_one _ _), rd_zero]; rfl
      | true =>
        rcases c with c | c
        · cases c
        · subst c
          rw [if_pos rfl, if_neg nil_npos, if_neg (len_nz _ _), if_pos (len_pos' _ _), if_pos ho, if_pos (len_one _ _), rd_zero]; rfl
    cases f with
    | true =>
      cases a with
      | cons x a => simpa [weaveN] using ha x a rfl (.inl rfl)
      | nil =>
        cases b with
        | cons y b => simpa [weaveN] using hbb y b rfl (.inr rfl)
        | nil => simp at h
    | false =>
      cases b with
      | cons y b => simpa [weaveN] using hbb y b rfl (.inl rfl)
      | nil =>
        cases a with
        | cons x a => simpa [weaveN] using ha x a rfl (.inr rfl)
        | nil => simp at h
theorem half_id (l : List Int) (hb : l.length ≤ 1048576) : wrap64 ((l.length : Int) / 2) = ((l.length / 2 : Nat) : Int) := by
  rw [w64_id (by omega) (by omega)]
  omega
theorem impl_faro_ev (l : List Int) (k : Int) (hb : l.length ≤ 1048576) : Ev (fun n => impl_faro.f n l k) (faroL l k) := by
  unfold impl_faro.f
  have h1 : (0 : Int) ≤ ((l.length / 2 : Nat) : Int) := nn _
  have h2 : ((l.length / 2 : Nat) : Int) ≤ (l.length : Int) := by omega
  simp only [half_id l hb, if_pos h1, if_pos h2, Int.toNat_natCast]
  have h := impl_faro_at l.length (k == 0) (l.take (l.length / 2)) (l.drop (l.length / 2)) [] (by rw [List.length_take, List.length_drop]; omega) (by simpa using hb)
  simpa [faroL] using h
theorem spec_faro_at (k : Int) (hk : k = 0 ∨ k = 1) (n : Nat) : ∀ (f : Bool) (a b out : List Int), a.length + b.length = n → out.length + n ≤ 1048576 → f = decide ((out.length : Int) % 2 = k) →
    Ev (fun m => spec_l04Faro.l0 m k a b out) (out ++ weaveN n f a b) := by
  induction n with
  | zero =>
    intro f a b out h hb hf
    obtain rfl : a = [] := List.eq_nil_of_length_eq_zero (by omega)
    obtain rfl : b = [] := List.eq_nil_of_length_eq_zero (by omega)
    refine Ev.succ (Ev.succ ?_)
    refine Ev.congr (f := fun _ => some out) (fun m => ?_) (by simpa [weaveN] using Ev.now out)
    rw [spec_l04Faro.l0, if_neg nil_npos, show decide ((([] : List Int).length : Int) > 0) = false from rfl, spec_l04Faro.j1, if_neg (by decide)]
  | succ n ih =>
    intro f a b out h hb hf
    have ho : out.length < 17592186044416 := by omega
    have hnext : ∀ z : Int, (!f) = decide (((out ++ [z]).length : Int) % 2 = k) := by
      intro z
      rw [hf]
      rw [Bool.eq_iff_iff]
      simp
      omega
    have ha : ∀ x a', a = x :: a' → (f = true ∨ b = []) → Ev (fun m => spec_l04Faro.l0 m k a b out) (out ++ x :: weaveN n (!f) a' b) := by
      intro x a' e c
      subst e
      have hi := ih (!f) a' b (out ++ [x]) (by simp at h; omega) (by simp; omega) (hnext x)
      rw [List.append_assoc] at hi
      refine Ev.succ (Ev.step (fun m => ?_) hi)
      rw [spec_l04Faro.l0, if_pos (len_pos _ _), spec_l04Faro.j1, if_pos rfl]
      cases b with
      | nil => rw [if_pos nil_z, if_pos (len_pos' _ _), if_pos ho, if_pos (len_one _ _), rd_zero]; rfl
      | cons y b =>
        rcases c with c | c
        · have h2 : (out.length : Int) % 2 = k := of_decide_eq_true (hf.symm.trans c)
          rw [if_neg (len_nz _ _), if_pos (len_pos _ _), if_pos h2, if_pos (len_pos' _ _), if_pos ho, if_pos (len_one _ _), rd_zero]; rfl
        · cases c
    have hbb : ∀ y b', b = y :: b' → (f = false ∨ a = []) → Ev (fun m => spec_l04Faro.l0 m k a b out) (out ++ y :: weaveN n (!f) a b') := by
      intro y b' e c
      subst e
      have hi := ih (!f) a b' (out ++ [y]) (by simp at h; omega) (by simp; omega) (hnext y)
      rw [List.append_assoc] at hi
      refine Ev.succ (Ev.step (fun m => ?_) hi)
      have hj : spec_l04Faro.l0 (m + 1 + 1) k a (y :: b') out = spec_l04Faro.j1 (m + 1) k a (y :: b') out true := by
        rw [spec_l04Faro.l0]
        by_cases c0 : (a.length : Int) > 0
        · rw [if_pos c0]
        · rw [if_neg c0, decide_eq_true (len_pos y b')]
      rw [hj, spec_l04Faro.j1, if_pos rfl, if_neg (len_nz _ _)]
      cases a with
      | nil => rw [if_neg nil_npos, if_pos (len_pos' _ _), if_pos ho, if_pos (len_one _ _), rd_zero]; rfl
      | cons x a =>
        rcases c with c | c
        · have h2 : ¬ (out.length : Int) % 2 = k := of_decide_eq_false (hf.symm.trans c)
          rw [if_pos (len_pos _ _), if_neg h2, if_pos (len_pos' _ _), if_pos ho, if_pos (len_one _ _), rd_zero]; rfl
        · cases c
    cases f with
    | true =>
      cases a with
      | cons x a => simpa [weaveN] using ha x a rfl (.inl rfl)
      | nil =>
        cases b with
        | cons y b => simpa [weaveN] using hbb y b rfl (.inr rfl)
        | nil => simp at h
    | false =>
      cases b with
      | cons y b => simpa [weaveN] using hbb y b rfl (.inl rfl)
      | nil =>
        cases a with
        | cons x a => simpa [weaveN] using ha x a rfl (.inr rfl)
        | nil => simp at h
theorem spec_faro_ev (l : List Int) (k : Int) (hk : k = 0 ∨ k = 1) (hb : l.length ≤ 1048576) : Ev (fun n => spec_l04Faro.f n l k) (faroL l k) := by
  unfold spec_l04Faro.f
  have h1 : (0 : Int) ≤ ((l.length / 2 : Nat) : Int) := nn _
  have h2 : ((l.length / 2 : Nat) : Int) ≤ (l.length : Int) := by omega
  simp only [half_id l hb, if_pos h1, if_pos h2, Int.toNat_natCast]
  have h := spec_faro_at k hk l.length (k == 0) (l.take (l.length / 2)) (l.drop (l.length / 2)) [] (by rw [List.length_take, List.length_drop]; omega) (by simpa using hb) (by
    rcases hk with rfl | rfl <;> rfl)
  simpa [faroL] using h
/-- Are these at most so many colors? -/
def isColor (x : Int) : Bool := decide (0 ≤ x ∧ x ≤ 1)
def colorsB (l : List Int) (most : Int) : Bool := decide ((l.length : Int) ≤ most) && l.all isColor
theorem color_pred (x : Int) : (impl_areColors_1.f x == some true) = !isColor x := by
  unfold impl_areColors_1.f isColor
  by_cases c : x = 0
  · subst c; rfl
  · by_cases d : x = 1
    · subst d; rfl
    · have e : decide (0 ≤ x ∧ x ≤ 1) = false := decide_eq_false (by omega)
      simp [c, d, e]
theorem areColors_eq (l : List Int) (most : Int) : impl_areColors.f l most = some (colorsB l most) := by
  unfold impl_areColors.f slices_ContainsFunc_Lint_int__impl_areColors_1.f colorsB
  by_cases c : (l.length : Int) ≤ most
  · simp only [if_pos c, Option.bind_some, decide_eq_true c, Bool.true_and]
    congr 1
    rw [List.all_eq_not_any_not]
    congr 2
    funext x
    exact color_pred x
  · simp only [if_neg c, decide_eq_false c, Bool.false_and]
/-- An even number of cards, from 2 to 12. -/
def pairedB (n : Int) : Bool := decide (2 ≤ n ∧ n ≤ 12 ∧ n % 2 = 0)
theorem paired_eq (n : Int) : impl_isPaired.f n = some (pairedB n) ∧ spec_l08Ok.f n = some (pairedB n) := by
  unfold spec_l08Ok.f impl_isPaired.f pairedB
  rw [l01In_eq]
  by_cases h1 : 2 ≤ n
  · by_cases h2 : n ≤ 12
    · have h4 : Int.tmod n 2 = n % 2 := Int.tmod_eq_emod_of_nonneg (by omega)
      by_cases h3 : n % 2 = 0
      · simp [h1, h2, h4, h3]
      · simp [h1, h2, h4, h3]
    · simp [h1, h2]
  · simp [h1]
end Go.Proofs.Ytclmicogljidkaa.F
