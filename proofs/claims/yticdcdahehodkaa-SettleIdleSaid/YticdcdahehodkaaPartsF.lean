/- What holds of the parts of a split. No condition but that there are parts. -/
import Derived.Test.YticdcdahehodkaaSplitA
namespace Go.Proofs.Yticdcdahehodkaa
set_option linter.unusedVariables false
set_option linter.unusedSimpArgs false

/-- the laws of the parts -/
structure Parts (Z : Nat → Int) (n : Nat) (T : Int) : Prop where
  sum : (sumN (splP Z n T) n : Nat) = T
  bd : ∀ i, i < n → (splP Z n T i : Int) ≤ T
  none : ∀ i, i < n → Z i = 0 → splP Z n T i = 0
  most : ∀ i, i < n → T ≤ sumZ Z n → (splP Z n T i : Int) ≤ Z i
  mono : ∀ i k, i < n → k < n → Z k < Z i → splP Z n T k ≤ splP Z n T i
  same : ∀ i k, i < n → k < i → Z i = Z k → splP Z n T i ≤ splP Z n T k ∧ splP Z n T k ≤ splP Z n T i + 1
theorem sumN_two (W : Nat → Nat) {n i k : Nat} (hi : i < n) (hk : k < i) : W k + W i ≤ sumN W n := by
  have h1 := sumN_mono W n (show i + 1 ≤ n by omega)
  have h2 := sumN_one W hk
  have e : sumN W (i + 1) = sumN W i + W i := rfl
  omega
theorem Parts.two {Z : Nat → Int} {n : Nat} {T : Int} (h : Parts Z n T) : ∀ i k, i < n → k < i → (splP Z n T k : Int) + splP Z n T i ≤ T := fun i k hi hk => by
  have := sumN_two (splP Z n T) hi hk
  have := h.sum
  omega
theorem parts_of {Z : Nat → Int} {n : Nat} {T : Int} (h : splE Z n T = 0) : Parts Z n T := by
  obtain ⟨h1, h2, h3, h4, h5, h6⟩ := splE_zero h
  by_cases h0 : T = 0
  · subst h0
    have e : ∀ i, splP Z n 0 i = 0 := fun i => prt_zero _ _ _
    have es : sumN (splP Z n 0) n = 0 := by rw [sumN_congr (V := fun _ => 0) n (fun i _ => e i), sumN_const]; omega
    exact ⟨by rw [es]; rfl, fun i _ => by rw [e]; omega, fun i _ _ => e i, fun i hi _ => by rw [e]; have := h3 i hi; omega, fun i k _ _ _ => by rw [e, e]; omega, fun i k _ _ _ => by rw [e, e]; omega⟩
  · have hS := h4 h0
    obtain ⟨t, rfl⟩ : ∃ t : Nat, T = (t : Int) := ⟨T.toNat, by omega⟩
    have e : ∀ i, splP Z n (t : Int) i = prt (wts Z) n t i := fun i => rfl
    have ez : ∀ i, i < n → Z i = (wts Z i : Nat) := fun i hi => by have := h3 i hi; unfold wts; omega
    refine ⟨?_, fun i hi => ?_, fun i hi hz => ?_, fun i hi hT => ?_, fun i k hi hk hz => ?_, fun i k hi hk hz => ?_⟩
    · have : sumN (splP Z n (t : Int)) n = t := prt_sum hS
      rw [this]
    · rw [e]; have := prt_le (T := t) hS hi; omega
    · rw [e]; exact prt_none hS hi (by have := ez i hi; omega)
    · rw [e, ez i hi]
      have := prt_within (T := t) hS hi (by omega)
      omega
    · rw [e, e]; exact prt_mono hS hi hk (by have := ez i hi; have := ez k hk; omega)
    · rw [e, e]; exact prt_same hS hi hk (by have := ez i hi; have := ez k (by omega); omega)

end Go.Proofs.Yticdcdahehodkaa
