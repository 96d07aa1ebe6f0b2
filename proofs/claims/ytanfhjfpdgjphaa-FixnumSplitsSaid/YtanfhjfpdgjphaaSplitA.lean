/- fixnum's Split of any total by any weights. Condition: the numbers fit their kinds. -/
import Derived.Test.YtanfhjfpdgjphaaSplitB
namespace Go.Proofs.Ytanfhjfpdgjphaa
set_option linter.unusedVariables false
set_option linter.unusedSimpArgs false
open Go.RowKit

theorem split_any (a : Option Addr) (n cap : Nat) (Z : Nat → Int) (T : Int) (w : World) (hF : ∀ i, F64 (Z i)) (hA : Ints w a n Z) (hT : F64 T) : SplC a n cap Z T w := by
  by_cases h1 : 1000 < n
  · exact split_long a n cap Z T w h1
  · by_cases h2 : T < 0 ∨ ∃ i, i < n ∧ Z i < 0
    · exact split_neg a n cap Z T w (by omega) hA h2
    · have hT0 : 0 ≤ T := by
        apply Classical.byContradiction; intro h; exact h2 (.inl (by omega))
      have hP : ∀ i, i < n → 0 ≤ Z i := fun i hi => by
        apply Classical.byContradiction; intro h; exact h2 (.inr ⟨i, hi, by omega⟩)
      by_cases h3 : fitB (sumZ Z n) = false
      · exact split_over a n cap Z T w (by omega) hF hA hT0 hP h3
      · have hv : -9223372036854775808 ≤ sumZ Z n ∧ sumZ Z n ≤ 9223372036854775807 := by
          unfold fitB at h3; simpa using h3
        by_cases h4 : T = 0
        · subst h4; exact split_zero a n cap Z w (by omega) hF hA hP hv
        · by_cases h5 : sumZ Z n = 0
          · exact split_none a n cap Z T w (by omega) hF hA hT0 h4 hP h5
          · have he : splE Z n T = 0 := by unfold splE; rw [if_neg h1, if_neg h2, if_neg h3, if_neg h4, if_neg h5]
            have hs := wts_sum n hP
            obtain ⟨t, rfl⟩ : ∃ t : Nat, T = (t : Int) := ⟨T.toNat, by omega⟩
            unfold F64 at hT
            have c := split_parts a n cap Z t (sumN (wts Z) n) w (by omega) hF hA (by omega) (by omega) hP (by omega) (by omega) rfl
            unfold SplC
            rw [he]
            refine c.mono ?_
            rintro e w' ⟨⟨g, P, rfl, h6, h7, h8, h9⟩, hb⟩
            exact ⟨⟨_, rfl, fun _ => ⟨g, P, rfl, h6, h7, h8, h9⟩, fun h => absurd he h⟩, hb⟩
/-- where there are parts -/
theorem splE_zero {Z : Nat → Int} {n : Nat} {T : Int} (h : splE Z n T = 0) : n ≤ 1000 ∧ 0 ≤ T ∧ (∀ i, i < n → 0 ≤ Z i) ∧ (T ≠ 0 → 0 < sumN (wts Z) n) ∧ sumZ Z n = (sumN (wts Z) n : Nat) ∧ sumZ Z n ≤ 9223372036854775807 := by
  unfold splE at h
  split at h
  · omega
  · rename_i h1
    split at h
    · omega
    · rename_i h2
      have hT0 : 0 ≤ T := by
        apply Classical.byContradiction; intro h; exact h2 (.inl (by omega))
      have hP : ∀ i, i < n → 0 ≤ Z i := fun i hi => by
        apply Classical.byContradiction; intro h; exact h2 (.inr ⟨i, hi, by omega⟩)
      split at h
      · omega
      · rename_i h3
        have hv : -9223372036854775808 ≤ sumZ Z n ∧ sumZ Z n ≤ 9223372036854775807 := by
          unfold fitB at h3; simpa using h3
        have e := wts_sum n hP
        refine ⟨by omega, hT0, hP, fun hT => ?_, e, hv.2⟩
        rw [if_neg hT] at h
        split at h
        · omega
        · omega
end Go.Proofs.Ytanfhjfpdgjphaa
