/- The document's Split of any total by any weights. Condition: the numbers fit their kinds. -/
import Derived.Test.YtanfhjfpdgjphaaRSpl3
namespace Go.Proofs.Ytanfhjfpdgjphaa
set_option linter.unusedVariables false
set_option linter.unusedSimpArgs false
open Go.RowKit

theorem rspl_any (a : Option Addr) (n cap : Nat) (Z : Nat → Int) (T : Int) (w : World) (hF : ∀ i, F64 (Z i)) (hA : Ints w a n Z) (hT : F64 T) : RSplC a n cap Z T w := by
  by_cases h1 : 1000 < n
  · exact rspl_long a n cap Z T w h1
  · by_cases h2 : T < 0 ∨ ∃ i, i < n ∧ Z i < 0
    · exact rspl_neg a n cap Z T w (by omega) hA h2
    · have hT0 : 0 ≤ T := by
        apply Classical.byContradiction; intro h; exact h2 (.inl (by omega))
      have hP : ∀ i, i < n → 0 ≤ Z i := fun i hi => by
        apply Classical.byContradiction; intro h; exact h2 (.inr ⟨i, hi, by omega⟩)
      cases h3 : fitB (sumZ Z n)
      · exact rspl_few a n cap Z T w (by omega) hF hA hT0 hP (.inl h3)
      · by_cases h4 : T = 0
        · exact rspl_few a n cap Z T w (by omega) hF hA hT0 hP (.inr (.inl h4))
        · by_cases h5 : sumZ Z n = 0
          · exact rspl_few a n cap Z T w (by omega) hF hA hT0 hP (.inr (.inr h5))
          · have hs := wts_sum n hP
            exact rspl_main a n cap Z T w (by omega) hF hA hT (by omega) hP (by omega) h3
end Go.Proofs.Ytanfhjfpdgjphaa
