/- math/bits' Div64: quotient and rest of two words by one. Condition: the upper word is below the divisor. -/
import Derived.Test.YtanfhjfpdgjphaaDiv64
import Derived.Lib.BitFns
namespace Go.Proofs.Ytanfhjfpdgjphaa
set_option linter.unusedVariables false
set_option linter.unusedSimpArgs false
open Go.RowKit

theorem div64_any (hi lo y : Nat) (w : World) (hy : hi < y) (hy2 : y < 18446744073709551616) (hl : lo < 18446744073709551616) :
    Calls Try.prog 33 #[.int .u64 hi, .int .u64 lo, .int .u64 y] w fun e w' => e = .returned (.tuple #[.int .u64 (((hi * 18446744073709551616 + lo) / y : Nat) : Int), .int .u64 (((hi * 18446744073709551616 + lo) % y : Nat) : Int)]) ∧ Below w.heap.size w w' := by
  by_cases h : hi = 0
  · subst h
    rw [show 0 * 18446744073709551616 + lo = lo by omega]
    exact div64_low lo y w hl (by omega) hy2
  · have hb := Lib.bitLen_le y 64 (by omega) (by omega)
    exact div64_high hi lo y (64 - Lib.bitLen y) w (by omega) hy hy2 hl (by omega)

end Go.Proofs.Ytanfhjfpdgjphaa
