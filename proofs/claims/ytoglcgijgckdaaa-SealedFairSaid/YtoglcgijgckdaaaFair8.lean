/- SealedFair, walked: it returns true. Condition: the numbers fit their kinds. -/
import Derived.Test.YtoglcgijgckdaaaFair8t
import Derived.Test.YtoglcgijgckdaaaFair8f
namespace Go.Proofs.Ytoglcgijgckdaaa
set_option linter.unusedVariables false
set_option linter.unusedSimpArgs false
open Go.RowKit
theorem fair8_law (sells : Bool) (Q : Int) (ad : Option Addr) (n cap : Nat) (L : Nat → Array Value) (w : World) (hQ : F64 Q) (hL : ∀ i, IsOrd (L i)) (hR : RowsC w 5 ad n L) (_ : n ≤ cap) (_ : cap ≤ 9223372036854775807) (hz : ad = none → n = 0 ∧ cap = 0) :
    Calls Try.prog 4 #[.bool sells, .int .i64 Q, .slice ad n cap] w fun e w' => e = .returned (.bool true) ∧ Below w.heap.size w w' := by
  cases sells
  · exact fair8_f Q ad n cap L w hQ hL hR hz
  · exact fair8_t Q ad n cap L w hQ hL hR hz
end Go.Proofs.Ytoglcgijgckdaaa
