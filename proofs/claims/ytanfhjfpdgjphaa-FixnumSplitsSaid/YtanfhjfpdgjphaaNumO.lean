/- An integer as the document's number: its sign, its digits, its value. Condition: it fits its kind. -/
import Derived.Test.YtanfhjfpdgjphaaNumI
namespace Go.Proofs.Ytanfhjfpdgjphaa
set_option linter.unusedVariables false
set_option linter.unusedSimpArgs false
open Go.RowKit

def oS (x : Int) : Bool := decide (x < 0)
def oV (x : Int) : Array Value := oD (if x < 0 then -x else x) 4
theorem of_any' (x : Int) (w : World) (hx : F64 x) :
    Calls Try.prog 35 #[.int .i64 x] w fun e w' => e = .returned (.agg (nm (oS x) (oV x))) ∧ Below w.heap.size w w' := of_any x w hx
theorem oV_D (x : Int) : IsD (oV x) := oD_D _ 4
theorem o_val {x : Int} (h : F64 x) : sv (oS x) (oV x) = x ∧ lv (oV x) 12 ≤ 9223372036854775808 := by
  unfold F64 at h
  unfold sv oS oV
  by_cases h0 : x < 0
  · rw [if_pos h0, oD_val (by omega), if_pos (by simpa using h0)]; omega
  · rw [if_neg h0, oD_val (by omega), if_neg (by simpa using h0)]; omega
theorem P16_12 : 1000000000000000000000000000000000000000000000000 < P16 12 := by decide
theorem sv_not (s : Bool) (D : Array Value) : sv (!s) D = -(sv s D) := by
  unfold sv; cases s <;> simp

end Go.Proofs.Ytanfhjfpdgjphaa
