/- The small functions of fixnum and spec return what their plain readings say. Condition: the numbers fit an int64. -/
import Derived.Test.YtmjfbilhalkegaaLib
namespace Go.Proofs.Ytmjfbilhalkegaa
set_option linter.unusedVariables false
set_option linter.unusedSimpArgs false
open Go.RowKit

/-- from least to most -/
def inB (n l m : Int) : Bool := decide (l ≤ n ∧ n ≤ m)
theorem inB_iff {n l m : Int} : inB n l m = true ↔ l ≤ n ∧ n ≤ m := by simp [inB]
theorem inB_no {n l m : Int} : inB n l m = false ↔ ¬ (l ≤ n ∧ n ≤ m) := by simp [inB]
def F64 (n : Int) : Prop := -9223372036854775808 ≤ n ∧ n ≤ 9223372036854775807
/-- a price of that tick -/
def prB (tick n : Int) : Bool := inB n 1 10000000 && decide (n % tick = 0)








end Go.Proofs.Ytmjfbilhalkegaa
