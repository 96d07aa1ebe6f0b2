/- The small functions of fixnum and spec return what their plain readings say. Condition: the numbers fit an int64. -/
import Derived.Test.YtanfhjfpdgjphaaLib
namespace Go.Proofs.Ytanfhjfpdgjphaa
set_option linter.unusedVariables false
set_option linter.unusedSimpArgs false
open Go.RowKit

/-- from least to most -/
def inB (n l m : Int) : Bool := decide (l ≤ n ∧ n ≤ m)
theorem inB_iff {n l m : Int} : inB n l m = true ↔ l ≤ n ∧ n ≤ m := by simp [inB]
theorem inB_no {n l m : Int} : inB n l m = false ↔ ¬ (l ≤ n ∧ n ≤ m) := by simp [inB]
def F64 (n : Int) : Prop := -9223372036854775808 ≤ n ∧ n ≤ 9223372036854775807
/-- a price of that tick -/
def prB (tick n : Int) : Bool := inB n 1 10000000 && decide (n % tick = 0)

set_option maxHeartbeats 400000 in
theorem size_pos (a : Int) (w : World) (ha : 0 ≤ a ∧ a ≤ 9223372036854775807) :
    Calls Try.prog 31 #[.int .i64 a] w fun e w' => e = .returned (.tuple #[.int .u64 a, .bool false]) ∧ w = w' := by
  go_enter Try.func31, Try.ntmps31
  go_wp2
  go_ret2
  have : IntKind.u64.wrap a = a := by rw [IntKind.wrap_u64]; omega
  simp [this]

set_option maxHeartbeats 400000 in
theorem size_neg (a : Int) (w : World) (ha : -9223372036854775808 ≤ a ∧ a < 0) :
    Calls Try.prog 31 #[.int .i64 a] w fun e w' => e = .returned (.tuple #[.int .u64 (-a), .bool true]) ∧ w = w' := by
  go_enter Try.func31, Try.ntmps31
  go_wp2
  go_ret2
  have : IntKind.u64.wrap (-IntKind.u64.wrap a) = -a := by rw [IntKind.wrap_u64, IntKind.wrap_u64]; omega
  simp [this]

set_option maxHeartbeats 400000 in
theorem within_any (a m : Int) (w : World) (ha : F64 a) (hm : 0 ≤ m) (hm2 : m ≤ 9223372036854775807) :
    Calls Try.prog 18 #[.int .i64 a, .int .i64 m] w fun e w' => e = .returned (.bool (inB a (-m) m)) ∧ w = w' := by
  unfold F64 at ha
  by_cases h : a < 0
  · go_enter Try.func18, Try.ntmps18
    go_wp2_with (go_at_call 31; refine (size_neg _ _ ⟨by omega, by omega⟩).mono ?_; rintro e w' ⟨rfl, rfl⟩)
    go_ret
    exact ⟨ret_bool (by simp [inB]; omega), rfl⟩
  · go_enter Try.func18, Try.ntmps18
    go_wp2_with (go_at_call 31; refine (size_pos _ _ ⟨by omega, by omega⟩).mono ?_; rintro e w' ⟨rfl, rfl⟩)
    go_ret
    exact ⟨ret_bool (by simp [inB]; omega), rfl⟩





end Go.Proofs.Ytanfhjfpdgjphaa
