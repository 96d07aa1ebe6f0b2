/- The small functions of fixnum and spec return what their plain readings say. Condition: the numbers fit an int64. -/
import Derived.Test.YtobokknfpjjdeaaLib
namespace Go.Proofs.Ytobokknfpjjdeaa
set_option linter.unusedVariables false
set_option linter.unusedSimpArgs false
open Go.RowKit

/-- from least to most -/
def inB (n l m : Int) : Bool := decide (l ≤ n ∧ n ≤ m)
theorem inB_iff {n l m : Int} : inB n l m = true ↔ l ≤ n ∧ n ≤ m := by simp [inB]
theorem inB_no {n l m : Int} : inB n l m = false ↔ ¬ (l ≤ n ∧ n ≤ m) := by simp [inB]
def F64 (n : Int) : Prop := -9223372036854775808 ≤ n ∧ n ≤ 9223372036854775807
/-- a price of that tick -/
def prB (tick n : Int) : Bool := inB n 1 10000000 && decide (n % tick = 0)

set_option maxHeartbeats 400000 in
theorem size_pos (a : Int) (w : World) (ha : 0 ≤ a ∧ a ≤ 9223372036854775807) :
    Calls Try.prog 86 #[.int .i64 a] w fun e w' => e = .returned (.tuple #[.int .u64 a, .bool false]) ∧ w = w' := by
  go_enter Try.func86, Try.ntmps86
  go_wp2
  go_ret2
  have : IntKind.u64.wrap a = a := by rw [IntKind.wrap_u64]; omega
  simp [this]

set_option maxHeartbeats 400000 in
theorem size_neg (a : Int) (w : World) (ha : -9223372036854775808 ≤ a ∧ a < 0) :
    Calls Try.prog 86 #[.int .i64 a] w fun e w' => e = .returned (.tuple #[.int .u64 (-a), .bool true]) ∧ w = w' := by
  go_enter Try.func86, Try.ntmps86
  go_wp2
  go_ret2
  have : IntKind.u64.wrap (-IntKind.u64.wrap a) = -a := by rw [IntKind.wrap_u64, IntKind.wrap_u64]; omega
  simp [this]

set_option maxHeartbeats 400000 in
theorem within_any (a m : Int) (w : World) (ha : F64 a) (hm : 0 ≤ m) (hm2 : m ≤ 9223372036854775807) :
    Calls Try.prog 75 #[.int .i64 a, .int .i64 m] w fun e w' => e = .returned (.bool (inB a (-m) m)) ∧ w = w' := by
  unfold F64 at ha
  by_cases h : a < 0
  · go_enter Try.func75, Try.ntmps75
    go_wp2_with (go_at_call 86; refine (size_neg _ _ ⟨by omega, by omega⟩).mono ?_; rintro e w' ⟨rfl, rfl⟩)
    go_ret
    exact ⟨ret_bool (by simp [inB]; omega), rfl⟩
  · go_enter Try.func75, Try.ntmps75
    go_wp2_with (go_at_call 86; refine (size_pos _ _ ⟨by omega, by omega⟩).mono ?_; rintro e w' ⟨rfl, rfl⟩)
    go_ret
    exact ⟨ret_bool (by simp [inB]; omega), rfl⟩

set_option maxHeartbeats 400000 in
theorem sin_any (n l m : Int) (w : World) :
    Calls Try.prog 76 #[.int .i64 n, .int .i64 l, .int .i64 m] w fun e w' => e = .returned (.bool (inB n l m)) ∧ w = w' := by
  by_cases h : l ≤ n
  · go_enter Try.func76, Try.ntmps76
    go_wp2
    go_ret
    exact ⟨by simp [inB, h], rfl⟩
  · go_enter Try.func76, Try.ntmps76
    go_wp2
    go_ret
    exact ⟨by simp [inB]; omega, rfl⟩

set_option maxHeartbeats 400000 in
theorem among_any (n l m : Int) (w : World) :
    Calls Try.prog 82 #[.int .i64 n, .int .i64 l, .int .i64 m] w fun e w' => e = .returned (.bool (inB n l m)) ∧ w = w' := by
  by_cases h : l ≤ n
  · go_enter Try.func82, Try.ntmps82
    go_wp2
    go_ret
    exact ⟨by simp [inB, h], rfl⟩
  · go_enter Try.func82, Try.ntmps82
    go_wp2
    go_ret
    exact ⟨by simp [inB]; omega, rfl⟩

set_option maxHeartbeats 400000 in
theorem price_any (t n : Int) (w : World) (ht : 1 ≤ t) (ht2 : t ≤ 9223372036854775807) (hn : F64 n) :
    Calls Try.prog 77 #[.int .i64 t, .int .i64 n] w fun e w' => e = .returned (.bool (prB t n)) ∧ w = w' := by
  unfold F64 at hn
  by_cases h : inB n 1 10000000 = true
  · have h' := inB_iff.1 h
    have h0 : (t == 0) = false := by simp; omega
    go_enter Try.func77, Try.ntmps77
    go_wp2_with (go_at_call 76; refine (sin_any _ _ _ _).mono ?_; rintro e w' ⟨rfl, rfl⟩)
    go_ret
    exact ⟨by simp [prB, h]; rfl, rfl⟩
  · simp only [Bool.not_eq_true] at h
    go_enter Try.func77, Try.ntmps77
    go_wp2_with (go_at_call 76; refine (sin_any _ _ _ _).mono ?_; rintro e w' ⟨rfl, rfl⟩)
    go_ret
    exact ⟨by simp [prB, h], rfl⟩

set_option maxHeartbeats 400000 in
theorem rprice_any (t n : Int) (w : World) (ht : 1 ≤ t) (ht2 : t ≤ 9223372036854775807) (hn : F64 n) :
    Calls Try.prog 83 #[.int .i64 t, .int .i64 n] w fun e w' => e = .returned (.bool (prB t n)) ∧ w = w' := by
  unfold F64 at hn
  by_cases h1 : 1 ≤ n
  · by_cases h2 : n ≤ 10000000
    · have hq0 : 0 ≤ n / t := Int.ediv_nonneg (by omega) (by omega)
      have hq : n / t * t ≤ n := Int.ediv_mul_le n (by omega)
      have hq1 : 0 ≤ n / t * t := Int.mul_nonneg hq0 (by omega)
      have h0 : (t == 0) = false := by simp; omega
      go_enter Try.func83, Try.ntmps83
      go_wp2
      go_ret
      have he := Int.emod_add_mul_ediv n t
      rw [Int.mul_comm] at he
      refine ⟨?_, rfl⟩
      have hx : (n / t * t == n) = decide (n % t = 0) := by rw [Bool.eq_iff_iff]; simp; omega
      simp [prB, inB, h1, h2, hx]
    · go_enter Try.func83, Try.ntmps83
      go_wp2
      go_ret
      exact ⟨by simp [prB, inB]; omega, rfl⟩
  · go_enter Try.func83, Try.ntmps83
    go_wp2
    go_ret
    exact ⟨by simp [prB, inB]; omega, rfl⟩

end Go.Proofs.Ytobokknfpjjdeaa
