/- fixnum's Add, Neg, MulDiv and math/bits' Div64 (where the high word is 0): plain readings. Conditions: the numbers fit their kinds. -/
import Derived.Test.YticdcdahehodkaaSmall
import Derived.Test.YticdcdahehodkaaShelf
import Derived.Test.YticdcdahehodkaaQuiet
namespace Go.Proofs.Yticdcdahehodkaa
set_option linter.unusedVariables false
set_option linter.unusedSimpArgs false
open Go.RowKit

theorem wrap64_F {x : Int} (h : F64 x) : wrap64 x = x := IntWalk.wrap64_in x h
theorem wrap64_over (x : Int) (h : 9223372036854775807 < x) (h2 : x < 27670116110564327424) : wrap64 x = x - 18446744073709551616 := by unfold wrap64; omega
theorem wrap64_under (x : Int) (h : x < -9223372036854775808) (h2 : -27670116110564327424 < x) : wrap64 x = x + 18446744073709551616 := by unfold wrap64; omega




/-- the plain operations of a region that draws -/
theorem u64_wrap_nat {n : Nat} (h : n < 18446744073709551616) : IntKind.u64.wrap (n : Int) = (n : Int) := by rw [IntKind.wrap_u64]; omega

set_option maxHeartbeats 400000 in
theorem div64_low (lo y : Nat) (w : World) (hl : lo < 18446744073709551616) (hy : 0 < y) (hy2 : y < 18446744073709551616) :
    Calls Try.prog 34 #[.int .u64 0, .int .u64 lo, .int .u64 y] w fun e w' => e = .returned (.tuple #[.int .u64 ((lo / y : Nat) : Int), .int .u64 ((lo % y : Nat) : Int)]) ∧ Below w.heap.size w w' := by
  have h0 : ((y : Int) == 0) = false := by simp; omega
  have h00 : ¬ (y : Int) = 0 := by omega
  have h1 : ¬ (y : Int) ≤ 0 := by omega
  have e1 : IntKind.u64.wrap ((lo : Int) / y) = ((lo / y : Nat) : Int) := by
    rw [show (lo : Int) / y = ((lo / y : Nat) : Int) from rfl]
    exact u64_wrap_nat (Nat.lt_of_le_of_lt (Nat.div_le_self lo y) hl)
  have E1 := Lib.hid e1
  clear e1
  go_enter Try.func34, Try.ntmps34
  go_wp2
  refine wp_region_below (by kernel_rfl) (by kernel_rfl) ?_
  repeat (first | ((with_reducible apply q_skip); (case hw => rfl); (try simp only [Act.put, List.setIfInBounds_toArray, List.set_cons_zero, List.set_cons_succ])) | ((with_reducible apply q_val); (case hw => rfl); (case hv => intro wq hbq; go_simp; try rfl); (try simp only [Act.put, List.setIfInBounds_toArray, List.set_cons_zero, List.set_cons_succ])))
  refine q_nil ?_
  intro w1 hb
  go_wp2
  go_ret2
  exact ⟨ret_ii E1.out rfl, hb⟩

/-! ### MulDiv where the product fits one word -/
/-- a number by its sign and its size -/
def sg (s : Bool) (x : Nat) : Int := if s then -(x : Int) else (x : Int)
/-- the quotient of sizes, rounded down, with the sign -/
def mdv (neg : Bool) (P z : Nat) : Int := if neg then (if P % z = 0 then -((P / z : Nat) : Int) else -((P / z : Nat) : Int) - 1) else ((P / z : Nat) : Int)

theorem size_sg (s : Bool) (x : Nat) (w : World) (hx : x < 9223372036854775808) (hs : s = true → 0 < x) :
    Calls Try.prog 30 #[.int .i64 (sg s x)] w fun e w' => e = .returned (.tuple #[.int .u64 (x : Int), .bool s]) ∧ w = w' := by
  cases s
  · exact size_pos _ w ⟨by simp [sg], by simp [sg]; omega⟩
  · have := size_neg (-(x : Int)) w ⟨by omega, by have := hs rfl; omega⟩
    rw [Int.neg_neg] at this
    exact this

theorem mul64_low (x y : Nat) (w : World) (hx : x < 18446744073709551616) (hy : y < 18446744073709551616) (h : x * y < 18446744073709551616) :
    Calls Try.prog 33 #[.int .u64 x, .int .u64 y] w fun e w' => e = .returned (.tuple #[.int .u64 0, .int .u64 ((x * y : Nat) : Int)]) ∧ w = w' := by
  refine (Try.bits_Mul64 x y hx hy w).mono ?_
  rintro e w' ⟨rfl, rfl⟩
  rw [Nat.div_eq_of_lt h, Nat.mod_eq_of_lt h]
  exact ⟨rfl, rfl⟩

end Go.Proofs.Yticdcdahehodkaa
