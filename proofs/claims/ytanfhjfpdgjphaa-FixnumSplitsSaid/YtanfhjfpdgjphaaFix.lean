/- fixnum's Add, Neg, MulDiv and math/bits' Div64 (where the high word is 0): plain readings. Conditions: the numbers fit their kinds. -/
import Derived.Test.YtanfhjfpdgjphaaSmall
import Derived.Test.YtanfhjfpdgjphaaShelf
import Derived.Test.YtanfhjfpdgjphaaQuiet
namespace Go.Proofs.Ytanfhjfpdgjphaa
set_option linter.unusedVariables false
set_option linter.unusedSimpArgs false
open Go.RowKit

theorem wrap64_F {x : Int} (h : F64 x) : wrap64 x = x := IntWalk.wrap64_in x h
theorem wrap64_over (x : Int) (h : 9223372036854775807 < x) (h2 : x < 27670116110564327424) : wrap64 x = x - 18446744073709551616 := by unfold wrap64; omega
theorem wrap64_under (x : Int) (h : x < -9223372036854775808) (h2 : -27670116110564327424 < x) : wrap64 x = x + 18446744073709551616 := by unfold wrap64; omega

set_option maxHeartbeats 400000 in
theorem add_yes (a b : Int) (w : World) (ha : F64 a) (hb : F64 b) (hc : F64 (a + b)) :
    Calls Try.prog 20 #[.int .i64 a, .int .i64 b] w fun e w' => e = .returned (.tuple #[.int .i64 (a + b), .int .i64 0]) ∧ w = w' := by
  unfold F64 at ha hb hc
  by_cases h1 : 0 < a <;> by_cases h2 : 0 < b <;> by_cases h4 : a < 0 <;> by_cases h5 : b < 0 <;> by_cases h3 : a + b < 0 <;> first | (exfalso; omega) | skip
  all_goals
    go_enter Try.func20, Try.ntmps20
    go_wp2
    go_ret2
    exact ⟨rfl, rfl⟩

set_option maxHeartbeats 400000 in
theorem add_no (a b : Int) (w : World) (ha : F64 a) (hb : F64 b) (hc : ¬ F64 (a + b)) :
    Calls Try.prog 20 #[.int .i64 a, .int .i64 b] w fun e w' => e = .returned (.tuple #[.int .i64 0, .int .i64 6]) ∧ w = w' := by
  unfold F64 at ha hb hc
  by_cases h1 : 0 < a
  · have h2 : 0 < b := by omega
    obtain ⟨x, hx, hx2⟩ : ∃ x, wrap64 (a + b) = x ∧ x < 0 := ⟨_, rfl, by rw [wrap64_over _ (by omega) (by omega)]; omega⟩
    clear hc
    go_enter Try.func20, Try.ntmps20
    go_wp2
    go_ret2
    exact ⟨rfl, rfl⟩
  · have h2 : b < 0 := by omega
    have h4 : a < 0 := by omega
    obtain ⟨x, hx, hx2⟩ : ∃ x, wrap64 (a + b) = x ∧ 0 ≤ x := ⟨_, rfl, by rw [wrap64_under _ (by omega) (by omega)]; omega⟩
    clear hc
    go_enter Try.func20, Try.ntmps20
    go_wp2
    go_ret2
    exact ⟨rfl, rfl⟩

set_option maxHeartbeats 400000 in
theorem neg_yes (a : Int) (w : World) (ha : -9223372036854775808 < a) (ha2 : a ≤ 9223372036854775807) :
    Calls Try.prog 22 #[.int .i64 a] w fun e w' => e = .returned (.tuple #[.int .i64 (-a), .int .i64 0]) ∧ w = w' := by
  have h : (a == -9223372036854775808) = false := by simp; omega
  go_enter Try.func22, Try.ntmps22
  go_wp2
  go_ret2
  exact ⟨rfl, rfl⟩
set_option maxHeartbeats 400000 in
theorem neg_no (w : World) :
    Calls Try.prog 22 #[.int .i64 (-9223372036854775808)] w fun e w' => e = .returned (.tuple #[.int .i64 0, .int .i64 6]) ∧ w = w' := by
  go_enter Try.func22, Try.ntmps22
  go_wp2
  go_ret2
  exact ⟨rfl, rfl⟩

/-- the plain operations of a region that draws -/
theorem u64_wrap_nat {n : Nat} (h : n < 18446744073709551616) : IntKind.u64.wrap (n : Int) = (n : Int) := by rw [IntKind.wrap_u64]; omega

set_option maxHeartbeats 400000 in
theorem div64_low (lo y : Nat) (w : World) (hl : lo < 18446744073709551616) (hy : 0 < y) (hy2 : y < 18446744073709551616) :
    Calls Try.prog 33 #[.int .u64 0, .int .u64 lo, .int .u64 y] w fun e w' => e = .returned (.tuple #[.int .u64 ((lo / y : Nat) : Int), .int .u64 ((lo % y : Nat) : Int)]) ∧ Below w.heap.size w w' := by
  have h0 : ((y : Int) == 0) = false := by simp; omega
  have h00 : ¬ (y : Int) = 0 := by omega
  have h1 : ¬ (y : Int) ≤ 0 := by omega
  have e1 : IntKind.u64.wrap ((lo : Int) / y) = ((lo / y : Nat) : Int) := by
    rw [show (lo : Int) / y = ((lo / y : Nat) : Int) from rfl]
    exact u64_wrap_nat (Nat.lt_of_le_of_lt (Nat.div_le_self lo y) hl)
  have E1 := Lib.hid e1
  clear e1
  go_enter Try.func33, Try.ntmps33
  go_wp2
  refine wp_region_below (by kernel_rfl) (by kernel_rfl) ?_
  repeat (first | ((with_reducible apply q_skip); (case hw => rfl); (try simp only [Act.put, List.setIfInBounds_toArray, List.set_cons_zero, List.set_cons_succ])) | ((with_reducible apply q_val); (case hw => rfl); (case hv => intro wq hbq; go_simp; try rfl); (try simp only [Act.put, List.setIfInBounds_toArray, List.set_cons_zero, List.set_cons_succ])))
  refine q_nil ?_
  intro w1 hb
  go_wp2
  go_ret2
  exact ⟨ret_ii E1.out rfl, hb⟩

/-! ### MulDiv where the product fits one word -/
/-- a number by its sign and its size -/
def sg (s : Bool) (x : Nat) : Int := if s then -(x : Int) else (x : Int)
/-- the quotient of sizes, rounded down, with the sign -/
def mdv (neg : Bool) (P z : Nat) : Int := if neg then (if P % z = 0 then -((P / z : Nat) : Int) else -((P / z : Nat) : Int) - 1) else ((P / z : Nat) : Int)

theorem size_sg (s : Bool) (x : Nat) (w : World) (hx : x < 9223372036854775808) (hs : s = true → 0 < x) :
    Calls Try.prog 31 #[.int .i64 (sg s x)] w fun e w' => e = .returned (.tuple #[.int .u64 (x : Int), .bool s]) ∧ w = w' := by
  cases s
  · exact size_pos _ w ⟨by simp [sg], by simp [sg]; omega⟩
  · have := size_neg (-(x : Int)) w ⟨by omega, by have := hs rfl; omega⟩
    rw [Int.neg_neg] at this
    exact this

theorem mul64_low (x y : Nat) (w : World) (hx : x < 18446744073709551616) (hy : y < 18446744073709551616) (h : x * y < 18446744073709551616) :
    Calls Try.prog 32 #[.int .u64 x, .int .u64 y] w fun e w' => e = .returned (.tuple #[.int .u64 0, .int .u64 ((x * y : Nat) : Int)]) ∧ w = w' := by
  refine (Try.bits_Mul64 x y hx hy w).mono ?_
  rintro e w' ⟨rfl, rfl⟩
  rw [Nat.div_eq_of_lt h, Nat.mod_eq_of_lt h]
  exact ⟨rfl, rfl⟩

set_option maxRecDepth 100000 in
set_option maxHeartbeats 2000000 in
theorem muldiv_low (sa sb sc : Bool) (x y z : Nat) (w : World) (hx : x < 9223372036854775808) (hy : y < 9223372036854775808) (hz : z < 9223372036854775808) (hz0 : 0 < z) (ha : sa = true → 0 < x) (hb : sb = true → 0 < y) (hc : sc = true → 0 < z)
    (hP : x * y ≤ 4611686018427387904) :
    Calls Try.prog 14 #[.int .i64 (sg sa x), .int .i64 (sg sb y), .int .i64 (sg sc z)] w fun e w' => e = .returned (.tuple #[.int .i64 (mdv ((sa != sb) != sc) (x * y) z), .int .i64 0]) ∧ Below w.heap.size w w' := by
  generalize hPe : x * y = P at *
  generalize hNe : P / z = n at *
  generalize hRe : P % z = r at *
  have hn : n ≤ P := by rw [← hNe]; exact Nat.div_le_self _ _
  have hnI : (n : Int) ≤ 4611686018427387904 := by omega
  have hn0 : (0 : Int) ≤ (n : Int) := by omega
  have hPn := hn
  have HX := Lib.hid hx
  have HY := Lib.hid hy
  have HZ := Lib.hid hz
  have HPP := Lib.hid hP
  clear hx hy hz hP
  have hnz : (sg sc z == 0) = false := by cases sc <;> simp [sg] <;> omega
  have hzi : ¬ (z : Int) ≤ 0 := by omega
  have HP := Lib.hid hPe
  have HN := Lib.hid hNe
  have HR := Lib.hid hRe
  clear hPe hNe hRe
  have hr0 : ¬ r = 0 → (0 : Int) < (r : Int) := by omega
  cases sa <;> cases sb <;> cases sc
  all_goals
    unfold mdv
    rw [HN.out, HR.out]
    by_cases h0 : r = 0
    · subst h0
      clear hr0
      go_enter Try.func14, Try.ntmps14
      go_wp2_with fail
      refine (size_sg _ _ _ HX.out (by first | exact ha | exact fun _ => ha trivial | (intro hh; cases hh))).mono ?_
      rintro e w' ⟨rfl, rfl⟩
      go_wp2_with fail
      refine (size_sg _ _ _ HY.out (by first | exact hb | exact fun _ => hb trivial | (intro hh; cases hh))).mono ?_
      rintro e w' ⟨rfl, rfl⟩
      go_wp2_with fail
      refine (size_sg _ _ _ HZ.out (by first | exact hc | exact fun _ => hc trivial | (intro hh; cases hh))).mono ?_
      rintro e w' ⟨rfl, rfl⟩
      go_wp2_with fail
      refine (mul64_low _ _ _ (by have := HX.out; omega) (by have := HY.out; omega) (by rw [HP.out]; have := HPP.out; omega)).mono ?_
      rintro e w' ⟨rfl, rfl⟩
      rw [HP.out]
      go_wp2_with fail
      refine (div64_low _ _ _ (by have := HPP.out; omega) (by omega) (by have := HZ.out; omega)).mono ?_
      rintro e w1 ⟨rfl, hbel⟩
      rw [HN.out, HR.out]
      clear HN HP HR hn hPn
      generalize hmn : ((n : Nat) : Int) = m at *
      have HMN := Lib.hid hmn
      clear hmn
      go_wp2
      go_ret2
      exact ⟨ret_ii (by first | (rw [HMN.out]; done) | (rw [HMN.out]; omega) | (rw [HMN.out]; simp; done) | (rw [HMN.out]; simp; omega)) rfl, hbel⟩
    · have h0' := hr0 h0
      clear hr0
      go_enter Try.func14, Try.ntmps14
      go_wp2_with fail
      refine (size_sg _ _ _ HX.out (by first | exact ha | exact fun _ => ha trivial | (intro hh; cases hh))).mono ?_
      rintro e w' ⟨rfl, rfl⟩
      go_wp2_with fail
      refine (size_sg _ _ _ HY.out (by first | exact hb | exact fun _ => hb trivial | (intro hh; cases hh))).mono ?_
      rintro e w' ⟨rfl, rfl⟩
      go_wp2_with fail
      refine (size_sg _ _ _ HZ.out (by first | exact hc | exact fun _ => hc trivial | (intro hh; cases hh))).mono ?_
      rintro e w' ⟨rfl, rfl⟩
      go_wp2_with fail
      refine (mul64_low _ _ _ (by have := HX.out; omega) (by have := HY.out; omega) (by rw [HP.out]; have := HPP.out; omega)).mono ?_
      rintro e w' ⟨rfl, rfl⟩
      rw [HP.out]
      go_wp2_with fail
      refine (div64_low _ _ _ (by have := HPP.out; omega) (by omega) (by have := HZ.out; omega)).mono ?_
      rintro e w1 ⟨rfl, hbel⟩
      rw [HN.out, HR.out]
      clear HN HP HR hn hPn
      generalize hmn : ((n : Nat) : Int) = m at *
      have HMN := Lib.hid hmn
      clear hmn
      go_wp2
      go_ret2
      exact ⟨ret_ii (by first | (rw [HMN.out]; done) | (rw [HMN.out]; omega) | (rw [HMN.out]; simp [h0]; done) | (rw [HMN.out]; simp [h0]; omega)) rfl, hbel⟩
end Go.Proofs.Ytanfhjfpdgjphaa
