/- fixnum's MulDiv of any three numbers. Condition: the numbers fit their kinds. -/
import Derived.Test.YtanfhjfpdgjphaaDiv64
import Derived.Test.YtanfhjfpdgjphaaNumI
import Derived.Lib.BitFns
namespace Go.Proofs.Ytanfhjfpdgjphaa
set_option linter.unusedVariables false
set_option linter.unusedSimpArgs false
open Go.RowKit

theorem size_any (a : Int) (w : World) (ha : F64 a) :
    Calls Try.prog 31 #[.int .i64 a] w fun e w' => e = .returned (.tuple #[.int .u64 (a.natAbs : Int), .bool (decide (a < 0))]) ∧ w = w' := by
  unfold F64 at ha
  by_cases h : a < 0
  · rw [show (a.natAbs : Int) = -a by omega, decide_eq_true h]; exact size_neg a w (by omega)
  · rw [show (a.natAbs : Int) = a by omega, decide_eq_false h]; exact size_pos a w (by omega)
theorem div64_any (hi lo y : Nat) (w : World) (hy : hi < y) (hy2 : y < 18446744073709551616) (hl : lo < 18446744073709551616) :
    Calls Try.prog 33 #[.int .u64 hi, .int .u64 lo, .int .u64 y] w fun e w' => e = .returned (.tuple #[.int .u64 (((hi * 18446744073709551616 + lo) / y : Nat) : Int), .int .u64 (((hi * 18446744073709551616 + lo) % y : Nat) : Int)]) ∧ Below w.heap.size w w' := by
  by_cases h : hi = 0
  · subst h
    rw [show 0 * 18446744073709551616 + lo = lo by omega]
    exact div64_low lo y w hl (by omega) hy2
  · have hb := Lib.bitLen_le y 64 (by omega) (by omega)
    exact div64_high hi lo y (64 - Lib.bitLen y) w (by omega) hy hy2 hl (by omega)

/-- a product of sizes divided, rounded down, with the sign -/
def mv (neg : Bool) (P z : Nat) : Int := if neg then -((P / z : Nat) : Int) - (if P % z = 0 then 0 else 1) else ((P / z : Nat) : Int)

set_option maxRecDepth 100000 in
set_option maxHeartbeats 4000000 in
theorem md_walk (a b c : Int) (x y z : Nat) (p q r : Bool) (w : World) (hc0 : (c == 0) = false)
    (sa : ∀ w, Calls Try.prog 31 #[.int .i64 a] w fun e w' => e = .returned (.tuple #[.int .u64 (x : Int), .bool p]) ∧ w = w')
    (sb : ∀ w, Calls Try.prog 31 #[.int .i64 b] w fun e w' => e = .returned (.tuple #[.int .u64 (y : Int), .bool q]) ∧ w = w')
    (sc : ∀ w, Calls Try.prog 31 #[.int .i64 c] w fun e w' => e = .returned (.tuple #[.int .u64 (z : Int), .bool r]) ∧ w = w')
    (hx : x ≤ 9223372036854775808) (hy : y ≤ 9223372036854775808) (hz : z ≤ 9223372036854775808) (hz0 : 0 < z) :
    Calls Try.prog 14 #[.int .i64 a, .int .i64 b, .int .i64 c] w fun e w' => e = .returned (.tuple #[.int .i64 (fitN (mv ((p != q) != r) (x * y) z)), .int .i64 (fitE (mv ((p != q) != r) (x * y) z))]) ∧ Below w.heap.size w w' := by
  have sm := fun w => Try.bits_Mul64 x y (by omega) (by omega) w
  obtain ⟨P, hP⟩ : ∃ P, P = x * y := ⟨_, rfl⟩
  rw [← hP] at sm ⊢
  obtain ⟨h, hh⟩ : ∃ h, h = P / 18446744073709551616 := ⟨_, rfl⟩
  obtain ⟨l, hl⟩ : ∃ l, l = P % 18446744073709551616 := ⟨_, rfl⟩
  obtain ⟨n, hn⟩ : ∃ n, n = P / z := ⟨_, rfl⟩
  obtain ⟨rr, hrr⟩ : ∃ rr, rr = P % z := ⟨_, rfl⟩
  have hPe : h * 18446744073709551616 + l = P := by omega
  have HBIG := Lib.hid (show z ≤ h → ∀ ng, fitB (mv ng P z) = false ∧ fitN (mv ng P z) = 0 ∧ fitE (mv ng P z) = 6 from fun hov ng => by
    have h1 : 18446744073709551616 ≤ P / z := by
      rw [Nat.le_div_iff_mul_le hz0]
      have := Nat.mul_le_mul_left 18446744073709551616 hov
      omega
    refine fit_no ?_
    unfold mv
    cases ng
    · simp; omega
    · simp only [if_true]; split <;> omega)
  have HSM := Lib.hid (show ¬ z ≤ h → n < 18446744073709551616 ∧ mv true P z = -(n : Int) - (if rr = 0 then 0 else 1) ∧ mv false P z = (n : Int) from fun hov => by
    refine ⟨?_, by rw [hn, hrr]; rfl, by rw [hn]; rfl⟩
    rw [hn, Nat.div_lt_iff_lt_mul hz0]
    have := Nat.mul_le_mul_left 18446744073709551616 (show h + 1 ≤ z by omega)
    omega)
  have SD := Lib.hid (show ¬ z ≤ h → ∀ w, Calls Try.prog 33 #[.int .u64 h, .int .u64 l, .int .u64 z] w fun e w' => e = .returned (.tuple #[.int .u64 (n : Int), .int .u64 (rr : Int)]) ∧ Below w.heap.size w w' from fun hov w => by
    have := div64_any h l z w (by omega) (by omega) (by omega)
    rw [hPe, ← hn, ← hrr] at this
    exact this)
  rw [← hh, ← hl] at sm
  clear hh hl hn hrr hP hPe
  cases p <;> cases q <;> cases r
  · change Calls Try.prog 14 #[.int .i64 a, .int .i64 b, .int .i64 c] w fun e w' => e = .returned (.tuple #[.int .i64 (fitN (mv false P z)), .int .i64 (fitE (mv false P z))]) ∧ Below w.heap.size w w'
    by_cases hov : z ≤ h
    · have HF := Lib.hid (HBIG.out hov false)
      have hovi : (z : Int) ≤ (h : Int) := by omega
      go_enter Try.func14, Try.ntmps14
      go_wp2_with (first | (go_at_call 31; (with_reducible refine (sa _).mono ?_); rintro e w1 ⟨rfl, rfl⟩) | (go_at_call 31; (with_reducible refine (sb _).mono ?_); rintro e w1 ⟨rfl, rfl⟩) | (go_at_call 31; (with_reducible refine (sc _).mono ?_); rintro e w1 ⟨rfl, rfl⟩) | (go_at_call 32; (with_reducible refine (sm _).mono ?_); rintro e w1 ⟨rfl, hw1⟩; obtain rfl := hw1.symm) | (go_at_call 33; (with_reducible refine (sd _).mono ?_); rintro e w2 ⟨rfl, hb2⟩))
      go_ret2
      exact ⟨by rw [HF.out.2.1, HF.out.2.2]; rfl, Below.refl _ _⟩
    · have hovi : ¬ (z : Int) ≤ (h : Int) := by omega
      obtain ⟨hn64, hmvn, hmvp⟩ := HSM.out hov
      have sd := SD.out hov
      have HMN := Lib.hid hmvn
      have HMP := Lib.hid hmvp
      clear hmvn hmvp
      have HV := Lib.hid (show mv false P z = (n : Int) from HMP.out)
      by_cases hbig : 9223372036854775808 ≤ n
      · have HF := Lib.hid (show fitB (mv false P z) = false ∧ fitN (mv false P z) = 0 ∧ fitE (mv false P z) = 6 from by rw [HV.out]; exact fit_no (by omega))
        have hbi : 9223372036854775808 ≤ (n : Int) := by omega
        go_enter Try.func14, Try.ntmps14
        go_wp2_with (first | (go_at_call 31; (with_reducible refine (sa _).mono ?_); rintro e w1 ⟨rfl, rfl⟩) | (go_at_call 31; (with_reducible refine (sb _).mono ?_); rintro e w1 ⟨rfl, rfl⟩) | (go_at_call 31; (with_reducible refine (sc _).mono ?_); rintro e w1 ⟨rfl, rfl⟩) | (go_at_call 32; (with_reducible refine (sm _).mono ?_); rintro e w1 ⟨rfl, hw1⟩; obtain rfl := hw1.symm) | (go_at_call 33; (with_reducible refine (sd _).mono ?_); rintro e w2 ⟨rfl, hb2⟩))
        go_ret2
        exact ⟨by rw [HF.out.2.1, HF.out.2.2]; rfl, hb2⟩
      · have HF := Lib.hid (show fitB (mv false P z) = true ∧ fitN (mv false P z) = (n : Int) ∧ fitE (mv false P z) = 0 from by rw [HV.out]; exact fit_yes (by omega))
        have hbi : decide (9223372036854775808 ≤ (n : Int)) = false := by rw [decide_eq_false_iff_not]; omega
        have HW64 := Lib.hid (show wrap64 (n : Int) = (n : Int) by unfold wrap64; omega)
        clear hbig hn64
        go_enter Try.func14, Try.ntmps14
        go_wp2_with (first | (go_at_call 31; (with_reducible refine (sa _).mono ?_); rintro e w1 ⟨rfl, rfl⟩) | (go_at_call 31; (with_reducible refine (sb _).mono ?_); rintro e w1 ⟨rfl, rfl⟩) | (go_at_call 31; (with_reducible refine (sc _).mono ?_); rintro e w1 ⟨rfl, rfl⟩) | (go_at_call 32; (with_reducible refine (sm _).mono ?_); rintro e w1 ⟨rfl, hw1⟩; obtain rfl := hw1.symm) | (go_at_call 33; (with_reducible refine (sd _).mono ?_); rintro e w2 ⟨rfl, hb2⟩))
        go_ret2
        exact ⟨by rw [HF.out.2.1, HF.out.2.2]; first | rfl | exact ret_ii HW64.out rfl, hb2⟩
  · change Calls Try.prog 14 #[.int .i64 a, .int .i64 b, .int .i64 c] w fun e w' => e = .returned (.tuple #[.int .i64 (fitN (mv true P z)), .int .i64 (fitE (mv true P z))]) ∧ Below w.heap.size w w'
    by_cases hov : z ≤ h
    · have HF := Lib.hid (HBIG.out hov true)
      have hovi : (z : Int) ≤ (h : Int) := by omega
      go_enter Try.func14, Try.ntmps14
      go_wp2_with (first | (go_at_call 31; (with_reducible refine (sa _).mono ?_); rintro e w1 ⟨rfl, rfl⟩) | (go_at_call 31; (with_reducible refine (sb _).mono ?_); rintro e w1 ⟨rfl, rfl⟩) | (go_at_call 31; (with_reducible refine (sc _).mono ?_); rintro e w1 ⟨rfl, rfl⟩) | (go_at_call 32; (with_reducible refine (sm _).mono ?_); rintro e w1 ⟨rfl, hw1⟩; obtain rfl := hw1.symm) | (go_at_call 33; (with_reducible refine (sd _).mono ?_); rintro e w2 ⟨rfl, hb2⟩))
      go_ret2
      exact ⟨by rw [HF.out.2.1, HF.out.2.2]; rfl, Below.refl _ _⟩
    · have hovi : ¬ (z : Int) ≤ (h : Int) := by omega
      obtain ⟨hn64, hmvn, hmvp⟩ := HSM.out hov
      have sd := SD.out hov
      have HMN := Lib.hid hmvn
      have HMP := Lib.hid hmvp
      clear hmvn hmvp
      by_cases hr : rr = 0
      · have hri : ¬ 0 < (rr : Int) := by omega
        have HV := Lib.hid (show mv true P z = -(n : Int) from by have := HMN.out; rw [if_pos hr] at this; omega)
        clear hr
        by_cases hbig : 9223372036854775808 < n
        · have HF := Lib.hid (show fitB (mv true P z) = false ∧ fitN (mv true P z) = 0 ∧ fitE (mv true P z) = 6 from by rw [HV.out]; exact fit_no (by omega))
          have hbi : 9223372036854775808 < (n : Int) := by omega
          go_enter Try.func14, Try.ntmps14
          go_wp2_with (first | (go_at_call 31; (with_reducible refine (sa _).mono ?_); rintro e w1 ⟨rfl, rfl⟩) | (go_at_call 31; (with_reducible refine (sb _).mono ?_); rintro e w1 ⟨rfl, rfl⟩) | (go_at_call 31; (with_reducible refine (sc _).mono ?_); rintro e w1 ⟨rfl, rfl⟩) | (go_at_call 32; (with_reducible refine (sm _).mono ?_); rintro e w1 ⟨rfl, hw1⟩; obtain rfl := hw1.symm) | (go_at_call 33; (with_reducible refine (sd _).mono ?_); rintro e w2 ⟨rfl, hb2⟩))
          go_ret2
          exact ⟨by rw [HF.out.2.1, HF.out.2.2]; rfl, hb2⟩
        · have HF := Lib.hid (show fitB (mv true P z) = true ∧ fitN (mv true P z) = -(n : Int) ∧ fitE (mv true P z) = 0 from by rw [HV.out]; exact fit_yes (by omega))
          have hbi : ¬ 9223372036854775808 < (n : Int) := by omega
          have hneg : wrap64 (-wrap64 (n : Int)) = -(n : Int) := by unfold wrap64; omega
          have HNEG := Lib.hid hneg
          clear hneg
          go_enter Try.func14, Try.ntmps14
          go_wp2_with (first | (go_at_call 31; (with_reducible refine (sa _).mono ?_); rintro e w1 ⟨rfl, rfl⟩) | (go_at_call 31; (with_reducible refine (sb _).mono ?_); rintro e w1 ⟨rfl, rfl⟩) | (go_at_call 31; (with_reducible refine (sc _).mono ?_); rintro e w1 ⟨rfl, rfl⟩) | (go_at_call 32; (with_reducible refine (sm _).mono ?_); rintro e w1 ⟨rfl, hw1⟩; obtain rfl := hw1.symm) | (go_at_call 33; (with_reducible refine (sd _).mono ?_); rintro e w2 ⟨rfl, hb2⟩))
          go_ret2
          exact ⟨by rw [HF.out.2.1, HF.out.2.2]; exact ret_ii HNEG.out rfl, hb2⟩
      · have hri : 0 < (rr : Int) := by omega
        have HV := Lib.hid (show mv true P z = -(n : Int) - 1 from by have := HMN.out; rw [if_neg hr] at this; omega)
        clear hr
        by_cases hmax : n = 18446744073709551615
        · have HF := Lib.hid (show fitB (mv true P z) = false ∧ fitN (mv true P z) = 0 ∧ fitE (mv true P z) = 6 from by rw [HV.out]; exact fit_no (by omega))
          have hw : IntKind.u64.wrap ((n : Int) + 1) = 0 := by rw [IntKind.wrap_u64]; omega
          clear hmax
          go_enter Try.func14, Try.ntmps14
          go_wp2_with (first | (go_at_call 31; (with_reducible refine (sa _).mono ?_); rintro e w1 ⟨rfl, rfl⟩) | (go_at_call 31; (with_reducible refine (sb _).mono ?_); rintro e w1 ⟨rfl, rfl⟩) | (go_at_call 31; (with_reducible refine (sc _).mono ?_); rintro e w1 ⟨rfl, rfl⟩) | (go_at_call 32; (with_reducible refine (sm _).mono ?_); rintro e w1 ⟨rfl, hw1⟩; obtain rfl := hw1.symm) | (go_at_call 33; (with_reducible refine (sd _).mono ?_); rintro e w2 ⟨rfl, hb2⟩))
          go_ret2
          exact ⟨by rw [HF.out.2.1, HF.out.2.2]; rfl, hb2⟩
        · obtain ⟨n1, hn1⟩ : ∃ n1, n1 = n + 1 := ⟨_, rfl⟩
          have hw : IntKind.u64.wrap ((n : Int) + 1) = (n1 : Int) := by rw [IntKind.wrap_u64]; omega
          have hn0 : ((n1 : Int) == 0) = false := by simp; omega
          by_cases hbig : 9223372036854775808 < n1
          · have HF := Lib.hid (show fitB (mv true P z) = false ∧ fitN (mv true P z) = 0 ∧ fitE (mv true P z) = 6 from by rw [HV.out]; exact fit_no (by omega))
            have hbi : 9223372036854775808 < (n1 : Int) := by omega
            clear hn1 hmax
            go_enter Try.func14, Try.ntmps14
            go_wp2_with (first | (go_at_call 31; (with_reducible refine (sa _).mono ?_); rintro e w1 ⟨rfl, rfl⟩) | (go_at_call 31; (with_reducible refine (sb _).mono ?_); rintro e w1 ⟨rfl, rfl⟩) | (go_at_call 31; (with_reducible refine (sc _).mono ?_); rintro e w1 ⟨rfl, rfl⟩) | (go_at_call 32; (with_reducible refine (sm _).mono ?_); rintro e w1 ⟨rfl, hw1⟩; obtain rfl := hw1.symm) | (go_at_call 33; (with_reducible refine (sd _).mono ?_); rintro e w2 ⟨rfl, hb2⟩))
            go_ret2
            exact ⟨by rw [HF.out.2.1, HF.out.2.2]; rfl, hb2⟩
          · have HF := Lib.hid (show fitB (mv true P z) = true ∧ fitN (mv true P z) = -(n1 : Int) ∧ fitE (mv true P z) = 0 from by rw [HV.out, show -(n : Int) - 1 = -(n1 : Int) by omega]; exact fit_yes (by omega))
            have hbi : ¬ 9223372036854775808 < (n1 : Int) := by omega
            have hneg : wrap64 (-wrap64 (n1 : Int)) = -(n1 : Int) := by unfold wrap64; omega
            have HNEG := Lib.hid hneg
            clear hneg
            clear hn1 hmax
            go_enter Try.func14, Try.ntmps14
            go_wp2_with (first | (go_at_call 31; (with_reducible refine (sa _).mono ?_); rintro e w1 ⟨rfl, rfl⟩) | (go_at_call 31; (with_reducible refine (sb _).mono ?_); rintro e w1 ⟨rfl, rfl⟩) | (go_at_call 31; (with_reducible refine (sc _).mono ?_); rintro e w1 ⟨rfl, rfl⟩) | (go_at_call 32; (with_reducible refine (sm _).mono ?_); rintro e w1 ⟨rfl, hw1⟩; obtain rfl := hw1.symm) | (go_at_call 33; (with_reducible refine (sd _).mono ?_); rintro e w2 ⟨rfl, hb2⟩))
            go_ret2
            exact ⟨by rw [HF.out.2.1, HF.out.2.2]; exact ret_ii HNEG.out rfl, hb2⟩
  · change Calls Try.prog 14 #[.int .i64 a, .int .i64 b, .int .i64 c] w fun e w' => e = .returned (.tuple #[.int .i64 (fitN (mv true P z)), .int .i64 (fitE (mv true P z))]) ∧ Below w.heap.size w w'
    by_cases hov : z ≤ h
    · have HF := Lib.hid (HBIG.out hov true)
      have hovi : (z : Int) ≤ (h : Int) := by omega
      go_enter Try.func14, Try.ntmps14
      go_wp2_with (first | (go_at_call 31; (with_reducible refine (sa _).mono ?_); rintro e w1 ⟨rfl, rfl⟩) | (go_at_call 31; (with_reducible refine (sb _).mono ?_); rintro e w1 ⟨rfl, rfl⟩) | (go_at_call 31; (with_reducible refine (sc _).mono ?_); rintro e w1 ⟨rfl, rfl⟩) | (go_at_call 32; (with_reducible refine (sm _).mono ?_); rintro e w1 ⟨rfl, hw1⟩; obtain rfl := hw1.symm) | (go_at_call 33; (with_reducible refine (sd _).mono ?_); rintro e w2 ⟨rfl, hb2⟩))
      go_ret2
      exact ⟨by rw [HF.out.2.1, HF.out.2.2]; rfl, Below.refl _ _⟩
    · have hovi : ¬ (z : Int) ≤ (h : Int) := by omega
      obtain ⟨hn64, hmvn, hmvp⟩ := HSM.out hov
      have sd := SD.out hov
      have HMN := Lib.hid hmvn
      have HMP := Lib.hid hmvp
      clear hmvn hmvp
      by_cases hr : rr = 0
      · have hri : ¬ 0 < (rr : Int) := by omega
        have HV := Lib.hid (show mv true P z = -(n : Int) from by have := HMN.out; rw [if_pos hr] at this; omega)
        clear hr
        by_cases hbig : 9223372036854775808 < n
        · have HF := Lib.hid (show fitB (mv true P z) = false ∧ fitN (mv true P z) = 0 ∧ fitE (mv true P z) = 6 from by rw [HV.out]; exact fit_no (by omega))
          have hbi : 9223372036854775808 < (n : Int) := by omega
          go_enter Try.func14, Try.ntmps14
          go_wp2_with (first | (go_at_call 31; (with_reducible refine (sa _).mono ?_); rintro e w1 ⟨rfl, rfl⟩) | (go_at_call 31; (with_reducible refine (sb _).mono ?_); rintro e w1 ⟨rfl, rfl⟩) | (go_at_call 31; (with_reducible refine (sc _).mono ?_); rintro e w1 ⟨rfl, rfl⟩) | (go_at_call 32; (with_reducible refine (sm _).mono ?_); rintro e w1 ⟨rfl, hw1⟩; obtain rfl := hw1.symm) | (go_at_call 33; (with_reducible refine (sd _).mono ?_); rintro e w2 ⟨rfl, hb2⟩))
          go_ret2
          exact ⟨by rw [HF.out.2.1, HF.out.2.2]; rfl, hb2⟩
        · have HF := Lib.hid (show fitB (mv true P z) = true ∧ fitN (mv true P z) = -(n : Int) ∧ fitE (mv true P z) = 0 from by rw [HV.out]; exact fit_yes (by omega))
          have hbi : ¬ 9223372036854775808 < (n : Int) := by omega
          have hneg : wrap64 (-wrap64 (n : Int)) = -(n : Int) := by unfold wrap64; omega
          have HNEG := Lib.hid hneg
          clear hneg
          go_enter Try.func14, Try.ntmps14
          go_wp2_with (first | (go_at_call 31; (with_reducible refine (sa _).mono ?_); rintro e w1 ⟨rfl, rfl⟩) | (go_at_call 31; (with_reducible refine (sb _).mono ?_); rintro e w1 ⟨rfl, rfl⟩) | (go_at_call 31; (with_reducible refine (sc _).mono ?_); rintro e w1 ⟨rfl, rfl⟩) | (go_at_call 32; (with_reducible refine (sm _).mono ?_); rintro e w1 ⟨rfl, hw1⟩; obtain rfl := hw1.symm) | (go_at_call 33; (with_reducible refine (sd _).mono ?_); rintro e w2 ⟨rfl, hb2⟩))
          go_ret2
          exact ⟨by rw [HF.out.2.1, HF.out.2.2]; exact ret_ii HNEG.out rfl, hb2⟩
      · have hri : 0 < (rr : Int) := by omega
        have HV := Lib.hid (show mv true P z = -(n : Int) - 1 from by have := HMN.out; rw [if_neg hr] at this; omega)
        clear hr
        by_cases hmax : n = 18446744073709551615
        · have HF := Lib.hid (show fitB (mv true P z) = false ∧ fitN (mv true P z) = 0 ∧ fitE (mv true P z) = 6 from by rw [HV.out]; exact fit_no (by omega))
          have hw : IntKind.u64.wrap ((n : Int) + 1) = 0 := by rw [IntKind.wrap_u64]; omega
          clear hmax
          go_enter Try.func14, Try.ntmps14
          go_wp2_with (first | (go_at_call 31; (with_reducible refine (sa _).mono ?_); rintro e w1 ⟨rfl, rfl⟩) | (go_at_call 31; (with_reducible refine (sb _).mono ?_); rintro e w1 ⟨rfl, rfl⟩) | (go_at_call 31; (with_reducible refine (sc _).mono ?_); rintro e w1 ⟨rfl, rfl⟩) | (go_at_call 32; (with_reducible refine (sm _).mono ?_); rintro e w1 ⟨rfl, hw1⟩; obtain rfl := hw1.symm) | (go_at_call 33; (with_reducible refine (sd _).mono ?_); rintro e w2 ⟨rfl, hb2⟩))
          go_ret2
          exact ⟨by rw [HF.out.2.1, HF.out.2.2]; rfl, hb2⟩
        · obtain ⟨n1, hn1⟩ : ∃ n1, n1 = n + 1 := ⟨_, rfl⟩
          have hw : IntKind.u64.wrap ((n : Int) + 1) = (n1 : Int) := by rw [IntKind.wrap_u64]; omega
          have hn0 : ((n1 : Int) == 0) = false := by simp; omega
          by_cases hbig : 9223372036854775808 < n1
          · have HF := Lib.hid (show fitB (mv true P z) = false ∧ fitN (mv true P z) = 0 ∧ fitE (mv true P z) = 6 from by rw [HV.out]; exact fit_no (by omega))
            have hbi : 9223372036854775808 < (n1 : Int) := by omega
            clear hn1 hmax
            go_enter Try.func14, Try.ntmps14
            go_wp2_with (first | (go_at_call 31; (with_reducible refine (sa _).mono ?_); rintro e w1 ⟨rfl, rfl⟩) | (go_at_call 31; (with_reducible refine (sb _).mono ?_); rintro e w1 ⟨rfl, rfl⟩) | (go_at_call 31; (with_reducible refine (sc _).mono ?_); rintro e w1 ⟨rfl, rfl⟩) | (go_at_call 32; (with_reducible refine (sm _).mono ?_); rintro e w1 ⟨rfl, hw1⟩; obtain rfl := hw1.symm) | (go_at_call 33; (with_reducible refine (sd _).mono ?_); rintro e w2 ⟨rfl, hb2⟩))
            go_ret2
            exact ⟨by rw [HF.out.2.1, HF.out.2.2]; rfl, hb2⟩
          · have HF := Lib.hid (show fitB (mv true P z) = true ∧ fitN (mv true P z) = -(n1 : Int) ∧ fitE (mv true P z) = 0 from by rw [HV.out, show -(n : Int) - 1 = -(n1 : Int) by omega]; exact fit_yes (by omega))
            have hbi : ¬ 9223372036854775808 < (n1 : Int) := by omega
            have hneg : wrap64 (-wrap64 (n1 : Int)) = -(n1 : Int) := by unfold wrap64; omega
            have HNEG := Lib.hid hneg
            clear hneg
            clear hn1 hmax
            go_enter Try.func14, Try.ntmps14
            go_wp2_with (first | (go_at_call 31; (with_reducible refine (sa _).mono ?_); rintro e w1 ⟨rfl, rfl⟩) | (go_at_call 31; (with_reducible refine (sb _).mono ?_); rintro e w1 ⟨rfl, rfl⟩) | (go_at_call 31; (with_reducible refine (sc _).mono ?_); rintro e w1 ⟨rfl, rfl⟩) | (go_at_call 32; (with_reducible refine (sm _).mono ?_); rintro e w1 ⟨rfl, hw1⟩; obtain rfl := hw1.symm) | (go_at_call 33; (with_reducible refine (sd _).mono ?_); rintro e w2 ⟨rfl, hb2⟩))
            go_ret2
            exact ⟨by rw [HF.out.2.1, HF.out.2.2]; exact ret_ii HNEG.out rfl, hb2⟩
  · change Calls Try.prog 14 #[.int .i64 a, .int .i64 b, .int .i64 c] w fun e w' => e = .returned (.tuple #[.int .i64 (fitN (mv false P z)), .int .i64 (fitE (mv false P z))]) ∧ Below w.heap.size w w'
    by_cases hov : z ≤ h
    · have HF := Lib.hid (HBIG.out hov false)
      have hovi : (z : Int) ≤ (h : Int) := by omega
      go_enter Try.func14, Try.ntmps14
      go_wp2_with (first | (go_at_call 31; (with_reducible refine (sa _).mono ?_); rintro e w1 ⟨rfl, rfl⟩) | (go_at_call 31; (with_reducible refine (sb _).mono ?_); rintro e w1 ⟨rfl, rfl⟩) | (go_at_call 31; (with_reducible refine (sc _).mono ?_); rintro e w1 ⟨rfl, rfl⟩) | (go_at_call 32; (with_reducible refine (sm _).mono ?_); rintro e w1 ⟨rfl, hw1⟩; obtain rfl := hw1.symm) | (go_at_call 33; (with_reducible refine (sd _).mono ?_); rintro e w2 ⟨rfl, hb2⟩))
      go_ret2
      exact ⟨by rw [HF.out.2.1, HF.out.2.2]; rfl, Below.refl _ _⟩
    · have hovi : ¬ (z : Int) ≤ (h : Int) := by omega
      obtain ⟨hn64, hmvn, hmvp⟩ := HSM.out hov
      have sd := SD.out hov
      have HMN := Lib.hid hmvn
      have HMP := Lib.hid hmvp
      clear hmvn hmvp
      have HV := Lib.hid (show mv false P z = (n : Int) from HMP.out)
      by_cases hbig : 9223372036854775808 ≤ n
      · have HF := Lib.hid (show fitB (mv false P z) = false ∧ fitN (mv false P z) = 0 ∧ fitE (mv false P z) = 6 from by rw [HV.out]; exact fit_no (by omega))
        have hbi : 9223372036854775808 ≤ (n : Int) := by omega
        go_enter Try.func14, Try.ntmps14
        go_wp2_with (first | (go_at_call 31; (with_reducible refine (sa _).mono ?_); rintro e w1 ⟨rfl, rfl⟩) | (go_at_call 31; (with_reducible refine (sb _).mono ?_); rintro e w1 ⟨rfl, rfl⟩) | (go_at_call 31; (with_reducible refine (sc _).mono ?_); rintro e w1 ⟨rfl, rfl⟩) | (go_at_call 32; (with_reducible refine (sm _).mono ?_); rintro e w1 ⟨rfl, hw1⟩; obtain rfl := hw1.symm) | (go_at_call 33; (with_reducible refine (sd _).mono ?_); rintro e w2 ⟨rfl, hb2⟩))
        go_ret2
        exact ⟨by rw [HF.out.2.1, HF.out.2.2]; rfl, hb2⟩
      · have HF := Lib.hid (show fitB (mv false P z) = true ∧ fitN (mv false P z) = (n : Int) ∧ fitE (mv false P z) = 0 from by rw [HV.out]; exact fit_yes (by omega))
        have hbi : decide (9223372036854775808 ≤ (n : Int)) = false := by rw [decide_eq_false_iff_not]; omega
        have HW64 := Lib.hid (show wrap64 (n : Int) = (n : Int) by unfold wrap64; omega)
        clear hbig hn64
        go_enter Try.func14, Try.ntmps14
        go_wp2_with (first | (go_at_call 31; (with_reducible refine (sa _).mono ?_); rintro e w1 ⟨rfl, rfl⟩) | (go_at_call 31; (with_reducible refine (sb _).mono ?_); rintro e w1 ⟨rfl, rfl⟩) | (go_at_call 31; (with_reducible refine (sc _).mono ?_); rintro e w1 ⟨rfl, rfl⟩) | (go_at_call 32; (with_reducible refine (sm _).mono ?_); rintro e w1 ⟨rfl, hw1⟩; obtain rfl := hw1.symm) | (go_at_call 33; (with_reducible refine (sd _).mono ?_); rintro e w2 ⟨rfl, hb2⟩))
        go_ret2
        exact ⟨by rw [HF.out.2.1, HF.out.2.2]; first | rfl | exact ret_ii HW64.out rfl, hb2⟩
  · change Calls Try.prog 14 #[.int .i64 a, .int .i64 b, .int .i64 c] w fun e w' => e = .returned (.tuple #[.int .i64 (fitN (mv true P z)), .int .i64 (fitE (mv true P z))]) ∧ Below w.heap.size w w'
    by_cases hov : z ≤ h
    · have HF := Lib.hid (HBIG.out hov true)
      have hovi : (z : Int) ≤ (h : Int) := by omega
      go_enter Try.func14, Try.ntmps14
      go_wp2_with (first | (go_at_call 31; (with_reducible refine (sa _).mono ?_); rintro e w1 ⟨rfl, rfl⟩) | (go_at_call 31; (with_reducible refine (sb _).mono ?_); rintro e w1 ⟨rfl, rfl⟩) | (go_at_call 31; (with_reducible refine (sc _).mono ?_); rintro e w1 ⟨rfl, rfl⟩) | (go_at_call 32; (with_reducible refine (sm _).mono ?_); rintro e w1 ⟨rfl, hw1⟩; obtain rfl := hw1.symm) | (go_at_call 33; (with_reducible refine (sd _).mono ?_); rintro e w2 ⟨rfl, hb2⟩))
      go_ret2
      exact ⟨by rw [HF.out.2.1, HF.out.2.2]; rfl, Below.refl _ _⟩
    · have hovi : ¬ (z : Int) ≤ (h : Int) := by omega
      obtain ⟨hn64, hmvn, hmvp⟩ := HSM.out hov
      have sd := SD.out hov
      have HMN := Lib.hid hmvn
      have HMP := Lib.hid hmvp
      clear hmvn hmvp
      by_cases hr : rr = 0
      · have hri : ¬ 0 < (rr : Int) := by omega
        have HV := Lib.hid (show mv true P z = -(n : Int) from by have := HMN.out; rw [if_pos hr] at this; omega)
        clear hr
        by_cases hbig : 9223372036854775808 < n
        · have HF := Lib.hid (show fitB (mv true P z) = false ∧ fitN (mv true P z) = 0 ∧ fitE (mv true P z) = 6 from by rw [HV.out]; exact fit_no (by omega))
          have hbi : 9223372036854775808 < (n : Int) := by omega
          go_enter Try.func14, Try.ntmps14
          go_wp2_with (first | (go_at_call 31; (with_reducible refine (sa _).mono ?_); rintro e w1 ⟨rfl, rfl⟩) | (go_at_call 31; (with_reducible refine (sb _).mono ?_); rintro e w1 ⟨rfl, rfl⟩) | (go_at_call 31; (with_reducible refine (sc _).mono ?_); rintro e w1 ⟨rfl, rfl⟩) | (go_at_call 32; (with_reducible refine (sm _).mono ?_); rintro e w1 ⟨rfl, hw1⟩; obtain rfl := hw1.symm) | (go_at_call 33; (with_reducible refine (sd _).mono ?_); rintro e w2 ⟨rfl, hb2⟩))
          go_ret2
          exact ⟨by rw [HF.out.2.1, HF.out.2.2]; rfl, hb2⟩
        · have HF := Lib.hid (show fitB (mv true P z) = true ∧ fitN (mv true P z) = -(n : Int) ∧ fitE (mv true P z) = 0 from by rw [HV.out]; exact fit_yes (by omega))
          have hbi : ¬ 9223372036854775808 < (n : Int) := by omega
          have hneg : wrap64 (-wrap64 (n : Int)) = -(n : Int) := by unfold wrap64; omega
          have HNEG := Lib.hid hneg
          clear hneg
          go_enter Try.func14, Try.ntmps14
          go_wp2_with (first | (go_at_call 31; (with_reducible refine (sa _).mono ?_); rintro e w1 ⟨rfl, rfl⟩) | (go_at_call 31; (with_reducible refine (sb _).mono ?_); rintro e w1 ⟨rfl, rfl⟩) | (go_at_call 31; (with_reducible refine (sc _).mono ?_); rintro e w1 ⟨rfl, rfl⟩) | (go_at_call 32; (with_reducible refine (sm _).mono ?_); rintro e w1 ⟨rfl, hw1⟩; obtain rfl := hw1.symm) | (go_at_call 33; (with_reducible refine (sd _).mono ?_); rintro e w2 ⟨rfl, hb2⟩))
          go_ret2
          exact ⟨by rw [HF.out.2.1, HF.out.2.2]; exact ret_ii HNEG.out rfl, hb2⟩
      · have hri : 0 < (rr : Int) := by omega
        have HV := Lib.hid (show mv true P z = -(n : Int) - 1 from by have := HMN.out; rw [if_neg hr] at this; omega)
        clear hr
        by_cases hmax : n = 18446744073709551615
        · have HF := Lib.hid (show fitB (mv true P z) = false ∧ fitN (mv true P z) = 0 ∧ fitE (mv true P z) = 6 from by rw [HV.out]; exact fit_no (by omega))
          have hw : IntKind.u64.wrap ((n : Int) + 1) = 0 := by rw [IntKind.wrap_u64]; omega
          clear hmax
          go_enter Try.func14, Try.ntmps14
          go_wp2_with (first | (go_at_call 31; (with_reducible refine (sa _).mono ?_); rintro e w1 ⟨rfl, rfl⟩) | (go_at_call 31; (with_reducible refine (sb _).mono ?_); rintro e w1 ⟨rfl, rfl⟩) | (go_at_call 31; (with_reducible refine (sc _).mono ?_); rintro e w1 ⟨rfl, rfl⟩) | (go_at_call 32; (with_reducible refine (sm _).mono ?_); rintro e w1 ⟨rfl, hw1⟩; obtain rfl := hw1.symm) | (go_at_call 33; (with_reducible refine (sd _).mono ?_); rintro e w2 ⟨rfl, hb2⟩))
          go_ret2
          exact ⟨by rw [HF.out.2.1, HF.out.2.2]; rfl, hb2⟩
        · obtain ⟨n1, hn1⟩ : ∃ n1, n1 = n + 1 := ⟨_, rfl⟩
          have hw : IntKind.u64.wrap ((n : Int) + 1) = (n1 : Int) := by rw [IntKind.wrap_u64]; omega
          have hn0 : ((n1 : Int) == 0) = false := by simp; omega
          by_cases hbig : 9223372036854775808 < n1
          · have HF := Lib.hid (show fitB (mv true P z) = false ∧ fitN (mv true P z) = 0 ∧ fitE (mv true P z) = 6 from by rw [HV.out]; exact fit_no (by omega))
            have hbi : 9223372036854775808 < (n1 : Int) := by omega
            clear hn1 hmax
            go_enter Try.func14, Try.ntmps14
            go_wp2_with (first | (go_at_call 31; (with_reducible refine (sa _).mono ?_); rintro e w1 ⟨rfl, rfl⟩) | (go_at_call 31; (with_reducible refine (sb _).mono ?_); rintro e w1 ⟨rfl, rfl⟩) | (go_at_call 31; (with_reducible refine (sc _).mono ?_); rintro e w1 ⟨rfl, rfl⟩) | (go_at_call 32; (with_reducible refine (sm _).mono ?_); rintro e w1 ⟨rfl, hw1⟩; obtain rfl := hw1.symm) | (go_at_call 33; (with_reducible refine (sd _).mono ?_); rintro e w2 ⟨rfl, hb2⟩))
            go_ret2
            exact ⟨by rw [HF.out.2.1, HF.out.2.2]; rfl, hb2⟩
          · have HF := Lib.hid (show fitB (mv true P z) = true ∧ fitN (mv true P z) = -(n1 : Int) ∧ fitE (mv true P z) = 0 from by rw [HV.out, show -(n : Int) - 1 = -(n1 : Int) by omega]; exact fit_yes (by omega))
            have hbi : ¬ 9223372036854775808 < (n1 : Int) := by omega
            have hneg : wrap64 (-wrap64 (n1 : Int)) = -(n1 : Int) := by unfold wrap64; omega
            have HNEG := Lib.hid hneg
            clear hneg
            clear hn1 hmax
            go_enter Try.func14, Try.ntmps14
            go_wp2_with (first | (go_at_call 31; (with_reducible refine (sa _).mono ?_); rintro e w1 ⟨rfl, rfl⟩) | (go_at_call 31; (with_reducible refine (sb _).mono ?_); rintro e w1 ⟨rfl, rfl⟩) | (go_at_call 31; (with_reducible refine (sc _).mono ?_); rintro e w1 ⟨rfl, rfl⟩) | (go_at_call 32; (with_reducible refine (sm _).mono ?_); rintro e w1 ⟨rfl, hw1⟩; obtain rfl := hw1.symm) | (go_at_call 33; (with_reducible refine (sd _).mono ?_); rintro e w2 ⟨rfl, hb2⟩))
            go_ret2
            exact ⟨by rw [HF.out.2.1, HF.out.2.2]; exact ret_ii HNEG.out rfl, hb2⟩
  · change Calls Try.prog 14 #[.int .i64 a, .int .i64 b, .int .i64 c] w fun e w' => e = .returned (.tuple #[.int .i64 (fitN (mv false P z)), .int .i64 (fitE (mv false P z))]) ∧ Below w.heap.size w w'
    by_cases hov : z ≤ h
    · have HF := Lib.hid (HBIG.out hov false)
      have hovi : (z : Int) ≤ (h : Int) := by omega
      go_enter Try.func14, Try.ntmps14
      go_wp2_with (first | (go_at_call 31; (with_reducible refine (sa _).mono ?_); rintro e w1 ⟨rfl, rfl⟩) | (go_at_call 31; (with_reducible refine (sb _).mono ?_); rintro e w1 ⟨rfl, rfl⟩) | (go_at_call 31; (with_reducible refine (sc _).mono ?_); rintro e w1 ⟨rfl, rfl⟩) | (go_at_call 32; (with_reducible refine (sm _).mono ?_); rintro e w1 ⟨rfl, hw1⟩; obtain rfl := hw1.symm) | (go_at_call 33; (with_reducible refine (sd _).mono ?_); rintro e w2 ⟨rfl, hb2⟩))
      go_ret2
      exact ⟨by rw [HF.out.2.1, HF.out.2.2]; rfl, Below.refl _ _⟩
    · have hovi : ¬ (z : Int) ≤ (h : Int) := by omega
      obtain ⟨hn64, hmvn, hmvp⟩ := HSM.out hov
      have sd := SD.out hov
      have HMN := Lib.hid hmvn
      have HMP := Lib.hid hmvp
      clear hmvn hmvp
      have HV := Lib.hid (show mv false P z = (n : Int) from HMP.out)
      by_cases hbig : 9223372036854775808 ≤ n
      · have HF := Lib.hid (show fitB (mv false P z) = false ∧ fitN (mv false P z) = 0 ∧ fitE (mv false P z) = 6 from by rw [HV.out]; exact fit_no (by omega))
        have hbi : 9223372036854775808 ≤ (n : Int) := by omega
        go_enter Try.func14, Try.ntmps14
        go_wp2_with (first | (go_at_call 31; (with_reducible refine (sa _).mono ?_); rintro e w1 ⟨rfl, rfl⟩) | (go_at_call 31; (with_reducible refine (sb _).mono ?_); rintro e w1 ⟨rfl, rfl⟩) | (go_at_call 31; (with_reducible refine (sc _).mono ?_); rintro e w1 ⟨rfl, rfl⟩) | (go_at_call 32; (with_reducible refine (sm _).mono ?_); rintro e w1 ⟨rfl, hw1⟩; obtain rfl := hw1.symm) | (go_at_call 33; (with_reducible refine (sd _).mono ?_); rintro e w2 ⟨rfl, hb2⟩))
        go_ret2
        exact ⟨by rw [HF.out.2.1, HF.out.2.2]; rfl, hb2⟩
      · have HF := Lib.hid (show fitB (mv false P z) = true ∧ fitN (mv false P z) = (n : Int) ∧ fitE (mv false P z) = 0 from by rw [HV.out]; exact fit_yes (by omega))
        have hbi : decide (9223372036854775808 ≤ (n : Int)) = false := by rw [decide_eq_false_iff_not]; omega
        have HW64 := Lib.hid (show wrap64 (n : Int) = (n : Int) by unfold wrap64; omega)
        clear hbig hn64
        go_enter Try.func14, Try.ntmps14
        go_wp2_with (first | (go_at_call 31; (with_reducible refine (sa _).mono ?_); rintro e w1 ⟨rfl, rfl⟩) | (go_at_call 31; (with_reducible refine (sb _).mono ?_); rintro e w1 ⟨rfl, rfl⟩) | (go_at_call 31; (with_reducible refine (sc _).mono ?_); rintro e w1 ⟨rfl, rfl⟩) | (go_at_call 32; (with_reducible refine (sm _).mono ?_); rintro e w1 ⟨rfl, hw1⟩; obtain rfl := hw1.symm) | (go_at_call 33; (with_reducible refine (sd _).mono ?_); rintro e w2 ⟨rfl, hb2⟩))
        go_ret2
        exact ⟨by rw [HF.out.2.1, HF.out.2.2]; first | rfl | exact ret_ii HW64.out rfl, hb2⟩
  · change Calls Try.prog 14 #[.int .i64 a, .int .i64 b, .int .i64 c] w fun e w' => e = .returned (.tuple #[.int .i64 (fitN (mv false P z)), .int .i64 (fitE (mv false P z))]) ∧ Below w.heap.size w w'
    by_cases hov : z ≤ h
    · have HF := Lib.hid (HBIG.out hov false)
      have hovi : (z : Int) ≤ (h : Int) := by omega
      go_enter Try.func14, Try.ntmps14
      go_wp2_with (first | (go_at_call 31; (with_reducible refine (sa _).mono ?_); rintro e w1 ⟨rfl, rfl⟩) | (go_at_call 31; (with_reducible refine (sb _).mono ?_); rintro e w1 ⟨rfl, rfl⟩) | (go_at_call 31; (with_reducible refine (sc _).mono ?_); rintro e w1 ⟨rfl, rfl⟩) | (go_at_call 32; (with_reducible refine (sm _).mono ?_); rintro e w1 ⟨rfl, hw1⟩; obtain rfl := hw1.symm) | (go_at_call 33; (with_reducible refine (sd _).mono ?_); rintro e w2 ⟨rfl, hb2⟩))
      go_ret2
      exact ⟨by rw [HF.out.2.1, HF.out.2.2]; rfl, Below.refl _ _⟩
    · have hovi : ¬ (z : Int) ≤ (h : Int) := by omega
      obtain ⟨hn64, hmvn, hmvp⟩ := HSM.out hov
      have sd := SD.out hov
      have HMN := Lib.hid hmvn
      have HMP := Lib.hid hmvp
      clear hmvn hmvp
      have HV := Lib.hid (show mv false P z = (n : Int) from HMP.out)
      by_cases hbig : 9223372036854775808 ≤ n
      · have HF := Lib.hid (show fitB (mv false P z) = false ∧ fitN (mv false P z) = 0 ∧ fitE (mv false P z) = 6 from by rw [HV.out]; exact fit_no (by omega))
        have hbi : 9223372036854775808 ≤ (n : Int) := by omega
        go_enter Try.func14, Try.ntmps14
        go_wp2_with (first | (go_at_call 31; (with_reducible refine (sa _).mono ?_); rintro e w1 ⟨rfl, rfl⟩) | (go_at_call 31; (with_reducible refine (sb _).mono ?_); rintro e w1 ⟨rfl, rfl⟩) | (go_at_call 31; (with_reducible refine (sc _).mono ?_); rintro e w1 ⟨rfl, rfl⟩) | (go_at_call 32; (with_reducible refine (sm _).mono ?_); rintro e w1 ⟨rfl, hw1⟩; obtain rfl := hw1.symm) | (go_at_call 33; (with_reducible refine (sd _).mono ?_); rintro e w2 ⟨rfl, hb2⟩))
        go_ret2
        exact ⟨by rw [HF.out.2.1, HF.out.2.2]; rfl, hb2⟩
      · have HF := Lib.hid (show fitB (mv false P z) = true ∧ fitN (mv false P z) = (n : Int) ∧ fitE (mv false P z) = 0 from by rw [HV.out]; exact fit_yes (by omega))
        have hbi : decide (9223372036854775808 ≤ (n : Int)) = false := by rw [decide_eq_false_iff_not]; omega
        have HW64 := Lib.hid (show wrap64 (n : Int) = (n : Int) by unfold wrap64; omega)
        clear hbig hn64
        go_enter Try.func14, Try.ntmps14
        go_wp2_with (first | (go_at_call 31; (with_reducible refine (sa _).mono ?_); rintro e w1 ⟨rfl, rfl⟩) | (go_at_call 31; (with_reducible refine (sb _).mono ?_); rintro e w1 ⟨rfl, rfl⟩) | (go_at_call 31; (with_reducible refine (sc _).mono ?_); rintro e w1 ⟨rfl, rfl⟩) | (go_at_call 32; (with_reducible refine (sm _).mono ?_); rintro e w1 ⟨rfl, hw1⟩; obtain rfl := hw1.symm) | (go_at_call 33; (with_reducible refine (sd _).mono ?_); rintro e w2 ⟨rfl, hb2⟩))
        go_ret2
        exact ⟨by rw [HF.out.2.1, HF.out.2.2]; first | rfl | exact ret_ii HW64.out rfl, hb2⟩
  · change Calls Try.prog 14 #[.int .i64 a, .int .i64 b, .int .i64 c] w fun e w' => e = .returned (.tuple #[.int .i64 (fitN (mv true P z)), .int .i64 (fitE (mv true P z))]) ∧ Below w.heap.size w w'
    by_cases hov : z ≤ h
    · have HF := Lib.hid (HBIG.out hov true)
      have hovi : (z : Int) ≤ (h : Int) := by omega
      go_enter Try.func14, Try.ntmps14
      go_wp2_with (first | (go_at_call 31; (with_reducible refine (sa _).mono ?_); rintro e w1 ⟨rfl, rfl⟩) | (go_at_call 31; (with_reducible refine (sb _).mono ?_); rintro e w1 ⟨rfl, rfl⟩) | (go_at_call 31; (with_reducible refine (sc _).mono ?_); rintro e w1 ⟨rfl, rfl⟩) | (go_at_call 32; (with_reducible refine (sm _).mono ?_); rintro e w1 ⟨rfl, hw1⟩; obtain rfl := hw1.symm) | (go_at_call 33; (with_reducible refine (sd _).mono ?_); rintro e w2 ⟨rfl, hb2⟩))
      go_ret2
      exact ⟨by rw [HF.out.2.1, HF.out.2.2]; rfl, Below.refl _ _⟩
    · have hovi : ¬ (z : Int) ≤ (h : Int) := by omega
      obtain ⟨hn64, hmvn, hmvp⟩ := HSM.out hov
      have sd := SD.out hov
      have HMN := Lib.hid hmvn
      have HMP := Lib.hid hmvp
      clear hmvn hmvp
      by_cases hr : rr = 0
      · have hri : ¬ 0 < (rr : Int) := by omega
        have HV := Lib.hid (show mv true P z = -(n : Int) from by have := HMN.out; rw [if_pos hr] at this; omega)
        clear hr
        by_cases hbig : 9223372036854775808 < n
        · have HF := Lib.hid (show fitB (mv true P z) = false ∧ fitN (mv true P z) = 0 ∧ fitE (mv true P z) = 6 from by rw [HV.out]; exact fit_no (by omega))
          have hbi : 9223372036854775808 < (n : Int) := by omega
          go_enter Try.func14, Try.ntmps14
          go_wp2_with (first | (go_at_call 31; (with_reducible refine (sa _).mono ?_); rintro e w1 ⟨rfl, rfl⟩) | (go_at_call 31; (with_reducible refine (sb _).mono ?_); rintro e w1 ⟨rfl, rfl⟩) | (go_at_call 31; (with_reducible refine (sc _).mono ?_); rintro e w1 ⟨rfl, rfl⟩) | (go_at_call 32; (with_reducible refine (sm _).mono ?_); rintro e w1 ⟨rfl, hw1⟩; obtain rfl := hw1.symm) | (go_at_call 33; (with_reducible refine (sd _).mono ?_); rintro e w2 ⟨rfl, hb2⟩))
          go_ret2
          exact ⟨by rw [HF.out.2.1, HF.out.2.2]; rfl, hb2⟩
        · have HF := Lib.hid (show fitB (mv true P z) = true ∧ fitN (mv true P z) = -(n : Int) ∧ fitE (mv true P z) = 0 from by rw [HV.out]; exact fit_yes (by omega))
          have hbi : ¬ 9223372036854775808 < (n : Int) := by omega
          have hneg : wrap64 (-wrap64 (n : Int)) = -(n : Int) := by unfold wrap64; omega
          have HNEG := Lib.hid hneg
          clear hneg
          go_enter Try.func14, Try.ntmps14
          go_wp2_with (first | (go_at_call 31; (with_reducible refine (sa _).mono ?_); rintro e w1 ⟨rfl, rfl⟩) | (go_at_call 31; (with_reducible refine (sb _).mono ?_); rintro e w1 ⟨rfl, rfl⟩) | (go_at_call 31; (with_reducible refine (sc _).mono ?_); rintro e w1 ⟨rfl, rfl⟩) | (go_at_call 32; (with_reducible refine (sm _).mono ?_); rintro e w1 ⟨rfl, hw1⟩; obtain rfl := hw1.symm) | (go_at_call 33; (with_reducible refine (sd _).mono ?_); rintro e w2 ⟨rfl, hb2⟩))
          go_ret2
          exact ⟨by rw [HF.out.2.1, HF.out.2.2]; exact ret_ii HNEG.out rfl, hb2⟩
      · have hri : 0 < (rr : Int) := by omega
        have HV := Lib.hid (show mv true P z = -(n : Int) - 1 from by have := HMN.out; rw [if_neg hr] at this; omega)
        clear hr
        by_cases hmax : n = 18446744073709551615
        · have HF := Lib.hid (show fitB (mv true P z) = false ∧ fitN (mv true P z) = 0 ∧ fitE (mv true P z) = 6 from by rw [HV.out]; exact fit_no (by omega))
          have hw : IntKind.u64.wrap ((n : Int) + 1) = 0 := by rw [IntKind.wrap_u64]; omega
          clear hmax
          go_enter Try.func14, Try.ntmps14
          go_wp2_with (first | (go_at_call 31; (with_reducible refine (sa _).mono ?_); rintro e w1 ⟨rfl, rfl⟩) | (go_at_call 31; (with_reducible refine (sb _).mono ?_); rintro e w1 ⟨rfl, rfl⟩) | (go_at_call 31; (with_reducible refine (sc _).mono ?_); rintro e w1 ⟨rfl, rfl⟩) | (go_at_call 32; (with_reducible refine (sm _).mono ?_); rintro e w1 ⟨rfl, hw1⟩; obtain rfl := hw1.symm) | (go_at_call 33; (with_reducible refine (sd _).mono ?_); rintro e w2 ⟨rfl, hb2⟩))
          go_ret2
          exact ⟨by rw [HF.out.2.1, HF.out.2.2]; rfl, hb2⟩
        · obtain ⟨n1, hn1⟩ : ∃ n1, n1 = n + 1 := ⟨_, rfl⟩
          have hw : IntKind.u64.wrap ((n : Int) + 1) = (n1 : Int) := by rw [IntKind.wrap_u64]; omega
          have hn0 : ((n1 : Int) == 0) = false := by simp; omega
          by_cases hbig : 9223372036854775808 < n1
          · have HF := Lib.hid (show fitB (mv true P z) = false ∧ fitN (mv true P z) = 0 ∧ fitE (mv true P z) = 6 from by rw [HV.out]; exact fit_no (by omega))
            have hbi : 9223372036854775808 < (n1 : Int) := by omega
            clear hn1 hmax
            go_enter Try.func14, Try.ntmps14
            go_wp2_with (first | (go_at_call 31; (with_reducible refine (sa _).mono ?_); rintro e w1 ⟨rfl, rfl⟩) | (go_at_call 31; (with_reducible refine (sb _).mono ?_); rintro e w1 ⟨rfl, rfl⟩) | (go_at_call 31; (with_reducible refine (sc _).mono ?_); rintro e w1 ⟨rfl, rfl⟩) | (go_at_call 32; (with_reducible refine (sm _).mono ?_); rintro e w1 ⟨rfl, hw1⟩; obtain rfl := hw1.symm) | (go_at_call 33; (with_reducible refine (sd _).mono ?_); rintro e w2 ⟨rfl, hb2⟩))
            go_ret2
            exact ⟨by rw [HF.out.2.1, HF.out.2.2]; rfl, hb2⟩
          · have HF := Lib.hid (show fitB (mv true P z) = true ∧ fitN (mv true P z) = -(n1 : Int) ∧ fitE (mv true P z) = 0 from by rw [HV.out, show -(n : Int) - 1 = -(n1 : Int) by omega]; exact fit_yes (by omega))
            have hbi : ¬ 9223372036854775808 < (n1 : Int) := by omega
            have hneg : wrap64 (-wrap64 (n1 : Int)) = -(n1 : Int) := by unfold wrap64; omega
            have HNEG := Lib.hid hneg
            clear hneg
            clear hn1 hmax
            go_enter Try.func14, Try.ntmps14
            go_wp2_with (first | (go_at_call 31; (with_reducible refine (sa _).mono ?_); rintro e w1 ⟨rfl, rfl⟩) | (go_at_call 31; (with_reducible refine (sb _).mono ?_); rintro e w1 ⟨rfl, rfl⟩) | (go_at_call 31; (with_reducible refine (sc _).mono ?_); rintro e w1 ⟨rfl, rfl⟩) | (go_at_call 32; (with_reducible refine (sm _).mono ?_); rintro e w1 ⟨rfl, hw1⟩; obtain rfl := hw1.symm) | (go_at_call 33; (with_reducible refine (sd _).mono ?_); rintro e w2 ⟨rfl, hb2⟩))
            go_ret2
            exact ⟨by rw [HF.out.2.1, HF.out.2.2]; exact ret_ii HNEG.out rfl, hb2⟩

theorem natAbs_bd {a : Int} (h : F64 a) : a.natAbs ≤ 9223372036854775808 := by unfold F64 at h; omega
theorem fmd_any (a b c : Int) (w : World) (ha : F64 a) (hb : F64 b) (hc : F64 c) (h0 : c ≠ 0) :
    Calls Try.prog 14 #[.int .i64 a, .int .i64 b, .int .i64 c] w fun e w' =>
      e = .returned (.tuple #[.int .i64 (fitN (mv ((decide (a < 0) != decide (b < 0)) != decide (c < 0)) (a.natAbs * b.natAbs) c.natAbs)), .int .i64 (fitE (mv ((decide (a < 0) != decide (b < 0)) != decide (c < 0)) (a.natAbs * b.natAbs) c.natAbs))]) ∧ Below w.heap.size w w' :=
  md_walk a b c a.natAbs b.natAbs c.natAbs _ _ _ w (by simpa using h0) (fun w => size_any a w ha) (fun w => size_any b w hb) (fun w => size_any c w hc) (natAbs_bd ha) (natAbs_bd hb) (natAbs_bd hc) (by omega)
/-- a product divided by a factor is the other one -/
theorem mv_back {a b : Int} (h0 : b ≠ 0) : mv ((decide (a < 0) != decide (b < 0)) != decide (b < 0)) (a.natAbs * b.natAbs) b.natAbs = a := by
  have hz : 0 < b.natAbs := by omega
  unfold mv
  rw [Nat.mul_div_cancel _ hz, Nat.mul_mod_left, if_pos rfl]
  by_cases ha : a < 0
  · rw [decide_eq_true ha]
    cases decide (b < 0) <;> simp <;> omega
  · rw [decide_eq_false ha]
    cases decide (b < 0) <;> simp <;> omega
end Go.Proofs.Ytanfhjfpdgjphaa
