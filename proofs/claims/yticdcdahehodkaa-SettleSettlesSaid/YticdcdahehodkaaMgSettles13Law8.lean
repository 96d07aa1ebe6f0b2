/- Texts that Settles13Law stands on, one behind the other, part 8. Conditions: each theorem names its own. -/
import Derived.Test.YticdcdahehodkaaMgSettles13Law7
import Derived.Deep.LoopGhost
import Derived.Laws.Bits64b
import Derived.Lib.ItoaNum
import Derived.Lib.BitFns
/-! math/bits' Div64 in general: quotient and rest of two words by one. Condition: the upper word is below the divisor. -/
namespace Go.Proofs.Yticdcdahehodkaa
set_option linter.unusedVariables false
set_option linter.unusedSimpArgs false
open Go.RowKit

/-- the divisor moved up -/
theorem norm_bd {y s : Nat} (hy : 0 < y) (hy2 : y < 18446744073709551616) (hs : s + Lib.bitLen y = 64) : s < 64 ∧ 9223372036854775808 ≤ y * 2 ^ s ∧ y * 2 ^ s < 18446744073709551616 := by
  obtain ⟨h1, h2, h3⟩ := Lib.bitLenAux_bounds 64 y hy2 (by omega)
  change 1 ≤ Lib.bitLen y at h1
  change 2 ^ (Lib.bitLen y - 1) ≤ y at h2
  change y < 2 ^ Lib.bitLen y at h3
  refine ⟨by omega, ?_, ?_⟩
  · have := Nat.mul_le_mul_right (2 ^ s) h2
    rw [← Nat.pow_add, show Lib.bitLen y - 1 + s = 63 by omega] at this
    exact this
  · have := Nat.mul_lt_mul_of_pos_right h3 (Nat.two_pow_pos s)
    rw [← Nat.pow_add, show Lib.bitLen y + s = 64 by omega] at this
    exact this
/-- the lower word moved up, what goes over -/
theorem low_split {lo s : Nat} (hs : s < 64) (hl : lo < 18446744073709551616) : lo * 2 ^ s = lo / 2 ^ (64 - s) * 18446744073709551616 + (lo * 2 ^ s) % 18446744073709551616 ∧ lo / 2 ^ (64 - s) < 2 ^ s := by
  have h64 : 2 ^ (64 - s) * 2 ^ s = 18446744073709551616 := by rw [← Nat.pow_add, show 64 - s + s = 64 by omega]
  constructor
  · have h1 : lo * 2 ^ s / 18446744073709551616 = lo / 2 ^ (64 - s) := by
      rw [← h64, Nat.mul_div_mul_right _ _ (Nat.two_pow_pos s)]
    have := Nat.div_add_mod (lo * 2 ^ s) 18446744073709551616
    rw [h1] at this
    omega
  · rw [Nat.div_lt_iff_lt_mul (Nat.two_pow_pos _), Nat.mul_comm, h64]; exact hl
theorem un_bd {hi lo y s : Nat} (hs : s < 64) (hl : lo < 18446744073709551616) (hy : hi < y) : hi * 2 ^ s + lo / 2 ^ (64 - s) < y * 2 ^ s := by
  have h1 := (low_split hs hl).2
  have h2 := Nat.mul_le_mul_right (2 ^ s) (show hi + 1 ≤ y by omega)
  rw [Nat.add_mul, Nat.one_mul] at h2
  omega
theorem or_sum {a b s : Nat} (h : b < 2 ^ s) : (a * 2 ^ s) ||| b = a * 2 ^ s + b := by
  rw [Nat.mul_comm]
  exact (Nat.two_pow_add_eq_or_of_lt h a).symm
theorem and32 (a : Nat) : a &&& 4294967295 = a % 4294967296 := Nat.and_two_pow_sub_one_eq_mod a 32
theorem wrap_nat {n : Nat} (h : n < 18446744073709551616) : IntKind.u64.wrap (n : Int) = (n : Int) := u64_wrap_nat h
/-- back down -/
theorem rest_down {N y s : Nat} (hy : 0 < y) : (N * 2 ^ s) / (y * 2 ^ s) = N / y ∧ (N * 2 ^ s) % (y * 2 ^ s) / 2 ^ s = N % y := by
  refine ⟨Nat.mul_div_mul_right _ _ (Nat.two_pow_pos s), ?_⟩
  rw [Nat.mul_mod_mul_right, Nat.mul_div_cancel _ (Nat.two_pow_pos s)]

set_option maxRecDepth 100000 in
set_option maxHeartbeats 4000000 in
theorem div64_high (hi lo y s : Nat) (w : World) (hh : 0 < hi) (hy : hi < y) (hy2 : y < 18446744073709551616) (hl : lo < 18446744073709551616) (hs : s + Lib.bitLen y = 64) :
    Calls Try.prog 34 #[.int .u64 hi, .int .u64 lo, .int .u64 y] w fun e w' => e = .returned (.tuple #[.int .u64 (((hi * 18446744073709551616 + lo) / y : Nat) : Int), .int .u64 (((hi * 18446744073709551616 + lo) % y : Nat) : Int)]) ∧ Below w.heap.size w w' := by
  obtain ⟨hs64, hY1, hY2⟩ := norm_bd (by omega) hy2 hs
  obtain ⟨hsp, hL⟩ := low_split hs64 hl
  have hun := un_bd hs64 hl hy
  obtain ⟨rd1, rd2⟩ := rest_down (N := hi * 18446744073709551616 + lo) (y := y) (s := s) (by omega)
  have hN : (hi * 18446744073709551616 + lo) * 2 ^ s = (hi * 2 ^ s + lo / 2 ^ (64 - s)) * 18446744073709551616 + (lo * 2 ^ s) % 18446744073709551616 := by
    rw [Nat.add_mul, hsp, Nat.add_mul, ← hsp, Nat.mul_right_comm]
    omega
  have hH : hi * 2 ^ s < 18446744073709551616 := by omega
  have g1 : IntKind.u64.wrap ((y : Int) * 2 ^ s) = ((y * 2 ^ s : Nat) : Int) := by
    rw [show ((y : Int) * 2 ^ s) = ((y * 2 ^ s : Nat) : Int) by simp]; exact wrap_nat hY2
  have g4 : IntKind.u64.wrap ((hi : Int) * 2 ^ s) = ((hi * 2 ^ s : Nat) : Int) := by
    rw [show ((hi : Int) * 2 ^ s) = ((hi * 2 ^ s : Nat) : Int) by simp]; exact wrap_nat hH
  have g5 : (lo : Int) / 2 ^ (64 - s) = ((lo / 2 ^ (64 - s) : Nat) : Int) := by simp
  have g6 : bits .or .u64 ((hi * 2 ^ s : Nat) : Int) ((lo / 2 ^ (64 - s) : Nat) : Int) = ((hi * 2 ^ s + lo / 2 ^ (64 - s) : Nat) : Int) := by
    rw [bits_or_u64_nat _ _ hH (by omega), or_sum hL]
  have g7 : IntKind.u64.wrap ((lo : Int) * 2 ^ s) = (((lo * 2 ^ s) % 18446744073709551616 : Nat) : Int) := by
    rw [show ((lo : Int) * 2 ^ s) = ((lo * 2 ^ s : Nat) : Int) by simp, IntKind.wrap_u64]; omega
  have hu10 : (lo * 2 ^ s) % 18446744073709551616 < 18446744073709551616 := Nat.mod_lt _ (by omega)
  have HR := Lib.hid (And.intro rd1 rd2)
  have HN := Lib.hid hN
  have hHH := Lib.hid (show hi * 2 ^ s + lo / 2 ^ (64 - s) = _ from rfl)
  clear hsp hL hH rd1 rd2 hN hHH
  generalize hun32 : hi * 2 ^ s + lo / 2 ^ (64 - s) = un at *
  clear hun32
  generalize hi * 2 ^ s = H at *
  generalize lo / 2 ^ (64 - s) = L1 at *
  generalize hun10 : (lo * 2 ^ s) % 18446744073709551616 = u at *
  generalize hYY : y * 2 ^ s = Y at *
  have HYY := Lib.hid hYY
  clear hun10 hYY
  have g3 : bits .and .u64 (Y : Int) 4294967295 = ((Y % 4294967296 : Nat) : Int) := by
    rw [show (4294967295 : Int) = ((4294967295 : Nat) : Int) from rfl, bits_and_u64_nat _ _ hY2 (by omega), and32]
  have g9 : bits .and .u64 (u : Int) 4294967295 = ((u % 4294967296 : Nat) : Int) := by
    rw [show (4294967295 : Int) = ((4294967295 : Nat) : Int) from rfl, bits_and_u64_nat _ _ hu10 (by omega), and32]
  have g2 : (Y : Int) / 4294967296 = ((Y / 4294967296 : Nat) : Int) := by simp
  have g8 : (u : Int) / 4294967296 = ((u / 4294967296 : Nat) : Int) := by simp
  have hYd := Nat.div_add_mod Y 4294967296
  have hud := Nat.div_add_mod u 4294967296
  have hyn0 := Nat.mod_lt Y (show 4294967296 > 0 by omega)
  have hun0 := Nat.mod_lt u (show 4294967296 > 0 by omega)
  have hyn1 : 2147483648 ≤ Y / 4294967296 := by omega
  have hyn1' : Y / 4294967296 < 4294967296 := by omega
  have hun1 : u / 4294967296 < 4294967296 := by omega
  generalize Y / 4294967296 = yn1 at *
  generalize Y % 4294967296 = yn0 at *
  generalize u / 4294967296 = un1 at *
  generalize u % 4294967296 = un0 at *
  have HI := Lib.hid (Dv.Inv.start (un := un) (yn1 := yn1) (yn0 := yn0) (u0 := un1) (by omega) hun1)
  have hq33 : un / yn1 ≤ 8589934592 := by
    rw [Nat.div_le_iff_le_mul_add_pred (by omega)]
    have := Nat.mul_le_mul_left 8589934592 hyn1
    rw [Nat.mul_comm] at this
    omega
  have hr0 : un % yn1 < yn1 := Nat.mod_lt _ (by omega)
  have hun64 : un < 18446744073709551616 := by omega
  have z1 : ((yn1 : Int) == 0) = false := by simp; omega
  have z2 : ¬ (yn1 : Int) = 0 := by omega
  have z3 : ¬ (yn1 : Int) ≤ 0 := by omega
  have gq : IntKind.u64.wrap ((un : Int).tdiv (yn1 : Int)) = ((un / yn1 : Nat) : Int) := by
    rw [show (un : Int).tdiv (yn1 : Int) = ((un / yn1 : Nat) : Int) from rfl]
    exact wrap_nat (by omega)
  have gq' : (un : Int) / (yn1 : Int) = ((un / yn1 : Nat) : Int) := rfl
  have hi1 := HI.out.sum
  generalize un / yn1 = q at *
  generalize un % yn1 = r at *
  have gp : IntKind.u64.wrap ((q : Int) * (yn1 : Int)) = ((q * yn1 : Nat) : Int) := by
    rw [show ((q : Int) * (yn1 : Int)) = ((q * yn1 : Nat) : Int) by simp]; exact wrap_nat (by omega)
  have gp2 : (un : Int) - ((q * yn1 : Nat) : Int) = (r : Int) := by omega
  generalize q * yn1 = qy at *
  have h0 : ((y : Int) == 0) = false := by simp; omega
  have h1 : ¬ (y : Int) ≤ hi := by omega
  have h2 : ((hi : Int) == 0) = false := by simp; omega
  have hlz : ∀ w, Calls Try.prog 47 #[.int .u64 y] w fun e w' => e = .returned (.int .i64 s) ∧ w' = w := fun w => by
    have := Try.bits_LeadingZeros64 (y : Int) w (by omega) (by omega)
    rw [show (64 - (Lib.bitLen (y : Int).toNat : Int)) = (s : Int) by simp; omega] at this
    exact this
  have hs64i : (s : Int) < 64 := by omega
  go_enter Try.func34, Try.ntmps34
  go_wp2_with (first | (go_at_call 47; (with_reducible refine (hlz _).mono ?_); rintro e w1 ⟨rfl, hw1⟩; obtain rfl := hw1.symm))
  have hU : un < yn1 * 4294967296 + yn0 := by omega
  go_loopg [15, 16] q (fun gh qv rv wr => ∃ q1 r1 : Nat, q1 = gh ∧ qv = .int .u64 q1 ∧ rv = .int .u64 r1 ∧ Dv.Inv un yn1 yn0 un1 q1 r1 ∧ r1 < 4294967296 ∧ q1 ≤ 8589934592 ∧ w = wr)
  case atStart => exact ⟨q, r, rfl, by go_num, by go_num, HI.out, by omega, hq33, rfl⟩
  case round =>
    obtain ⟨q1, r1, rfl, rfl, rfl, hJ, hr1, hq1b, rfl⟩ := hrel
    have HJ := Lib.hid hJ
    clear hJ
    by_cases hA : 4294967296 ≤ q1
    · have hAi : 4294967296 ≤ (q1 : Int) := by omega
      obtain ⟨hp, HD⟩ := Dv.Inv.down HJ.out hU hun1 (.inl hA)
      have hq1 : ((q1 : Int) - 1) = ((q1 - 1 : Nat) : Int) := by omega
      by_cases hr2 : 4294967296 ≤ r1 + yn1
      · have HFIN := Lib.hid (Dv.Inv.stop HD hyn0 hU (.inl hr2))
        have hr2i : 4294967296 ≤ (r1 : Int) + yn1 := by omega
        clear HD HJ
        generalize q1 - 1 = qf at *
        have hqf32 : qf < 4294967296 := by rw [HFIN.out]; exact Dv.digit_lt hU hun1
        have hd := Nat.div_add_mod (un * 4294967296 + un1) (yn1 * 4294967296 + yn0)
        have hmt := Nat.mod_lt (un * 4294967296 + un1) (show yn1 * 4294967296 + yn0 > 0 by omega)
        rw [← HFIN.out, show yn1 * 4294967296 + yn0 = Y by omega, Nat.mul_comm] at hd
        rw [show yn1 * 4294967296 + yn0 = Y by omega] at hmt
        obtain ⟨A1, hA1⟩ : ∃ A1, A1 = (un * 4294967296) % 18446744073709551616 := ⟨_, rfl⟩
        obtain ⟨A2, hA2⟩ : ∃ A2, A2 = (un * 4294967296 + un1) % 18446744073709551616 := ⟨_, rfl⟩
        obtain ⟨P3, hP3⟩ : ∃ P3, P3 = qf * Y := ⟨_, rfl⟩
        obtain ⟨A3, hA3⟩ : ∃ A3, A3 = P3 % 18446744073709551616 := ⟨_, rfl⟩
        obtain ⟨t, ht⟩ : ∃ t, t = (un * 4294967296 + un1) % Y := ⟨_, rfl⟩
        rw [← ht] at hd hmt
        have e1 : IntKind.u64.wrap ((un : Int) * 4294967296) = (A1 : Int) := by rw [IntKind.wrap_u64]; omega
        have e2 : IntKind.u64.wrap ((A1 : Int) + (un1 : Int)) = (A2 : Int) := by rw [IntKind.wrap_u64]; omega
        have e3 : IntKind.u64.wrap ((qf : Int) * (Y : Int)) = (A3 : Int) := by
          rw [show (qf : Int) * (Y : Int) = (P3 : Int) by rw [hP3]; simp, IntKind.wrap_u64]; omega
        have e4 : IntKind.u64.wrap ((A2 : Int) - (A3 : Int)) = (t : Int) := by
          rw [IntKind.wrap_u64]
          rw [← hP3] at hd
          omega
        have HT := Lib.hid ht.symm
        clear hd hA1 hA2 hP3 hA3 ht
        have HI2 := Lib.hid (Dv.Inv.start (un := t) (yn1 := yn1) (yn0 := yn0) (u0 := un0) (by omega) hun0)
        have hq33' : t / yn1 ≤ 8589934592 := by
          rw [Nat.div_le_iff_le_mul_add_pred (by omega)]
          have := Nat.mul_le_mul_left 8589934592 hyn1
          rw [Nat.mul_comm] at this
          omega
        have hr0' : t % yn1 < yn1 := Nat.mod_lt _ (by omega)
        have tq : IntKind.u64.wrap ((t : Int).tdiv (yn1 : Int)) = ((t / yn1 : Nat) : Int) := by
          rw [show (t : Int).tdiv (yn1 : Int) = ((t / yn1 : Nat) : Int) from rfl]
          exact wrap_nat (by omega)
        have tq' : (t : Int) / (yn1 : Int) = ((t / yn1 : Nat) : Int) := rfl
        have hti := HI2.out.sum
        generalize t / yn1 = tq1 at *
        generalize t % yn1 = tr1 at *
        have tp : IntKind.u64.wrap ((tq1 : Int) * (yn1 : Int)) = ((tq1 * yn1 : Nat) : Int) := by
          rw [show ((tq1 : Int) * (yn1 : Int)) = ((tq1 * yn1 : Nat) : Int) by simp]; exact wrap_nat (by omega)
        have tp2 : (t : Int) - ((tq1 * yn1 : Nat) : Int) = (tr1 : Int) := by omega
        generalize tq1 * yn1 = tqy at *
        have hU2 : t < yn1 * 4294967296 + yn0 := by omega
        go_wp2
        go_loopg [18, 16] tq1 (fun gh qv rv wr => ∃ q1 r1 : Nat, q1 = gh ∧ qv = .int .u64 q1 ∧ rv = .int .u64 r1 ∧ Dv.Inv t yn1 yn0 un0 q1 r1 ∧ r1 < 4294967296 ∧ q1 ≤ 8589934592 ∧ w = wr)
        case atStart => exact ⟨tq1, tr1, rfl, by go_num, by go_num, HI2.out, by omega, hq33', rfl⟩
        case round =>
          obtain ⟨q2, r2, rfl, rfl, rfl, hJ, hr2, hq2b, rfl⟩ := hrel
          have HJ := Lib.hid hJ
          clear hJ
          by_cases hA2 : 4294967296 ≤ q2
          · have hA2i : 4294967296 ≤ (q2 : Int) := by omega
            obtain ⟨hp2, HD⟩ := Dv.Inv.down HJ.out hU2 hun0 (.inl hA2)
            have hq1 : ((q2 : Int) - 1) = ((q2 - 1 : Nat) : Int) := by omega
            by_cases hr3 : 4294967296 ≤ r2 + yn1
            · have HFIN2 := Lib.hid (Dv.Inv.stop HD hyn0 hU2 (.inl hr3))
              have hr3i : 4294967296 ≤ (r2 : Int) + yn1 := by omega
              clear HD HJ
              generalize q2 - 1 = qg at *
              have hqg32 : qg < 4294967296 := by rw [HFIN2.out]; exact Dv.digit_lt hU2 hun0
              have hd := Nat.div_add_mod (t * 4294967296 + un0) (yn1 * 4294967296 + yn0)
              have hmt2 := Nat.mod_lt (t * 4294967296 + un0) (show yn1 * 4294967296 + yn0 > 0 by omega)
              rw [← HFIN2.out, show yn1 * 4294967296 + yn0 = Y by omega, Nat.mul_comm] at hd
              rw [show yn1 * 4294967296 + yn0 = Y by omega] at hmt2
              obtain ⟨K1, hK1⟩ : ∃ K1, K1 = (t * 4294967296) % 18446744073709551616 := ⟨_, rfl⟩
              obtain ⟨K2, hK2⟩ : ∃ K2, K2 = (t * 4294967296 + un0) % 18446744073709551616 := ⟨_, rfl⟩
              obtain ⟨P4, hP4⟩ : ∃ P4, P4 = qg * Y := ⟨_, rfl⟩
              obtain ⟨K3, hK3⟩ : ∃ K3, K3 = P4 % 18446744073709551616 := ⟨_, rfl⟩
              obtain ⟨K4, hK4⟩ : ∃ K4, K4 = (t * 4294967296 + un0) % Y := ⟨_, rfl⟩
              obtain ⟨K5, hK5⟩ : ∃ K5, K5 = K4 / 2 ^ s := ⟨_, rfl⟩
              rw [← hK4] at hd hmt2
              have k1 : IntKind.u64.wrap ((t : Int) * 4294967296) = (K1 : Int) := by rw [IntKind.wrap_u64]; omega
              have k2 : IntKind.u64.wrap ((K1 : Int) + (un0 : Int)) = (K2 : Int) := by rw [IntKind.wrap_u64]; omega
              have k3 : IntKind.u64.wrap ((qg : Int) * (Y : Int)) = (K3 : Int) := by
                rw [show (qg : Int) * (Y : Int) = (P4 : Int) by rw [hP4]; simp, IntKind.wrap_u64]; omega
              have k4 : IntKind.u64.wrap ((K2 : Int) - (K3 : Int)) = (K4 : Int) := by
                rw [IntKind.wrap_u64]
                rw [← hP4] at hd
                omega
              have k5 : (K4 : Int) / 2 ^ s = (K5 : Int) := by rw [hK5]; simp
              have htwo := Dv.two (B := 4294967296) (N' := (hi * 18446744073709551616 + lo) * 2 ^ s) (un := un) (un1 := un1) (un0 := un0) (y := Y) (by omega) (by rw [HN.out]; omega)
              rw [HT.out, HR.out.1] at htwo
              have hres : ((hi * 18446744073709551616 + lo) / y : Nat) = qf * 4294967296 + qg := by
                rw [htwo.1, HFIN.out, HFIN2.out, show yn1 * 4294967296 + yn0 = Y by omega]
              have hres2 : ((hi * 18446744073709551616 + lo) % y : Nat) = K5 := by
                rw [← HR.out.2, htwo.2, ← hK4, hK5]
              obtain ⟨QF, hQF⟩ : ∃ QF, QF = qf * 4294967296 := ⟨_, rfl⟩
              obtain ⟨RS, hRS⟩ : ∃ RS, RS = QF + qg := ⟨_, rfl⟩
              have m1 : IntKind.u64.wrap ((qf : Int) * 4294967296) = (QF : Int) := by rw [IntKind.wrap_u64]; omega
              have m2 : IntKind.u64.wrap ((QF : Int) + (qg : Int)) = (RS : Int) := by rw [IntKind.wrap_u64]; omega
              rw [← hQF, ← hRS] at hres
              have HRES := Lib.hid hres
              have HRES2 := Lib.hid hres2
              clear hd htwo hres hres2 hK1 hK2 hP4 hK3 hK4 hK5 hQF hRS hqg32 hqf32 hmt2
              go_wp2
              go_ret2
              exact ⟨ret_ii (congrArg Int.ofNat HRES.out.symm) (congrArg Int.ofNat HRES2.out.symm), Below.refl _ _⟩
            · have hr3i : ¬ 4294967296 ≤ (r2 : Int) + yn1 := by omega
              have HJ2 := Lib.hid HD
              clear HD HJ
              go_wp2
              go_roundg (q2 - 1)
              case measure => omega
              case rel => exact ⟨q2 - 1, r2 + yn1, rfl, by go_num, by go_num, HJ2.out, by omega, by omega, rfl⟩
          · have hA2i : (q2 : Int) < 4294967296 := by omega
            have hpr2 : q2 * yn0 ≤ 18446744073709551615 := by
              have := Nat.mul_le_mul (show q2 ≤ 4294967295 by omega) (show yn0 ≤ 4294967295 by omega)
              omega
            have hpe2 : ((q2 : Int) * (yn0 : Int)) = ((q2 * yn0 : Nat) : Int) := by simp
            by_cases hB2 : 4294967296 * r2 + un0 < q2 * yn0
            · obtain ⟨hp2, HD⟩ := Dv.Inv.down HJ.out hU2 hun0 (.inr hB2)
              generalize q2 * yn0 = pz2 at *
              have hB2i : 4294967296 * (r2 : Int) + un0 < pz2 := by omega
              have hq1 : ((q2 : Int) - 1) = ((q2 - 1 : Nat) : Int) := by omega
              by_cases hr3 : 4294967296 ≤ r2 + yn1
              · have HFIN2 := Lib.hid (Dv.Inv.stop HD hyn0 hU2 (.inl hr3))
                have hr3i : 4294967296 ≤ (r2 : Int) + yn1 := by omega
                clear HD HJ
                generalize q2 - 1 = qg at *
                have hqg32 : qg < 4294967296 := by rw [HFIN2.out]; exact Dv.digit_lt hU2 hun0
                have hd := Nat.div_add_mod (t * 4294967296 + un0) (yn1 * 4294967296 + yn0)
                have hmt2 := Nat.mod_lt (t * 4294967296 + un0) (show yn1 * 4294967296 + yn0 > 0 by omega)
                rw [← HFIN2.out, show yn1 * 4294967296 + yn0 = Y by omega, Nat.mul_comm] at hd
                rw [show yn1 * 4294967296 + yn0 = Y by omega] at hmt2
                obtain ⟨K1, hK1⟩ : ∃ K1, K1 = (t * 4294967296) % 18446744073709551616 := ⟨_, rfl⟩
                obtain ⟨K2, hK2⟩ : ∃ K2, K2 = (t * 4294967296 + un0) % 18446744073709551616 := ⟨_, rfl⟩
                obtain ⟨P4, hP4⟩ : ∃ P4, P4 = qg * Y := ⟨_, rfl⟩
                obtain ⟨K3, hK3⟩ : ∃ K3, K3 = P4 % 18446744073709551616 := ⟨_, rfl⟩
                obtain ⟨K4, hK4⟩ : ∃ K4, K4 = (t * 4294967296 + un0) % Y := ⟨_, rfl⟩
                obtain ⟨K5, hK5⟩ : ∃ K5, K5 = K4 / 2 ^ s := ⟨_, rfl⟩
                rw [← hK4] at hd hmt2
                have k1 : IntKind.u64.wrap ((t : Int) * 4294967296) = (K1 : Int) := by rw [IntKind.wrap_u64]; omega
                have k2 : IntKind.u64.wrap ((K1 : Int) + (un0 : Int)) = (K2 : Int) := by rw [IntKind.wrap_u64]; omega
                have k3 : IntKind.u64.wrap ((qg : Int) * (Y : Int)) = (K3 : Int) := by
                  rw [show (qg : Int) * (Y : Int) = (P4 : Int) by rw [hP4]; simp, IntKind.wrap_u64]; omega
                have k4 : IntKind.u64.wrap ((K2 : Int) - (K3 : Int)) = (K4 : Int) := by
                  rw [IntKind.wrap_u64]
                  rw [← hP4] at hd
                  omega
                have k5 : (K4 : Int) / 2 ^ s = (K5 : Int) := by rw [hK5]; simp
                have htwo := Dv.two (B := 4294967296) (N' := (hi * 18446744073709551616 + lo) * 2 ^ s) (un := un) (un1 := un1) (un0 := un0) (y := Y) (by omega) (by rw [HN.out]; omega)
                rw [HT.out, HR.out.1] at htwo
                have hres : ((hi * 18446744073709551616 + lo) / y : Nat) = qf * 4294967296 + qg := by
                  rw [htwo.1, HFIN.out, HFIN2.out, show yn1 * 4294967296 + yn0 = Y by omega]
                have hres2 : ((hi * 18446744073709551616 + lo) % y : Nat) = K5 := by
                  rw [← HR.out.2, htwo.2, ← hK4, hK5]
                obtain ⟨QF, hQF⟩ : ∃ QF, QF = qf * 4294967296 := ⟨_, rfl⟩
                obtain ⟨RS, hRS⟩ : ∃ RS, RS = QF + qg := ⟨_, rfl⟩
                have m1 : IntKind.u64.wrap ((qf : Int) * 4294967296) = (QF : Int) := by rw [IntKind.wrap_u64]; omega
                have m2 : IntKind.u64.wrap ((QF : Int) + (qg : Int)) = (RS : Int) := by rw [IntKind.wrap_u64]; omega
                rw [← hQF, ← hRS] at hres
                have HRES := Lib.hid hres
                have HRES2 := Lib.hid hres2
                clear hd htwo hres hres2 hK1 hK2 hP4 hK3 hK4 hK5 hQF hRS hqg32 hqf32 hmt2
                go_wp2
                go_ret2
                exact ⟨ret_ii (congrArg Int.ofNat HRES.out.symm) (congrArg Int.ofNat HRES2.out.symm), Below.refl _ _⟩
              · have hr3i : ¬ 4294967296 ≤ (r2 : Int) + yn1 := by omega
                have HJ2 := Lib.hid HD
                clear HD HJ
                go_wp2
                go_roundg (q2 - 1)
                case measure => omega
                case rel => exact ⟨q2 - 1, r2 + yn1, rfl, by go_num, by go_num, HJ2.out, by omega, by omega, rfl⟩
            · have HFIN2 := Lib.hid (Dv.Inv.stop HJ.out hyn0 hU2 (.inr ⟨by omega, by omega⟩))
              generalize q2 * yn0 = pz2 at *
              obtain ⟨S2, hS2⟩ : ∃ S2, S2 = 4294967296 * r2 + un0 := ⟨_, rfl⟩
              have hS2i : 4294967296 * (r2 : Int) + un0 = (S2 : Int) := by omega
              have hB2i : ¬ (S2 : Int) < pz2 := by omega
              have hS2b : (S2 : Int) ≤ 18446744073709551615 := by omega
              clear hS2
              obtain ⟨qg, hqg⟩ : ∃ qg, qg = q2 := ⟨_, rfl⟩
              rw [← hqg] at HFIN2
              subst hqg
              clear hB2
              have hA2j : ¬ 4294967296 ≤ (qg : Int) := by omega
              clear hA2i hA2
              have hqg32 : qg < 4294967296 := by rw [HFIN2.out]; exact Dv.digit_lt hU2 hun0
              have hd := Nat.div_add_mod (t * 4294967296 + un0) (yn1 * 4294967296 + yn0)
              have hmt2 := Nat.mod_lt (t * 4294967296 + un0) (show yn1 * 4294967296 + yn0 > 0 by omega)
              rw [← HFIN2.out, show yn1 * 4294967296 + yn0 = Y by omega, Nat.mul_comm] at hd
              rw [show yn1 * 4294967296 + yn0 = Y by omega] at hmt2
              obtain ⟨K1, hK1⟩ : ∃ K1, K1 = (t * 4294967296) % 18446744073709551616 := ⟨_, rfl⟩
              obtain ⟨K2, hK2⟩ : ∃ K2, K2 = (t * 4294967296 + un0) % 18446744073709551616 := ⟨_, rfl⟩
              obtain ⟨P4, hP4⟩ : ∃ P4, P4 = qg * Y := ⟨_, rfl⟩
              obtain ⟨K3, hK3⟩ : ∃ K3, K3 = P4 % 18446744073709551616 := ⟨_, rfl⟩
              obtain ⟨K4, hK4⟩ : ∃ K4, K4 = (t * 4294967296 + un0) % Y := ⟨_, rfl⟩
              obtain ⟨K5, hK5⟩ : ∃ K5, K5 = K4 / 2 ^ s := ⟨_, rfl⟩
              rw [← hK4] at hd hmt2
              have k1 : IntKind.u64.wrap ((t : Int) * 4294967296) = (K1 : Int) := by rw [IntKind.wrap_u64]; omega
              have k2 : IntKind.u64.wrap ((K1 : Int) + (un0 : Int)) = (K2 : Int) := by rw [IntKind.wrap_u64]; omega
              have k3 : IntKind.u64.wrap ((qg : Int) * (Y : Int)) = (K3 : Int) := by
                rw [show (qg : Int) * (Y : Int) = (P4 : Int) by rw [hP4]; simp, IntKind.wrap_u64]; omega
              have k4 : IntKind.u64.wrap ((K2 : Int) - (K3 : Int)) = (K4 : Int) := by
                rw [IntKind.wrap_u64]
                rw [← hP4] at hd
                omega
              have k5 : (K4 : Int) / 2 ^ s = (K5 : Int) := by rw [hK5]; simp
              have htwo := Dv.two (B := 4294967296) (N' := (hi * 18446744073709551616 + lo) * 2 ^ s) (un := un) (un1 := un1) (un0 := un0) (y := Y) (by omega) (by rw [HN.out]; omega)
              rw [HT.out, HR.out.1] at htwo
              have hres : ((hi * 18446744073709551616 + lo) / y : Nat) = qf * 4294967296 + qg := by
                rw [htwo.1, HFIN.out, HFIN2.out, show yn1 * 4294967296 + yn0 = Y by omega]
              have hres2 : ((hi * 18446744073709551616 + lo) % y : Nat) = K5 := by
                rw [← HR.out.2, htwo.2, ← hK4, hK5]
              obtain ⟨QF, hQF⟩ : ∃ QF, QF = qf * 4294967296 := ⟨_, rfl⟩
              obtain ⟨RS, hRS⟩ : ∃ RS, RS = QF + qg := ⟨_, rfl⟩
              have m1 : IntKind.u64.wrap ((qf : Int) * 4294967296) = (QF : Int) := by rw [IntKind.wrap_u64]; omega
              have m2 : IntKind.u64.wrap ((QF : Int) + (qg : Int)) = (RS : Int) := by rw [IntKind.wrap_u64]; omega
              rw [← hQF, ← hRS] at hres
              have HRES := Lib.hid hres
              have HRES2 := Lib.hid hres2
              clear hd htwo hres hres2 hK1 hK2 hP4 hK3 hK4 hK5 hQF hRS hqg32 hqf32 hmt2
              go_wp2
              go_ret2
              exact ⟨ret_ii (congrArg Int.ofNat HRES.out.symm) (congrArg Int.ofNat HRES2.out.symm), Below.refl _ _⟩
      · have hr2i : ¬ 4294967296 ≤ (r1 : Int) + yn1 := by omega
        have HJ2 := Lib.hid HD
        clear HD HJ
        go_wp2
        go_roundg (q1 - 1)
        case measure => omega
        case rel => exact ⟨q1 - 1, r1 + yn1, rfl, by go_num, by go_num, HJ2.out, by omega, by omega, rfl⟩
    · have hAi : (q1 : Int) < 4294967296 := by omega
      have hpr : q1 * yn0 ≤ 18446744073709551615 := by
        have := Nat.mul_le_mul (show q1 ≤ 4294967295 by omega) (show yn0 ≤ 4294967295 by omega)
        omega
      have hpe : ((q1 : Int) * (yn0 : Int)) = ((q1 * yn0 : Nat) : Int) := by simp
      by_cases hB : 4294967296 * r1 + un1 < q1 * yn0
      · obtain ⟨hp, HD⟩ := Dv.Inv.down HJ.out hU hun1 (.inr hB)
        generalize q1 * yn0 = pz at *
        have hBi : 4294967296 * (r1 : Int) + un1 < pz := by omega
        have hq1 : ((q1 : Int) - 1) = ((q1 - 1 : Nat) : Int) := by omega
        by_cases hr2 : 4294967296 ≤ r1 + yn1
        · have HFIN := Lib.hid (Dv.Inv.stop HD hyn0 hU (.inl hr2))
          have hr2i : 4294967296 ≤ (r1 : Int) + yn1 := by omega
          clear HD HJ
          generalize q1 - 1 = qf at *
          have hqf32 : qf < 4294967296 := by rw [HFIN.out]; exact Dv.digit_lt hU hun1
          have hd := Nat.div_add_mod (un * 4294967296 + un1) (yn1 * 4294967296 + yn0)
          have hmt := Nat.mod_lt (un * 4294967296 + un1) (show yn1 * 4294967296 + yn0 > 0 by omega)
          rw [← HFIN.out, show yn1 * 4294967296 + yn0 = Y by omega, Nat.mul_comm] at hd
          rw [show yn1 * 4294967296 + yn0 = Y by omega] at hmt
          obtain ⟨A1, hA1⟩ : ∃ A1, A1 = (un * 4294967296) % 18446744073709551616 := ⟨_, rfl⟩
          obtain ⟨A2, hA2⟩ : ∃ A2, A2 = (un * 4294967296 + un1) % 18446744073709551616 := ⟨_, rfl⟩
          obtain ⟨P3, hP3⟩ : ∃ P3, P3 = qf * Y := ⟨_, rfl⟩
          obtain ⟨A3, hA3⟩ : ∃ A3, A3 = P3 % 18446744073709551616 := ⟨_, rfl⟩
          obtain ⟨t, ht⟩ : ∃ t, t = (un * 4294967296 + un1) % Y := ⟨_, rfl⟩
          rw [← ht] at hd hmt
          have e1 : IntKind.u64.wrap ((un : Int) * 4294967296) = (A1 : Int) := by rw [IntKind.wrap_u64]; omega
          have e2 : IntKind.u64.wrap ((A1 : Int) + (un1 : Int)) = (A2 : Int) := by rw [IntKind.wrap_u64]; omega
          have e3 : IntKind.u64.wrap ((qf : Int) * (Y : Int)) = (A3 : Int) := by
            rw [show (qf : Int) * (Y : Int) = (P3 : Int) by rw [hP3]; simp, IntKind.wrap_u64]; omega
          have e4 : IntKind.u64.wrap ((A2 : Int) - (A3 : Int)) = (t : Int) := by
            rw [IntKind.wrap_u64]
            rw [← hP3] at hd
            omega
          have HT := Lib.hid ht.symm
          clear hd hA1 hA2 hP3 hA3 ht
          have HI2 := Lib.hid (Dv.Inv.start (un := t) (yn1 := yn1) (yn0 := yn0) (u0 := un0) (by omega) hun0)
          have hq33' : t / yn1 ≤ 8589934592 := by
            rw [Nat.div_le_iff_le_mul_add_pred (by omega)]
            have := Nat.mul_le_mul_left 8589934592 hyn1
            rw [Nat.mul_comm] at this
            omega
          have hr0' : t % yn1 < yn1 := Nat.mod_lt _ (by omega)
          have tq : IntKind.u64.wrap ((t : Int).tdiv (yn1 : Int)) = ((t / yn1 : Nat) : Int) := by
            rw [show (t : Int).tdiv (yn1 : Int) = ((t / yn1 : Nat) : Int) from rfl]
            exact wrap_nat (by omega)
          have tq' : (t : Int) / (yn1 : Int) = ((t / yn1 : Nat) : Int) := rfl
          have hti := HI2.out.sum
          generalize t / yn1 = tq1 at *
          generalize t % yn1 = tr1 at *
          have tp : IntKind.u64.wrap ((tq1 : Int) * (yn1 : Int)) = ((tq1 * yn1 : Nat) : Int) := by
            rw [show ((tq1 : Int) * (yn1 : Int)) = ((tq1 * yn1 : Nat) : Int) by simp]; exact wrap_nat (by omega)
          have tp2 : (t : Int) - ((tq1 * yn1 : Nat) : Int) = (tr1 : Int) := by omega
          generalize tq1 * yn1 = tqy at *
          have hU2 : t < yn1 * 4294967296 + yn0 := by omega
          go_wp2
          go_loopg [18, 16] tq1 (fun gh qv rv wr => ∃ q1 r1 : Nat, q1 = gh ∧ qv = .int .u64 q1 ∧ rv = .int .u64 r1 ∧ Dv.Inv t yn1 yn0 un0 q1 r1 ∧ r1 < 4294967296 ∧ q1 ≤ 8589934592 ∧ w = wr)
          case atStart => exact ⟨tq1, tr1, rfl, by go_num, by go_num, HI2.out, by omega, hq33', rfl⟩
          case round =>
            obtain ⟨q2, r2, rfl, rfl, rfl, hJ, hr2, hq2b, rfl⟩ := hrel
            have HJ := Lib.hid hJ
            clear hJ
            by_cases hA2 : 4294967296 ≤ q2
            · have hA2i : 4294967296 ≤ (q2 : Int) := by omega
              obtain ⟨hp2, HD⟩ := Dv.Inv.down HJ.out hU2 hun0 (.inl hA2)
              have hq1 : ((q2 : Int) - 1) = ((q2 - 1 : Nat) : Int) := by omega
              by_cases hr3 : 4294967296 ≤ r2 + yn1
              · have HFIN2 := Lib.hid (Dv.Inv.stop HD hyn0 hU2 (.inl hr3))
                have hr3i : 4294967296 ≤ (r2 : Int) + yn1 := by omega
                clear HD HJ
                generalize q2 - 1 = qg at *
                have hqg32 : qg < 4294967296 := by rw [HFIN2.out]; exact Dv.digit_lt hU2 hun0
                have hd := Nat.div_add_mod (t * 4294967296 + un0) (yn1 * 4294967296 + yn0)
                have hmt2 := Nat.mod_lt (t * 4294967296 + un0) (show yn1 * 4294967296 + yn0 > 0 by omega)
                rw [← HFIN2.out, show yn1 * 4294967296 + yn0 = Y by omega, Nat.mul_comm] at hd
                rw [show yn1 * 4294967296 + yn0 = Y by omega] at hmt2
                obtain ⟨K1, hK1⟩ : ∃ K1, K1 = (t * 4294967296) % 18446744073709551616 := ⟨_, rfl⟩
                obtain ⟨K2, hK2⟩ : ∃ K2, K2 = (t * 4294967296 + un0) % 18446744073709551616 := ⟨_, rfl⟩
                obtain ⟨P4, hP4⟩ : ∃ P4, P4 = qg * Y := ⟨_, rfl⟩
                obtain ⟨K3, hK3⟩ : ∃ K3, K3 = P4 % 18446744073709551616 := ⟨_, rfl⟩
                obtain ⟨K4, hK4⟩ : ∃ K4, K4 = (t * 4294967296 + un0) % Y := ⟨_, rfl⟩
                obtain ⟨K5, hK5⟩ : ∃ K5, K5 = K4 / 2 ^ s := ⟨_, rfl⟩
                rw [← hK4] at hd hmt2
                have k1 : IntKind.u64.wrap ((t : Int) * 4294967296) = (K1 : Int) := by rw [IntKind.wrap_u64]; omega
                have k2 : IntKind.u64.wrap ((K1 : Int) + (un0 : Int)) = (K2 : Int) := by rw [IntKind.wrap_u64]; omega
                have k3 : IntKind.u64.wrap ((qg : Int) * (Y : Int)) = (K3 : Int) := by
                  rw [show (qg : Int) * (Y : Int) = (P4 : Int) by rw [hP4]; simp, IntKind.wrap_u64]; omega
                have k4 : IntKind.u64.wrap ((K2 : Int) - (K3 : Int)) = (K4 : Int) := by
                  rw [IntKind.wrap_u64]
                  rw [← hP4] at hd
                  omega
                have k5 : (K4 : Int) / 2 ^ s = (K5 : Int) := by rw [hK5]; simp
                have htwo := Dv.two (B := 4294967296) (N' := (hi * 18446744073709551616 + lo) * 2 ^ s) (un := un) (un1 := un1) (un0 := un0) (y := Y) (by omega) (by rw [HN.out]; omega)
                rw [HT.out, HR.out.1] at htwo
                have hres : ((hi * 18446744073709551616 + lo) / y : Nat) = qf * 4294967296 + qg := by
                  rw [htwo.1, HFIN.out, HFIN2.out, show yn1 * 4294967296 + yn0 = Y by omega]
                have hres2 : ((hi * 18446744073709551616 + lo) % y : Nat) = K5 := by
                  rw [← HR.out.2, htwo.2, ← hK4, hK5]
                obtain ⟨QF, hQF⟩ : ∃ QF, QF = qf * 4294967296 := ⟨_, rfl⟩
                obtain ⟨RS, hRS⟩ : ∃ RS, RS = QF + qg := ⟨_, rfl⟩
                have m1 : IntKind.u64.wrap ((qf : Int) * 4294967296) = (QF : Int) := by rw [IntKind.wrap_u64]; omega
                have m2 : IntKind.u64.wrap ((QF : Int) + (qg : Int)) = (RS : Int) := by rw [IntKind.wrap_u64]; omega
                rw [← hQF, ← hRS] at hres
                have HRES := Lib.hid hres
                have HRES2 := Lib.hid hres2
                clear hd htwo hres hres2 hK1 hK2 hP4 hK3 hK4 hK5 hQF hRS hqg32 hqf32 hmt2
                go_wp2
                go_ret2
                exact ⟨ret_ii (congrArg Int.ofNat HRES.out.symm) (congrArg Int.ofNat HRES2.out.symm), Below.refl _ _⟩
              · have hr3i : ¬ 4294967296 ≤ (r2 : Int) + yn1 := by omega
                have HJ2 := Lib.hid HD
                clear HD HJ
                go_wp2
                go_roundg (q2 - 1)
                case measure => omega
                case rel => exact ⟨q2 - 1, r2 + yn1, rfl, by go_num, by go_num, HJ2.out, by omega, by omega, rfl⟩
            · have hA2i : (q2 : Int) < 4294967296 := by omega
              have hpr2 : q2 * yn0 ≤ 18446744073709551615 := by
                have := Nat.mul_le_mul (show q2 ≤ 4294967295 by omega) (show yn0 ≤ 4294967295 by omega)
                omega
              have hpe2 : ((q2 : Int) * (yn0 : Int)) = ((q2 * yn0 : Nat) : Int) := by simp
              by_cases hB2 : 4294967296 * r2 + un0 < q2 * yn0
              · obtain ⟨hp2, HD⟩ := Dv.Inv.down HJ.out hU2 hun0 (.inr hB2)
                generalize q2 * yn0 = pz2 at *
                have hB2i : 4294967296 * (r2 : Int) + un0 < pz2 := by omega
                have hq1 : ((q2 : Int) - 1) = ((q2 - 1 : Nat) : Int) := by omega
                by_cases hr3 : 4294967296 ≤ r2 + yn1
                · have HFIN2 := Lib.hid (Dv.Inv.stop HD hyn0 hU2 (.inl hr3))
                  have hr3i : 4294967296 ≤ (r2 : Int) + yn1 := by omega
                  clear HD HJ
                  generalize q2 - 1 = qg at *
                  have hqg32 : qg < 4294967296 := by rw [HFIN2.out]; exact Dv.digit_lt hU2 hun0
                  have hd := Nat.div_add_mod (t * 4294967296 + un0) (yn1 * 4294967296 + yn0)
                  have hmt2 := Nat.mod_lt (t * 4294967296 + un0) (show yn1 * 4294967296 + yn0 > 0 by omega)
                  rw [← HFIN2.out, show yn1 * 4294967296 + yn0 = Y by omega, Nat.mul_comm] at hd
                  rw [show yn1 * 4294967296 + yn0 = Y by omega] at hmt2
                  obtain ⟨K1, hK1⟩ : ∃ K1, K1 = (t * 4294967296) % 18446744073709551616 := ⟨_, rfl⟩
                  obtain ⟨K2, hK2⟩ : ∃ K2, K2 = (t * 4294967296 + un0) % 18446744073709551616 := ⟨_, rfl⟩
                  obtain ⟨P4, hP4⟩ : ∃ P4, P4 = qg * Y := ⟨_, rfl⟩
                  obtain ⟨K3, hK3⟩ : ∃ K3, K3 = P4 % 18446744073709551616 := ⟨_, rfl⟩
                  obtain ⟨K4, hK4⟩ : ∃ K4, K4 = (t * 4294967296 + un0) % Y := ⟨_, rfl⟩
                  obtain ⟨K5, hK5⟩ : ∃ K5, K5 = K4 / 2 ^ s := ⟨_, rfl⟩
                  rw [← hK4] at hd hmt2
                  have k1 : IntKind.u64.wrap ((t : Int) * 4294967296) = (K1 : Int) := by rw [IntKind.wrap_u64]; omega
                  have k2 : IntKind.u64.wrap ((K1 : Int) + (un0 : Int)) = (K2 : Int) := by rw [IntKind.wrap_u64]; omega
                  have k3 : IntKind.u64.wrap ((qg : Int) * (Y : Int)) = (K3 : Int) := by
                    rw [show (qg : Int) * (Y : Int) = (P4 : Int) by rw [hP4]; simp, IntKind.wrap_u64]; omega
                  have k4 : IntKind.u64.wrap ((K2 : Int) - (K3 : Int)) = (K4 : Int) := by
                    rw [IntKind.wrap_u64]
                    rw [← hP4] at hd
                    omega
                  have k5 : (K4 : Int) / 2 ^ s = (K5 : Int) := by rw [hK5]; simp
                  have htwo := Dv.two (B := 4294967296) (N' := (hi * 18446744073709551616 + lo) * 2 ^ s) (un := un) (un1 := un1) (un0 := un0) (y := Y) (by omega) (by rw [HN.out]; omega)
                  rw [HT.out, HR.out.1] at htwo
                  have hres : ((hi * 18446744073709551616 + lo) / y : Nat) = qf * 4294967296 + qg := by
                    rw [htwo.1, HFIN.out, HFIN2.out, show yn1 * 4294967296 + yn0 = Y by omega]
                  have hres2 : ((hi * 18446744073709551616 + lo) % y : Nat) = K5 := by
                    rw [← HR.out.2, htwo.2, ← hK4, hK5]
                  obtain ⟨QF, hQF⟩ : ∃ QF, QF = qf * 4294967296 := ⟨_, rfl⟩
                  obtain ⟨RS, hRS⟩ : ∃ RS, RS = QF + qg := ⟨_, rfl⟩
                  have m1 : IntKind.u64.wrap ((qf : Int) * 4294967296) = (QF : Int) := by rw [IntKind.wrap_u64]; omega
                  have m2 : IntKind.u64.wrap ((QF : Int) + (qg : Int)) = (RS : Int) := by rw [IntKind.wrap_u64]; omega
                  rw [← hQF, ← hRS] at hres
                  have HRES := Lib.hid hres
                  have HRES2 := Lib.hid hres2
                  clear hd htwo hres hres2 hK1 hK2 hP4 hK3 hK4 hK5 hQF hRS hqg32 hqf32 hmt2
                  go_wp2
                  go_ret2
                  exact ⟨ret_ii (congrArg Int.ofNat HRES.out.symm) (congrArg Int.ofNat HRES2.out.symm), Below.refl _ _⟩
                · have hr3i : ¬ 4294967296 ≤ (r2 : Int) + yn1 := by omega
                  have HJ2 := Lib.hid HD
                  clear HD HJ
                  go_wp2
                  go_roundg (q2 - 1)
                  case measure => omega
                  case rel => exact ⟨q2 - 1, r2 + yn1, rfl, by go_num, by go_num, HJ2.out, by omega, by omega, rfl⟩
              · have HFIN2 := Lib.hid (Dv.Inv.stop HJ.out hyn0 hU2 (.inr ⟨by omega, by omega⟩))
                generalize q2 * yn0 = pz2 at *
                obtain ⟨S2, hS2⟩ : ∃ S2, S2 = 4294967296 * r2 + un0 := ⟨_, rfl⟩
                have hS2i : 4294967296 * (r2 : Int) + un0 = (S2 : Int) := by omega
                have hB2i : ¬ (S2 : Int) < pz2 := by omega
                have hS2b : (S2 : Int) ≤ 18446744073709551615 := by omega
                clear hS2
                obtain ⟨qg, hqg⟩ : ∃ qg, qg = q2 := ⟨_, rfl⟩
                rw [← hqg] at HFIN2
                subst hqg
                clear hB2
                have hA2j : ¬ 4294967296 ≤ (qg : Int) := by omega
                clear hA2i hA2
                have hqg32 : qg < 4294967296 := by rw [HFIN2.out]; exact Dv.digit_lt hU2 hun0
                have hd := Nat.div_add_mod (t * 4294967296 + un0) (yn1 * 4294967296 + yn0)
                have hmt2 := Nat.mod_lt (t * 4294967296 + un0) (show yn1 * 4294967296 + yn0 > 0 by omega)
                rw [← HFIN2.out, show yn1 * 4294967296 + yn0 = Y by omega, Nat.mul_comm] at hd
                rw [show yn1 * 4294967296 + yn0 = Y by omega] at hmt2
                obtain ⟨K1, hK1⟩ : ∃ K1, K1 = (t * 4294967296) % 18446744073709551616 := ⟨_, rfl⟩
                obtain ⟨K2, hK2⟩ : ∃ K2, K2 = (t * 4294967296 + un0) % 18446744073709551616 := ⟨_, rfl⟩
                obtain ⟨P4, hP4⟩ : ∃ P4, P4 = qg * Y := ⟨_, rfl⟩
                obtain ⟨K3, hK3⟩ : ∃ K3, K3 = P4 % 18446744073709551616 := ⟨_, rfl⟩
                obtain ⟨K4, hK4⟩ : ∃ K4, K4 = (t * 4294967296 + un0) % Y := ⟨_, rfl⟩
                obtain ⟨K5, hK5⟩ : ∃ K5, K5 = K4 / 2 ^ s := ⟨_, rfl⟩
                rw [← hK4] at hd hmt2
                have k1 : IntKind.u64.wrap ((t : Int) * 4294967296) = (K1 : Int) := by rw [IntKind.wrap_u64]; omega
                have k2 : IntKind.u64.wrap ((K1 : Int) + (un0 : Int)) = (K2 : Int) := by rw [IntKind.wrap_u64]; omega
                have k3 : IntKind.u64.wrap ((qg : Int) * (Y : Int)) = (K3 : Int) := by
                  rw [show (qg : Int) * (Y : Int) = (P4 : Int) by rw [hP4]; simp, IntKind.wrap_u64]; omega
                have k4 : IntKind.u64.wrap ((K2 : Int) - (K3 : Int)) = (K4 : Int) := by
                  rw [IntKind.wrap_u64]
                  rw [← hP4] at hd
                  omega
                have k5 : (K4 : Int) / 2 ^ s = (K5 : Int) := by rw [hK5]; simp
                have htwo := Dv.two (B := 4294967296) (N' := (hi * 18446744073709551616 + lo) * 2 ^ s) (un := un) (un1 := un1) (un0 := un0) (y := Y) (by omega) (by rw [HN.out]; omega)
                rw [HT.out, HR.out.1] at htwo
                have hres : ((hi * 18446744073709551616 + lo) / y : Nat) = qf * 4294967296 + qg := by
                  rw [htwo.1, HFIN.out, HFIN2.out, show yn1 * 4294967296 + yn0 = Y by omega]
                have hres2 : ((hi * 18446744073709551616 + lo) % y : Nat) = K5 := by
                  rw [← HR.out.2, htwo.2, ← hK4, hK5]
                obtain ⟨QF, hQF⟩ : ∃ QF, QF = qf * 4294967296 := ⟨_, rfl⟩
                obtain ⟨RS, hRS⟩ : ∃ RS, RS = QF + qg := ⟨_, rfl⟩
                have m1 : IntKind.u64.wrap ((qf : Int) * 4294967296) = (QF : Int) := by rw [IntKind.wrap_u64]; omega
                have m2 : IntKind.u64.wrap ((QF : Int) + (qg : Int)) = (RS : Int) := by rw [IntKind.wrap_u64]; omega
                rw [← hQF, ← hRS] at hres
                have HRES := Lib.hid hres
                have HRES2 := Lib.hid hres2
                clear hd htwo hres hres2 hK1 hK2 hP4 hK3 hK4 hK5 hQF hRS hqg32 hqf32 hmt2
                go_wp2
                go_ret2
                exact ⟨ret_ii (congrArg Int.ofNat HRES.out.symm) (congrArg Int.ofNat HRES2.out.symm), Below.refl _ _⟩
        · have hr2i : ¬ 4294967296 ≤ (r1 : Int) + yn1 := by omega
          have HJ2 := Lib.hid HD
          clear HD HJ
          go_wp2
          go_roundg (q1 - 1)
          case measure => omega
          case rel => exact ⟨q1 - 1, r1 + yn1, rfl, by go_num, by go_num, HJ2.out, by omega, by omega, rfl⟩
      · have HFIN := Lib.hid (Dv.Inv.stop HJ.out hyn0 hU (.inr ⟨by omega, by omega⟩))
        generalize q1 * yn0 = pz at *
        obtain ⟨S1, hS1⟩ : ∃ S1, S1 = 4294967296 * r1 + un1 := ⟨_, rfl⟩
        have hS1i : 4294967296 * (r1 : Int) + un1 = (S1 : Int) := by omega
        have hBi : ¬ (S1 : Int) < pz := by omega
        have hS1b : (S1 : Int) ≤ 18446744073709551615 := by omega
        clear hS1
        obtain ⟨qf, hqf⟩ : ∃ qf, qf = q1 := ⟨_, rfl⟩
        subst hqf
        have hqf32 : qf < 4294967296 := by rw [HFIN.out]; exact Dv.digit_lt hU hun1
        have hd := Nat.div_add_mod (un * 4294967296 + un1) (yn1 * 4294967296 + yn0)
        have hmt := Nat.mod_lt (un * 4294967296 + un1) (show yn1 * 4294967296 + yn0 > 0 by omega)
        rw [← HFIN.out, show yn1 * 4294967296 + yn0 = Y by omega, Nat.mul_comm] at hd
        rw [show yn1 * 4294967296 + yn0 = Y by omega] at hmt
        obtain ⟨A1, hA1⟩ : ∃ A1, A1 = (un * 4294967296) % 18446744073709551616 := ⟨_, rfl⟩
        obtain ⟨A2, hA2⟩ : ∃ A2, A2 = (un * 4294967296 + un1) % 18446744073709551616 := ⟨_, rfl⟩
        obtain ⟨P3, hP3⟩ : ∃ P3, P3 = qf * Y := ⟨_, rfl⟩
        obtain ⟨A3, hA3⟩ : ∃ A3, A3 = P3 % 18446744073709551616 := ⟨_, rfl⟩
        obtain ⟨t, ht⟩ : ∃ t, t = (un * 4294967296 + un1) % Y := ⟨_, rfl⟩
        rw [← ht] at hd hmt
        have e1 : IntKind.u64.wrap ((un : Int) * 4294967296) = (A1 : Int) := by rw [IntKind.wrap_u64]; omega
        have e2 : IntKind.u64.wrap ((A1 : Int) + (un1 : Int)) = (A2 : Int) := by rw [IntKind.wrap_u64]; omega
        have e3 : IntKind.u64.wrap ((qf : Int) * (Y : Int)) = (A3 : Int) := by
          rw [show (qf : Int) * (Y : Int) = (P3 : Int) by rw [hP3]; simp, IntKind.wrap_u64]; omega
        have e4 : IntKind.u64.wrap ((A2 : Int) - (A3 : Int)) = (t : Int) := by
          rw [IntKind.wrap_u64]
          rw [← hP3] at hd
          omega
        have HT := Lib.hid ht.symm
        clear hd hA1 hA2 hP3 hA3 ht
        have HI2 := Lib.hid (Dv.Inv.start (un := t) (yn1 := yn1) (yn0 := yn0) (u0 := un0) (by omega) hun0)
        have hq33' : t / yn1 ≤ 8589934592 := by
          rw [Nat.div_le_iff_le_mul_add_pred (by omega)]
          have := Nat.mul_le_mul_left 8589934592 hyn1
          rw [Nat.mul_comm] at this
          omega
        have hr0' : t % yn1 < yn1 := Nat.mod_lt _ (by omega)
        have tq : IntKind.u64.wrap ((t : Int).tdiv (yn1 : Int)) = ((t / yn1 : Nat) : Int) := by
          rw [show (t : Int).tdiv (yn1 : Int) = ((t / yn1 : Nat) : Int) from rfl]
          exact wrap_nat (by omega)
        have tq' : (t : Int) / (yn1 : Int) = ((t / yn1 : Nat) : Int) := rfl
        have hti := HI2.out.sum
        generalize t / yn1 = tq1 at *
        generalize t % yn1 = tr1 at *
        have tp : IntKind.u64.wrap ((tq1 : Int) * (yn1 : Int)) = ((tq1 * yn1 : Nat) : Int) := by
          rw [show ((tq1 : Int) * (yn1 : Int)) = ((tq1 * yn1 : Nat) : Int) by simp]; exact wrap_nat (by omega)
        have tp2 : (t : Int) - ((tq1 * yn1 : Nat) : Int) = (tr1 : Int) := by omega
        generalize tq1 * yn1 = tqy at *
        have hU2 : t < yn1 * 4294967296 + yn0 := by omega
        have HQF32 := Lib.hid hqf32
        clear hB
        have hAj : ¬ 4294967296 ≤ (qf : Int) := by omega
        clear hAi hA hqf32
        go_wp2
        have hqf32 := HQF32.out
        go_loopg [18, 16] tq1 (fun gh qv rv wr => ∃ q1 r1 : Nat, q1 = gh ∧ qv = .int .u64 q1 ∧ rv = .int .u64 r1 ∧ Dv.Inv t yn1 yn0 un0 q1 r1 ∧ r1 < 4294967296 ∧ q1 ≤ 8589934592 ∧ w = wr)
        case atStart => exact ⟨tq1, tr1, rfl, by go_num, by go_num, HI2.out, by omega, hq33', rfl⟩
        case round =>
          obtain ⟨q2, r2, rfl, rfl, rfl, hJ, hr2, hq2b, rfl⟩ := hrel
          have HJ := Lib.hid hJ
          clear hJ
          by_cases hA2 : 4294967296 ≤ q2
          · have hA2i : 4294967296 ≤ (q2 : Int) := by omega
            obtain ⟨hp2, HD⟩ := Dv.Inv.down HJ.out hU2 hun0 (.inl hA2)
            have hq1 : ((q2 : Int) - 1) = ((q2 - 1 : Nat) : Int) := by omega
            by_cases hr3 : 4294967296 ≤ r2 + yn1
            · have HFIN2 := Lib.hid (Dv.Inv.stop HD hyn0 hU2 (.inl hr3))
              have hr3i : 4294967296 ≤ (r2 : Int) + yn1 := by omega
              clear HD HJ
              generalize q2 - 1 = qg at *
              have hqg32 : qg < 4294967296 := by rw [HFIN2.out]; exact Dv.digit_lt hU2 hun0
              have hd := Nat.div_add_mod (t * 4294967296 + un0) (yn1 * 4294967296 + yn0)
              have hmt2 := Nat.mod_lt (t * 4294967296 + un0) (show yn1 * 4294967296 + yn0 > 0 by omega)
              rw [← HFIN2.out, show yn1 * 4294967296 + yn0 = Y by omega, Nat.mul_comm] at hd
              rw [show yn1 * 4294967296 + yn0 = Y by omega] at hmt2
              obtain ⟨K1, hK1⟩ : ∃ K1, K1 = (t * 4294967296) % 18446744073709551616 := ⟨_, rfl⟩
              obtain ⟨K2, hK2⟩ : ∃ K2, K2 = (t * 4294967296 + un0) % 18446744073709551616 := ⟨_, rfl⟩
              obtain ⟨P4, hP4⟩ : ∃ P4, P4 = qg * Y := ⟨_, rfl⟩
              obtain ⟨K3, hK3⟩ : ∃ K3, K3 = P4 % 18446744073709551616 := ⟨_, rfl⟩
              obtain ⟨K4, hK4⟩ : ∃ K4, K4 = (t * 4294967296 + un0) % Y := ⟨_, rfl⟩
              obtain ⟨K5, hK5⟩ : ∃ K5, K5 = K4 / 2 ^ s := ⟨_, rfl⟩
              rw [← hK4] at hd hmt2
              have k1 : IntKind.u64.wrap ((t : Int) * 4294967296) = (K1 : Int) := by rw [IntKind.wrap_u64]; omega
              have k2 : IntKind.u64.wrap ((K1 : Int) + (un0 : Int)) = (K2 : Int) := by rw [IntKind.wrap_u64]; omega
              have k3 : IntKind.u64.wrap ((qg : Int) * (Y : Int)) = (K3 : Int) := by
                rw [show (qg : Int) * (Y : Int) = (P4 : Int) by rw [hP4]; simp, IntKind.wrap_u64]; omega
              have k4 : IntKind.u64.wrap ((K2 : Int) - (K3 : Int)) = (K4 : Int) := by
                rw [IntKind.wrap_u64]
                rw [← hP4] at hd
                omega
              have k5 : (K4 : Int) / 2 ^ s = (K5 : Int) := by rw [hK5]; simp
              have htwo := Dv.two (B := 4294967296) (N' := (hi * 18446744073709551616 + lo) * 2 ^ s) (un := un) (un1 := un1) (un0 := un0) (y := Y) (by omega) (by rw [HN.out]; omega)
              rw [HT.out, HR.out.1] at htwo
              have hres : ((hi * 18446744073709551616 + lo) / y : Nat) = qf * 4294967296 + qg := by
                rw [htwo.1, HFIN.out, HFIN2.out, show yn1 * 4294967296 + yn0 = Y by omega]
              have hres2 : ((hi * 18446744073709551616 + lo) % y : Nat) = K5 := by
                rw [← HR.out.2, htwo.2, ← hK4, hK5]
              obtain ⟨QF, hQF⟩ : ∃ QF, QF = qf * 4294967296 := ⟨_, rfl⟩
              obtain ⟨RS, hRS⟩ : ∃ RS, RS = QF + qg := ⟨_, rfl⟩
              have m1 : IntKind.u64.wrap ((qf : Int) * 4294967296) = (QF : Int) := by rw [IntKind.wrap_u64]; omega
              have m2 : IntKind.u64.wrap ((QF : Int) + (qg : Int)) = (RS : Int) := by rw [IntKind.wrap_u64]; omega
              rw [← hQF, ← hRS] at hres
              have HRES := Lib.hid hres
              have HRES2 := Lib.hid hres2
              clear hd htwo hres hres2 hK1 hK2 hP4 hK3 hK4 hK5 hQF hRS hqg32 hqf32 hmt2
              go_wp2
              go_ret2
              exact ⟨ret_ii (congrArg Int.ofNat HRES.out.symm) (congrArg Int.ofNat HRES2.out.symm), Below.refl _ _⟩
            · have hr3i : ¬ 4294967296 ≤ (r2 : Int) + yn1 := by omega
              have HJ2 := Lib.hid HD
              clear HD HJ
              go_wp2
              go_roundg (q2 - 1)
              case measure => omega
              case rel => exact ⟨q2 - 1, r2 + yn1, rfl, by go_num, by go_num, HJ2.out, by omega, by omega, rfl⟩
          · have hA2i : (q2 : Int) < 4294967296 := by omega
            have hpr2 : q2 * yn0 ≤ 18446744073709551615 := by
              have := Nat.mul_le_mul (show q2 ≤ 4294967295 by omega) (show yn0 ≤ 4294967295 by omega)
              omega
            have hpe2 : ((q2 : Int) * (yn0 : Int)) = ((q2 * yn0 : Nat) : Int) := by simp
            by_cases hB2 : 4294967296 * r2 + un0 < q2 * yn0
            · obtain ⟨hp2, HD⟩ := Dv.Inv.down HJ.out hU2 hun0 (.inr hB2)
              generalize q2 * yn0 = pz2 at *
              have hB2i : 4294967296 * (r2 : Int) + un0 < pz2 := by omega
              have hq1 : ((q2 : Int) - 1) = ((q2 - 1 : Nat) : Int) := by omega
              by_cases hr3 : 4294967296 ≤ r2 + yn1
              · have HFIN2 := Lib.hid (Dv.Inv.stop HD hyn0 hU2 (.inl hr3))
                have hr3i : 4294967296 ≤ (r2 : Int) + yn1 := by omega
                clear HD HJ
                generalize q2 - 1 = qg at *
                have hqg32 : qg < 4294967296 := by rw [HFIN2.out]; exact Dv.digit_lt hU2 hun0
                have hd := Nat.div_add_mod (t * 4294967296 + un0) (yn1 * 4294967296 + yn0)
                have hmt2 := Nat.mod_lt (t * 4294967296 + un0) (show yn1 * 4294967296 + yn0 > 0 by omega)
                rw [← HFIN2.out, show yn1 * 4294967296 + yn0 = Y by omega, Nat.mul_comm] at hd
                rw [show yn1 * 4294967296 + yn0 = Y by omega] at hmt2
                obtain ⟨K1, hK1⟩ : ∃ K1, K1 = (t * 4294967296) % 18446744073709551616 := ⟨_, rfl⟩
                obtain ⟨K2, hK2⟩ : ∃ K2, K2 = (t * 4294967296 + un0) % 18446744073709551616 := ⟨_, rfl⟩
                obtain ⟨P4, hP4⟩ : ∃ P4, P4 = qg * Y := ⟨_, rfl⟩
                obtain ⟨K3, hK3⟩ : ∃ K3, K3 = P4 % 18446744073709551616 := ⟨_, rfl⟩
                obtain ⟨K4, hK4⟩ : ∃ K4, K4 = (t * 4294967296 + un0) % Y := ⟨_, rfl⟩
                obtain ⟨K5, hK5⟩ : ∃ K5, K5 = K4 / 2 ^ s := ⟨_, rfl⟩
                rw [← hK4] at hd hmt2
                have k1 : IntKind.u64.wrap ((t : Int) * 4294967296) = (K1 : Int) := by rw [IntKind.wrap_u64]; omega
                have k2 : IntKind.u64.wrap ((K1 : Int) + (un0 : Int)) = (K2 : Int) := by rw [IntKind.wrap_u64]; omega
                have k3 : IntKind.u64.wrap ((qg : Int) * (Y : Int)) = (K3 : Int) := by
                  rw [show (qg : Int) * (Y : Int) = (P4 : Int) by rw [hP4]; simp, IntKind.wrap_u64]; omega
                have k4 : IntKind.u64.wrap ((K2 : Int) - (K3 : Int)) = (K4 : Int) := by
                  rw [IntKind.wrap_u64]
                  rw [← hP4] at hd
                  omega
                have k5 : (K4 : Int) / 2 ^ s = (K5 : Int) := by rw [hK5]; simp
                have htwo := Dv.two (B := 4294967296) (N' := (hi * 18446744073709551616 + lo) * 2 ^ s) (un := un) (un1 := un1) (un0 := un0) (y := Y) (by omega) (by rw [HN.out]; omega)
                rw [HT.out, HR.out.1] at htwo
                have hres : ((hi * 18446744073709551616 + lo) / y : Nat) = qf * 4294967296 + qg := by
                  rw [htwo.1, HFIN.out, HFIN2.out, show yn1 * 4294967296 + yn0 = Y by omega]
                have hres2 : ((hi * 18446744073709551616 + lo) % y : Nat) = K5 := by
                  rw [← HR.out.2, htwo.2, ← hK4, hK5]
                obtain ⟨QF, hQF⟩ : ∃ QF, QF = qf * 4294967296 := ⟨_, rfl⟩
                obtain ⟨RS, hRS⟩ : ∃ RS, RS = QF + qg := ⟨_, rfl⟩
                have m1 : IntKind.u64.wrap ((qf : Int) * 4294967296) = (QF : Int) := by rw [IntKind.wrap_u64]; omega
                have m2 : IntKind.u64.wrap ((QF : Int) + (qg : Int)) = (RS : Int) := by rw [IntKind.wrap_u64]; omega
                rw [← hQF, ← hRS] at hres
                have HRES := Lib.hid hres
                have HRES2 := Lib.hid hres2
                clear hd htwo hres hres2 hK1 hK2 hP4 hK3 hK4 hK5 hQF hRS hqg32 hqf32 hmt2
                go_wp2
                go_ret2
                exact ⟨ret_ii (congrArg Int.ofNat HRES.out.symm) (congrArg Int.ofNat HRES2.out.symm), Below.refl _ _⟩
              · have hr3i : ¬ 4294967296 ≤ (r2 : Int) + yn1 := by omega
                have HJ2 := Lib.hid HD
                clear HD HJ
                go_wp2
                go_roundg (q2 - 1)
                case measure => omega
                case rel => exact ⟨q2 - 1, r2 + yn1, rfl, by go_num, by go_num, HJ2.out, by omega, by omega, rfl⟩
            · have HFIN2 := Lib.hid (Dv.Inv.stop HJ.out hyn0 hU2 (.inr ⟨by omega, by omega⟩))
              generalize q2 * yn0 = pz2 at *
              obtain ⟨S2, hS2⟩ : ∃ S2, S2 = 4294967296 * r2 + un0 := ⟨_, rfl⟩
              have hS2i : 4294967296 * (r2 : Int) + un0 = (S2 : Int) := by omega
              have hB2i : ¬ (S2 : Int) < pz2 := by omega
              have hS2b : (S2 : Int) ≤ 18446744073709551615 := by omega
              clear hS2
              obtain ⟨qg, hqg⟩ : ∃ qg, qg = q2 := ⟨_, rfl⟩
              rw [← hqg] at HFIN2
              subst hqg
              clear hB2
              have hA2j : ¬ 4294967296 ≤ (qg : Int) := by omega
              clear hA2i hA2
              have hqg32 : qg < 4294967296 := by rw [HFIN2.out]; exact Dv.digit_lt hU2 hun0
              have hd := Nat.div_add_mod (t * 4294967296 + un0) (yn1 * 4294967296 + yn0)
              have hmt2 := Nat.mod_lt (t * 4294967296 + un0) (show yn1 * 4294967296 + yn0 > 0 by omega)
              rw [← HFIN2.out, show yn1 * 4294967296 + yn0 = Y by omega, Nat.mul_comm] at hd
              rw [show yn1 * 4294967296 + yn0 = Y by omega] at hmt2
              obtain ⟨K1, hK1⟩ : ∃ K1, K1 = (t * 4294967296) % 18446744073709551616 := ⟨_, rfl⟩
              obtain ⟨K2, hK2⟩ : ∃ K2, K2 = (t * 4294967296 + un0) % 18446744073709551616 := ⟨_, rfl⟩
              obtain ⟨P4, hP4⟩ : ∃ P4, P4 = qg * Y := ⟨_, rfl⟩
              obtain ⟨K3, hK3⟩ : ∃ K3, K3 = P4 % 18446744073709551616 := ⟨_, rfl⟩
              obtain ⟨K4, hK4⟩ : ∃ K4, K4 = (t * 4294967296 + un0) % Y := ⟨_, rfl⟩
              obtain ⟨K5, hK5⟩ : ∃ K5, K5 = K4 / 2 ^ s := ⟨_, rfl⟩
              rw [← hK4] at hd hmt2
              have k1 : IntKind.u64.wrap ((t : Int) * 4294967296) = (K1 : Int) := by rw [IntKind.wrap_u64]; omega
              have k2 : IntKind.u64.wrap ((K1 : Int) + (un0 : Int)) = (K2 : Int) := by rw [IntKind.wrap_u64]; omega
              have k3 : IntKind.u64.wrap ((qg : Int) * (Y : Int)) = (K3 : Int) := by
                rw [show (qg : Int) * (Y : Int) = (P4 : Int) by rw [hP4]; simp, IntKind.wrap_u64]; omega
              have k4 : IntKind.u64.wrap ((K2 : Int) - (K3 : Int)) = (K4 : Int) := by
                rw [IntKind.wrap_u64]
                rw [← hP4] at hd
                omega
              have k5 : (K4 : Int) / 2 ^ s = (K5 : Int) := by rw [hK5]; simp
              have htwo := Dv.two (B := 4294967296) (N' := (hi * 18446744073709551616 + lo) * 2 ^ s) (un := un) (un1 := un1) (un0 := un0) (y := Y) (by omega) (by rw [HN.out]; omega)
              rw [HT.out, HR.out.1] at htwo
              have hres : ((hi * 18446744073709551616 + lo) / y : Nat) = qf * 4294967296 + qg := by
                rw [htwo.1, HFIN.out, HFIN2.out, show yn1 * 4294967296 + yn0 = Y by omega]
              have hres2 : ((hi * 18446744073709551616 + lo) % y : Nat) = K5 := by
                rw [← HR.out.2, htwo.2, ← hK4, hK5]
              obtain ⟨QF, hQF⟩ : ∃ QF, QF = qf * 4294967296 := ⟨_, rfl⟩
              obtain ⟨RS, hRS⟩ : ∃ RS, RS = QF + qg := ⟨_, rfl⟩
              have m1 : IntKind.u64.wrap ((qf : Int) * 4294967296) = (QF : Int) := by rw [IntKind.wrap_u64]; omega
              have m2 : IntKind.u64.wrap ((QF : Int) + (qg : Int)) = (RS : Int) := by rw [IntKind.wrap_u64]; omega
              rw [← hQF, ← hRS] at hres
              have HRES := Lib.hid hres
              have HRES2 := Lib.hid hres2
              clear hd htwo hres hres2 hK1 hK2 hP4 hK3 hK4 hK5 hQF hRS hqg32 hqf32 hmt2
              go_wp2
              go_ret2
              exact ⟨ret_ii (congrArg Int.ofNat HRES.out.symm) (congrArg Int.ofNat HRES2.out.symm), Below.refl _ _⟩
end Go.Proofs.Yticdcdahehodkaa
/-! math/bits' Div64: quotient and rest of two words by one. Condition: the upper word is below the divisor. -/
namespace Go.Proofs.Yticdcdahehodkaa
set_option linter.unusedVariables false
set_option linter.unusedSimpArgs false
open Go.RowKit

theorem div64_any (hi lo y : Nat) (w : World) (hy : hi < y) (hy2 : y < 18446744073709551616) (hl : lo < 18446744073709551616) :
    Calls Try.prog 34 #[.int .u64 hi, .int .u64 lo, .int .u64 y] w fun e w' => e = .returned (.tuple #[.int .u64 (((hi * 18446744073709551616 + lo) / y : Nat) : Int), .int .u64 (((hi * 18446744073709551616 + lo) % y : Nat) : Int)]) ∧ Below w.heap.size w w' := by
  by_cases h : hi = 0
  · subst h
    rw [show 0 * 18446744073709551616 + lo = lo by omega]
    exact div64_low lo y w hl (by omega) hy2
  · have hb := Lib.bitLen_le y 64 (by omega) (by omega)
    exact div64_high hi lo y (64 - Lib.bitLen y) w (by omega) hy hy2 hl (by omega)

end Go.Proofs.Yticdcdahehodkaa
