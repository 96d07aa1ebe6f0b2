/- fixnum's Sum of a slice of integers. Condition: the numbers fit their kinds; not too many. -/
import Derived.Test.YtanfhjfpdgjphaaNumO
import Derived.Test.YtanfhjfpdgjphaaSums01
import Derived.Laws.Externs
namespace Go.Proofs.Ytanfhjfpdgjphaa
set_option linter.unusedVariables false
set_option linter.unusedSimpArgs false
open Go.RowKit

/-- integers of a slice -/
def Ints (w : World) (a : Option Addr) (n : Nat) (Z : Nat → Int) : Prop := ∀ i, i < n → ∃ g off A t fr, a = some ⟨g, off, none⟩ ∧ w.heap[g]? = some (.cells A t fr) ∧ A[off + i]? = some (.int .i64 (Z i))
theorem Ints.kept {w w1 : World} {a : Option Addr} {n : Nat} {Z : Nat → Int} (h : Ints w a n Z) (hb : Below w.heap.size w w1) : Ints w1 a n Z := fun i hi => by
  obtain ⟨g, off, A, t, fr, h1, h2, h3⟩ := h i hi
  exact ⟨g, off, A, t, fr, h1, Ytanfhjfpdgjphaa.kept hb h2, h3⟩
def sumZ (Z : Nat → Int) : Nat → Int
  | 0 => 0
  | k + 1 => sumZ Z k + Z k
theorem run_add64' (x y : Int) (hx : 0 ≤ x) (hy : 0 ≤ y) (w : World) :
    (callFunc 40 #[.int .u64 x, .int .u64 y, .int .u64 0]).run Try.prog w =
      .ok (.value (.tuple #[.int .u64 ((x + y) % 18446744073709551616), .int .u64 ((x + y) / 18446744073709551616)])) w := by
  rw [run_callFunc_extern Try.func40 (by kernel_rfl) (by kernel_rfl) (by kernel_rfl) (e := add64Entry) (by kernel_rfl), run_add64 x y 0 hx hy (by omega) (by omega)]
  simp

set_option maxRecDepth 100000 in
set_option maxHeartbeats 1000000 in
theorem fsum_any (a : Option Addr) (n cap : Nat) (Z : Nat → Int) (w : World) (hZ : ∀ i, F64 (Z i)) (hA : Ints w a n Z) (hn : n ≤ 2000) :
    Calls Try.prog 26 #[.slice a n cap] w fun e w' => e = .returned (.tuple #[.int .i64 (fitN (sumZ Z n)), .int .i64 (fitE (sumZ Z n))]) ∧ w = w' := by
  have HA := Lib.hid hA
  have HZ := Lib.hid hZ
  clear hA hZ
  go_enter Try.func26, Try.ntmps26
  go_wp2
  go_loopg [4, 5, 11] n (fun gh lo hi i wr => ∃ (k : Nat) (l h : Int), k ≤ n ∧ gh = n - k ∧ i = .int .i64 k ∧ lo = .int .u64 l ∧ hi = .int .i64 h ∧ sumZ Z k = h * 18446744073709551616 + l ∧ (0 ≤ l ∧ l < 18446744073709551616) ∧ (-2000 ≤ h ∧ h ≤ 2000) ∧ (-(k : Int) ≤ h ∧ h ≤ k) ∧ w = wr)
  case atStart => exact ⟨0, 0, 0, by omega, by omega, rfl, rfl, rfl, rfl, by omega, by omega, by omega, rfl⟩
  case round =>
    obtain ⟨k, l, h, hk, rfl, rfl, rfl, rfl, hS, hl, hh, hhk, rfl⟩ := hrel
    have HS := Lib.hid hS
    clear hS
    by_cases hlt : k < n
    · obtain ⟨g, off, A, t, fr, rfl, hgA, hz⟩ := HA.out k hlt
      have hz64 := HZ.out k
      unfold F64 at hz64
      have hcA := cellF hgA
      have HT := Lib.hid (show sumZ Z (k + 1) = sumZ Z k + Z k from rfl)
      generalize Z k = z at *
      by_cases h0 : z < 0
      · have hu : IntKind.u64.wrap z = z + 18446744073709551616 := by rw [IntKind.wrap_u64]; omega
        have hadd := run_add64' l (z + 18446744073709551616) (by omega) (by omega)
        go_wp2
        go_roundg (n - (k + 1))
        case measure => omega
        case rel => exact ⟨k + 1, _, _, by omega, rfl, by go_num, rfl, rfl, by rw [HT.out, HS.out]; omega, by omega, by omega, by omega, rfl⟩
      · have hu : IntKind.u64.wrap z = z := by rw [IntKind.wrap_u64]; omega
        have hadd := run_add64' l z (by omega) (by omega)
        go_wp2
        go_roundg (n - (k + 1))
        case measure => omega
        case rel => exact ⟨k + 1, _, _, by omega, rfl, by go_num, rfl, rfl, by rw [HT.out, HS.out]; omega, by omega, by omega, by omega, rfl⟩
    · obtain rfl : k = n := by omega
      by_cases hl3 : l < 9223372036854775808
      · have hw : IntKind.i64.wrap l = l := by rw [IntKind.wrap_i64]; omega
        by_cases h0 : h = 0
        · have HF := Lib.hid (show fitB (sumZ Z k) = true ∧ fitN (sumZ Z k) = l ∧ fitE (sumZ Z k) = 0 from by
            have e : sumZ Z k = l := by rw [HS.out, h0]; omega
            rw [e]; exact fit_yes (by omega))
          have hd : l / 9223372036854775808 = 0 := by omega
          subst h0
          go_wp2
          go_ret2
          exact ⟨by rw [HF.out.2.1, HF.out.2.2]; rfl, rfl⟩
        · have HF := Lib.hid (show fitB (sumZ Z k) = false ∧ fitN (sumZ Z k) = 0 ∧ fitE (sumZ Z k) = 6 from by
            rw [HS.out]; exact fit_no (by omega))
          have hd : l / 9223372036854775808 = 0 := by omega
          have h0' : (h == 0) = false := by simpa using h0
          go_wp2
          go_ret2
          exact ⟨by rw [HF.out.2.1, HF.out.2.2]; rfl, rfl⟩
      · have hw : IntKind.i64.wrap l = l - 18446744073709551616 := by rw [IntKind.wrap_i64]; omega
        have hd : (l - 18446744073709551616) / 9223372036854775808 = -1 := by omega
        by_cases h0 : h = -1
        · have HF := Lib.hid (show fitB (sumZ Z k) = true ∧ fitN (sumZ Z k) = l - 18446744073709551616 ∧ fitE (sumZ Z k) = 0 from by
            have e : sumZ Z k = l - 18446744073709551616 := by rw [HS.out, h0]; omega
            rw [e]; exact fit_yes (by omega))
          subst h0
          go_wp2
          go_ret2
          exact ⟨by rw [HF.out.2.1, HF.out.2.2]; rfl, rfl⟩
        · have HF := Lib.hid (show fitB (sumZ Z k) = false ∧ fitN (sumZ Z k) = 0 ∧ fitE (sumZ Z k) = 6 from by
            rw [HS.out]; exact fit_no (by omega))
          have h0' : (h == -1) = false := by simpa using h0
          go_wp2
          go_ret2
          exact ⟨by rw [HF.out.2.1, HF.out.2.2]; rfl, rfl⟩
end Go.Proofs.Ytanfhjfpdgjphaa
