/- Knuth's two-digit division, in plain numbers. No condition beyond each theorem's own. -/
namespace Go.Proofs.Ytanfhjfpdgjphaa.Dv
set_option linter.unusedVariables false
set_option linter.unusedSimpArgs false
/-- the quotient's digit that is sought -/
theorem too_big {un yn1 yn0 u0 q r : Nat} (h : q * yn1 + r = un) (hlt : 4294967296 * r + u0 < q * yn0) : un * 4294967296 + u0 < q * (yn1 * 4294967296 + yn0) := by
  have e : q * (yn1 * 4294967296 + yn0) = q * yn1 * 4294967296 + q * yn0 := by rw [Nat.mul_add, Nat.mul_assoc]
  rw [e, ← h]
  generalize q * yn1 = P at *
  generalize q * yn0 = Z at *
  omega
theorem fits {un yn1 yn0 u0 q r : Nat} (h : q * yn1 + r = un) (hle : q * yn0 ≤ 4294967296 * r + u0) : q * (yn1 * 4294967296 + yn0) ≤ un * 4294967296 + u0 := by
  have e : q * (yn1 * 4294967296 + yn0) = q * yn1 * 4294967296 + q * yn0 := by rw [Nat.mul_add, Nat.mul_assoc]
  rw [e, ← h]
  generalize q * yn1 = P at *
  generalize q * yn0 = Z at *
  omega
/-- the digit is below 2^32 -/
theorem digit_lt {un y u0 : Nat} (hun : un < y) (hu0 : u0 < 4294967296) : (un * 4294967296 + u0) / y < 4294967296 := by
  have hy : 0 < y := by omega
  rw [Nat.div_lt_iff_lt_mul hy]
  have : (un + 1) * 4294967296 ≤ y * 4294967296 := Nat.mul_le_mul_right _ hun
  rw [Nat.mul_comm 4294967296 y]
  omega
structure Inv (un yn1 yn0 u0 q r : Nat) : Prop where
  sum : q * yn1 + r = un
  ge : (un * 4294967296 + u0) / (yn1 * 4294967296 + yn0) ≤ q
theorem Inv.start {un yn1 yn0 u0 : Nat} (hy : 0 < yn1) (hu0 : u0 < 4294967296) : Inv un yn1 yn0 u0 (un / yn1) (un % yn1) := by
  refine ⟨by rw [Nat.mul_comm]; exact Nat.div_add_mod un yn1, ?_⟩
  have hy' : 0 < yn1 * 4294967296 + yn0 := by omega
  have h1 : un < (un / yn1 + 1) * yn1 := by have h := Nat.div_add_mod un yn1; have := Nat.mod_lt un hy; rw [Nat.add_mul, Nat.mul_comm]; omega
  refine Nat.le_of_lt_succ ?_
  show _ < un / yn1 + 1
  rw [Nat.div_lt_iff_lt_mul hy']
  have h2 : (un + 1) * 4294967296 ≤ (un / yn1 + 1) * yn1 * 4294967296 := Nat.mul_le_mul_right _ h1
  have e : (un / yn1 + 1) * (yn1 * 4294967296 + yn0) = (un / yn1 + 1) * yn1 * 4294967296 + (un / yn1 + 1) * yn0 := by rw [Nat.mul_add, Nat.mul_assoc]
  rw [e]
  generalize (un / yn1 + 1) * yn0 = Z
  omega
theorem Inv.down {un yn1 yn0 u0 q r : Nat} (h : Inv un yn1 yn0 u0 q r) (hun : un < yn1 * 4294967296 + yn0) (hu0 : u0 < 4294967296) (hc : 4294967296 ≤ q ∨ 4294967296 * r + u0 < q * yn0) :
    0 < q ∧ Inv un yn1 yn0 u0 (q - 1) (r + yn1) := by
  have hq : (un * 4294967296 + u0) / (yn1 * 4294967296 + yn0) < q := by
    rcases hc with hc | hc
    · exact Nat.lt_of_lt_of_le (digit_lt hun hu0) hc
    · rw [Nat.div_lt_iff_lt_mul (by omega)]
      exact too_big h.sum hc
  have hq0 : 0 < q := Nat.lt_of_le_of_lt (Nat.zero_le _) hq
  refine ⟨hq0, ?_, Nat.le_sub_one_of_lt hq⟩
  have : q = (q - 1) + 1 := by clear hq; omega
  have hs := h.sum
  rw [this, Nat.add_mul] at hs
  omega
theorem Inv.stop {un yn1 yn0 u0 q r : Nat} (h : Inv un yn1 yn0 u0 q r) (hyn0 : yn0 < 4294967296) (hun : un < yn1 * 4294967296 + yn0) (hc : 4294967296 ≤ r ∨ (q < 4294967296 ∧ q * yn0 ≤ 4294967296 * r + u0)) :
    q = (un * 4294967296 + u0) / (yn1 * 4294967296 + yn0) := by
  have hle : q * yn0 ≤ 4294967296 * r + u0 := by
    rcases hc with hc | ⟨_, hc⟩
    · have hs := h.sum
      have hq : q < 4294967296 := by
        rcases Nat.lt_or_ge q 4294967296 with h' | h'
        · exact h'
        · have := Nat.mul_le_mul_right yn1 h'
          rw [Nat.mul_comm 4294967296 yn1] at this
          omega
      have h1 : q * yn0 ≤ 4294967296 * 4294967296 := Nat.mul_le_mul (by omega) (by omega)
      omega
    · exact hc
  have h2 := fits h.sum hle
  have h3 : q ≤ (un * 4294967296 + u0) / (yn1 * 4294967296 + yn0) := by
    rw [Nat.le_div_iff_mul_le (by omega)]
    exact h2
  have := h.ge
  omega
/-- both digits together -/
theorem two {B N' un un1 un0 y : Nat} (hy : 0 < y) (hN : N' = (un * B + un1) * B + un0) :
    N' / y = (un * B + un1) / y * B + ((un * B + un1) % y * B + un0) / y ∧ N' % y = ((un * B + un1) % y * B + un0) % y := by
  generalize un * B + un1 = M at *
  have h1 := Nat.div_add_mod M y
  generalize M / y = q1 at *
  generalize M % y = r1 at *
  have e : N' = (r1 * B + un0) + y * (q1 * B) := by
    rw [hN, ← h1, Nat.add_mul, Nat.mul_assoc, Nat.add_comm (y * (q1 * B)), Nat.add_assoc, Nat.add_assoc, Nat.add_comm un0]
  rw [e, Nat.add_mul_div_left _ _ hy, Nat.add_mul_mod_self_left]
  exact ⟨Nat.add_comm _ _, rfl⟩
end Go.Proofs.Ytanfhjfpdgjphaa.Dv
