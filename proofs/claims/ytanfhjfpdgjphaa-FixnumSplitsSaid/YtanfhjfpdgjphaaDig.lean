/- Twelve digits of 16 bits as a number: sums, differences, comparisons digit by digit. Plain; no condition but that each digit is one. -/
import Derived.Test.YtanfhjfpdgjphaaSmall
import Derived.Test.YtanfhjfpdgjphaaRow
namespace Go.Proofs.Ytanfhjfpdgjphaa
set_option linter.unusedVariables false
set_option linter.unusedSimpArgs false
open Go.RowKit

structure IsD (D : Array Value) : Prop where
  size : D.size = 12
  c : ∀ i, i < 12 → D[i]? = some (.int .u64 (N D i)) ∧ 0 ≤ N D i ∧ N D i < 65536

/-- the weight of digit k -/
def P16 (k : Nat) : Int := (65536 ^ k : Nat)
theorem P16_s (k : Nat) : P16 (k + 1) = 65536 * P16 k := by
  unfold P16
  rw [Nat.pow_succ, Nat.mul_comm]
  simp
theorem P16_pos (k : Nat) : 0 < P16 k := by
  unfold P16
  have : 0 < 65536 ^ k := Nat.pow_pos (by omega)
  omega
/-- the first k digits' number -/
def lv (D : Array Value) : Nat → Int
  | 0 => 0
  | k + 1 => lv D k + N D k * P16 k
theorem lv_bd {D : Array Value} (h : IsD D) : ∀ k, k ≤ 12 → 0 ≤ lv D k ∧ lv D k < P16 k
  | 0, _ => ⟨Int.le_refl _, by unfold lv; exact P16_pos 0⟩
  | k + 1, hk => by
    obtain ⟨h1, h2⟩ := lv_bd h k (by omega)
    obtain ⟨_, h3, h4⟩ := h.c k (by omega)
    have hp := P16_pos k
    have h5 : 0 ≤ N D k * P16 k := Int.mul_nonneg h3 (by omega)
    have h6 : N D k * P16 k ≤ 65535 * P16 k := Int.mul_le_mul_of_nonneg_right (by omega) (by omega)
    rw [lv, P16_s]
    omega
theorem lv_congr {A B : Array Value} : ∀ k, (∀ i, i < k → N A i = N B i) → lv A k = lv B k
  | 0, _ => rfl
  | k + 1, h => by rw [lv, lv, lv_congr k (fun i hi => h i (by omega)), h k (by omega)]

/-! sums -/
def cd (A B : Array Value) : Nat → Int
  | 0 => 0
  | k + 1 => (cd A B k + N A k + N B k) / 65536
def rd (A B : Array Value) (k : Nat) : Int := (cd A B k + N A k + N B k) % 65536
theorem cd_bd {A B : Array Value} (hA : IsD A) (hB : IsD B) : ∀ k, k ≤ 12 → 0 ≤ cd A B k ∧ cd A B k ≤ 1
  | 0, _ => by simp [cd]
  | k + 1, hk => by
    have ih := cd_bd hA hB k (by omega)
    obtain ⟨_, a1, a2⟩ := hA.c k (by omega)
    obtain ⟨_, b1, b2⟩ := hB.c k (by omega)
    rw [cd]
    omega
/-- the sum's first k digits written over A's -/
def pl (A B : Array Value) : Nat → Array Value
  | 0 => A
  | k + 1 => (pl A B k).setIfInBounds k (.int .u64 (rd A B k))
theorem pl_size (A B : Array Value) : ∀ k, (pl A B k).size = A.size
  | 0 => rfl
  | k + 1 => by unfold pl; simpa using pl_size A B k
theorem pl_later (A B : Array Value) (i : Nat) : ∀ k, k ≤ i → (pl A B k)[i]? = A[i]?
  | 0, _ => rfl
  | k + 1, hk => by unfold pl; rw [Array.getElem?_setIfInBounds_ne (by omega)]; exact pl_later A B i k (by omega)
theorem pl_at {A : Array Value} (hA : A.size = 12) (B : Array Value) (i : Nat) : ∀ k, i < k → k ≤ 12 → (pl A B k)[i]? = some (.int .u64 (rd A B i))
  | 0, hi, _ => by omega
  | k + 1, hi, hk => by
    unfold pl
    by_cases e : i = k
    · subst e; exact Array.getElem?_setIfInBounds_self_of_lt (by rw [pl_size]; omega)
    · rw [Array.getElem?_setIfInBounds_ne (by omega)]; exact pl_at hA B i k (by omega) (by omega)
theorem pl_N {A : Array Value} (hA : A.size = 12) (B : Array Value) (i k : Nat) (hi : i < k) (hk : k ≤ 12) : N (pl A B k) i = rd A B i := N_of (pl_at hA B i k hi hk)
theorem pl_D {A B : Array Value} (hA : IsD A) : IsD (pl A B 12) where
  size := by rw [pl_size]; exact hA.size
  c := fun i hi => by
    rw [pl_N hA.size B i 12 hi (by omega)]
    refine ⟨pl_at hA.size B i 12 hi (by omega), ?_, ?_⟩
    · unfold rd; omega
    · unfold rd; omega
theorem pl_low {A B : Array Value} (hA : IsD A) : ∀ k, k ≤ 12 → lv (pl A B 12) k + cd A B k * P16 k = lv A k + lv B k
  | 0, _ => by simp [lv, cd]
  | k + 1, hk => by
    have ih := pl_low hA (B := B) k (by omega)
    rw [lv, lv, lv, pl_N hA.size B k 12 (by omega) (by omega), cd, P16_s]
    have e : cd A B k + N A k + N B k = rd A B k + 65536 * ((cd A B k + N A k + N B k) / 65536) := by unfold rd; omega
    have e2 : (cd A B k + N A k + N B k) * P16 k = rd A B k * P16 k + 65536 * (((cd A B k + N A k + N B k) / 65536) * P16 k) := by
      rw [← Int.mul_assoc, ← Int.add_mul, ← e]
    rw [Int.add_mul, Int.add_mul] at e2
    have e3 : (cd A B k + N A k + N B k) / 65536 * (65536 * P16 k) = 65536 * ((cd A B k + N A k + N B k) / 65536 * P16 k) := Int.mul_left_comm _ _ _
    rw [e3]
    omega
theorem pl_val {A B : Array Value} (hA : IsD A) (hB : IsD B) (h : lv A 12 + lv B 12 < P16 12) : lv (pl A B 12) 12 = lv A 12 + lv B 12 := by
  have h1 := pl_low hA (B := B) 12 (by omega)
  have h2 := (lv_bd (pl_D (B := B) hA) 12 (by omega)).1
  have h3 := cd_bd hA hB 12 (by omega)
  have h4 := P16_pos 12
  have h5 : cd A B 12 = 0 ∨ cd A B 12 = 1 := by omega
  rcases h5 with h5 | h5
  · rw [h5] at h1; omega
  · rw [h5, Int.one_mul] at h1; omega

/-! differences -/
def bw (A B : Array Value) : Nat → Int
  | 0 => 0
  | k + 1 => 1 - (65536 + N A k - N B k - bw A B k) / 65536
def qd (A B : Array Value) (k : Nat) : Int := (65536 + N A k - N B k - bw A B k) % 65536
theorem bw_bd {A B : Array Value} (hA : IsD A) (hB : IsD B) : ∀ k, k ≤ 12 → 0 ≤ bw A B k ∧ bw A B k ≤ 1
  | 0, _ => by simp [bw]
  | k + 1, hk => by
    have ih := bw_bd hA hB k (by omega)
    obtain ⟨_, a1, a2⟩ := hA.c k (by omega)
    obtain ⟨_, b1, b2⟩ := hB.c k (by omega)
    rw [bw]
    omega
def mi (A B : Array Value) : Nat → Array Value
  | 0 => A
  | k + 1 => (mi A B k).setIfInBounds k (.int .u64 (qd A B k))
theorem mi_size (A B : Array Value) : ∀ k, (mi A B k).size = A.size
  | 0 => rfl
  | k + 1 => by unfold mi; simpa using mi_size A B k
theorem mi_later (A B : Array Value) (i : Nat) : ∀ k, k ≤ i → (mi A B k)[i]? = A[i]?
  | 0, _ => rfl
  | k + 1, hk => by unfold mi; rw [Array.getElem?_setIfInBounds_ne (by omega)]; exact mi_later A B i k (by omega)
theorem mi_at {A : Array Value} (hA : A.size = 12) (B : Array Value) (i : Nat) : ∀ k, i < k → k ≤ 12 → (mi A B k)[i]? = some (.int .u64 (qd A B i))
  | 0, hi, _ => by omega
  | k + 1, hi, hk => by
    unfold mi
    by_cases e : i = k
    · subst e; exact Array.getElem?_setIfInBounds_self_of_lt (by rw [mi_size]; omega)
    · rw [Array.getElem?_setIfInBounds_ne (by omega)]; exact mi_at hA B i k (by omega) (by omega)
theorem mi_N {A : Array Value} (hA : A.size = 12) (B : Array Value) (i k : Nat) (hi : i < k) (hk : k ≤ 12) : N (mi A B k) i = qd A B i := N_of (mi_at hA B i k hi hk)
theorem mi_D {A B : Array Value} (hA : IsD A) : IsD (mi A B 12) where
  size := by rw [mi_size]; exact hA.size
  c := fun i hi => by
    rw [mi_N hA.size B i 12 hi (by omega)]
    refine ⟨mi_at hA.size B i 12 hi (by omega), ?_, ?_⟩
    · unfold qd; omega
    · unfold qd; omega
theorem mi_low {A B : Array Value} (hA : IsD A) : ∀ k, k ≤ 12 → lv (mi A B 12) k + lv B k = lv A k + bw A B k * P16 k
  | 0, _ => by simp [lv, bw]
  | k + 1, hk => by
    have ih := mi_low hA (B := B) k (by omega)
    rw [lv, lv, lv, mi_N hA.size B k 12 (by omega) (by omega), bw, P16_s]
    have e : 65536 + N A k - N B k - bw A B k = qd A B k + 65536 * ((65536 + N A k - N B k - bw A B k) / 65536) := by unfold qd; omega
    generalize (65536 + N A k - N B k - bw A B k) / 65536 = t at *
    have e2 : (N A k - N B k - bw A B k) * P16 k = (qd A B k + 65536 * t - 65536) * P16 k := by
      congr 1; omega
    rw [Int.sub_mul, Int.sub_mul, Int.sub_mul, Int.add_mul, Int.mul_assoc] at e2
    have e3 : (1 - t) * (65536 * P16 k) = 65536 * P16 k - 65536 * (t * P16 k) := by
      rw [Int.sub_mul, Int.one_mul, Int.mul_left_comm]
    rw [e3]
    omega
theorem mi_val {A B : Array Value} (hA : IsD A) (hB : IsD B) (h : lv B 12 ≤ lv A 12) : lv (mi A B 12) 12 = lv A 12 - lv B 12 := by
  have h1 := mi_low hA (B := B) 12 (by omega)
  have h2 := (lv_bd (mi_D (B := B) hA) 12 (by omega)).2
  have h3 := bw_bd hA hB 12 (by omega)
  have h4 := (lv_bd hB 12 (by omega)).1
  have h5 : bw A B 12 = 0 ∨ bw A B 12 = 1 := by omega
  rcases h5 with h5 | h5
  · rw [h5] at h1; omega
  · rw [h5, Int.one_mul] at h1; omega

/-! comparisons -/
theorem lv_up {A B : Array Value} {i : Nat} (h : lv A i = lv B i) : ∀ k, i ≤ k → k ≤ 12 → (∀ j, i ≤ j → j < k → N A j = N B j) → lv A k = lv B k
  | 0, hi, _, _ => by
    have : i = 0 := by omega
    subst this; exact h
  | k + 1, hi, hk, he => by
    by_cases e : i = k + 1
    · subst e; exact h
    · rw [lv, lv, lv_up h k (by omega) (by omega) (fun j h1 h2 => he j h1 (by omega)), he k (by omega) (by omega)]
theorem lv_up_lt {A B : Array Value} {i : Nat} (h : lv A i < lv B i) : ∀ k, i ≤ k → k ≤ 12 → (∀ j, i ≤ j → j < k → N A j = N B j) → lv A k < lv B k
  | 0, hi, _, _ => by
    have : i = 0 := by omega
    subst this; exact h
  | k + 1, hi, hk, he => by
    by_cases e : i = k + 1
    · subst e; exact h
    · have := lv_up_lt h k (by omega) (by omega) (fun j h1 h2 => he j h1 (by omega))
      rw [lv, lv, he k (by omega) (by omega)]
      omega
theorem lv_less {A B : Array Value} (hA : IsD A) (hB : IsD B) {i : Nat} (hi : i < 12) (hlt : N A i < N B i) (he : ∀ j, i < j → j < 12 → N A j = N B j) : lv A 12 < lv B 12 := by
  refine lv_up_lt (i := i + 1) ?_ 12 (by omega) (by omega) (fun j h1 h2 => he j (by omega) h2)
  have h1 := (lv_bd hA i (by omega)).2
  have h2 := (lv_bd hB i (by omega)).1
  have h3 : N A i * P16 i + P16 i ≤ N B i * P16 i := by
    have := Int.mul_le_mul_of_nonneg_right (show N A i + 1 ≤ N B i by omega) (show 0 ≤ P16 i by have := P16_pos i; omega)
    rw [Int.add_mul, Int.one_mul] at this
    exact this
  rw [lv, lv]
  omega
theorem lv_same {A B : Array Value} (he : ∀ j, j < 12 → N A j = N B j) : lv A 12 = lv B 12 := lv_congr 12 he
/-- all digits from k on are 0 -/
theorem lv_top {A : Array Value} {k : Nat} (hk : k ≤ 12) (he : ∀ j, k ≤ j → j < 12 → N A j = 0) : lv A 12 = lv A k := by
  have : ∀ m, k ≤ m → m ≤ 12 → lv A m = lv A k := by
    intro m
    induction m with
    | zero => intro h _; have : k = 0 := by omega
              subst this; rfl
    | succ m ih =>
      intro h1 h2
      by_cases e : k = m + 1
      · subst e; rfl
      · rw [lv, ih (by omega) (by omega), he m (by omega) (by omega)]
        simp
  exact this 12 hk (by omega)
theorem lv_zero {A : Array Value} (hA : IsD A) : lv A 12 = 0 ↔ ∀ j, j < 12 → N A j = 0 := by
  constructor
  · intro h
    have : ∀ m, m ≤ 12 → lv A m = 0 := by
      intro m hm
      have h1 : ∀ d, m + d ≤ 12 → lv A m ≤ lv A (m + d) := by
        intro d
        induction d with
        | zero => intro _; exact Int.le_refl _
        | succ d ih =>
          intro hd
          have h2 := ih (by omega)
          have h3 : 0 ≤ N A (m + d) * P16 (m + d) := Int.mul_nonneg (hA.c (m + d) (by omega)).2.1 (by have := P16_pos (m + d); omega)
          rw [← Nat.add_assoc, lv]
          omega
      have h4 := h1 (12 - m) (by omega)
      rw [show m + (12 - m) = 12 by omega, h] at h4
      have := (lv_bd hA m hm).1
      omega
    intro j hj
    have h1 := this (j + 1) (by omega)
    rw [lv, this j (by omega), Int.zero_add] at h1
    rcases Int.mul_eq_zero.1 h1 with h2 | h2
    · exact h2
    · have := P16_pos j; omega
  · intro h
    rw [lv_top (k := 0) (by omega) (fun j _ hj => h j hj)]
    rfl
end Go.Proofs.Ytanfhjfpdgjphaa
