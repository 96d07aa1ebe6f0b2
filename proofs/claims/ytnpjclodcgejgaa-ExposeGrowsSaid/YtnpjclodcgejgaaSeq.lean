/- Margins of legs put together otherwise: a leg more, some of them, the other way about. Plain; no condition but that the numbers fit their kinds. -/
import Derived.Test.YtnpjclodcgejgaaCopy
namespace Go.Proofs.Ytnpjclodcgejgaa
set_option linter.unusedVariables false
set_option linter.unusedSimpArgs false
open Go.RowKit

/-- what one leg does to a route -/
def stp (x : Array Value) (r : Int) (s : R4) : R4 := if N x 25 = 0 ∨ N x 1 ≠ r then s else
  ⟨s.sc + wk (x.extract 6 22) (N x 25) 16, s.lg + max (N x 25) 0, s.sh + max (-(N x 25)) 0, if (s.lg = 0 ∧ s.sh = 0) ∨ N x 22 < s.rt then N x 22 else s.rt⟩
theorem st_stp (L : Nat → Array Value) (r : Int) (k : Nat) : st L r (k + 1) = stp (L k) r (st L r k) := rfl
def okA (x : Array Value) : Bool := mayB (x.extract 0 25) && inB (N x 25) (-10000000) 10000000
theorem okTo_s (L : Nat → Array Value) (k : Nat) : okTo L (k + 1) = (okTo L k && okA (L k)) := rfl
theorem seenTo_s (L : Nat → Array Value) (m : Int) (k : Nat) : seenTo L m (k + 1) = (seenTo L m k || decide (N (L k) 0 = m)) := rfl
theorem onceTo_s (L : Nat → Array Value) (k : Nat) : onceTo L (k + 1) = (onceTo L k && !seenTo L (N (L k) 0) k) := rfl

theorem st_congr {L L' : Nat → Array Value} (r : Int) : ∀ n, (∀ i, i < n → L i = L' i) → st L r n = st L' r n
  | 0, _ => rfl
  | n + 1, h => by rw [st_stp, st_stp, st_congr r n (fun i hi => h i (by omega)), h n (by omega)]
theorem okTo_congr {L L' : Nat → Array Value} : ∀ n, (∀ i, i < n → L i = L' i) → okTo L n = okTo L' n
  | 0, _ => rfl
  | n + 1, h => by rw [okTo_s, okTo_s, okTo_congr n (fun i hi => h i (by omega)), h n (by omega)]
theorem seenTo_congr {L L' : Nat → Array Value} (m : Int) : ∀ n, (∀ i, i < n → L i = L' i) → seenTo L m n = seenTo L' m n
  | 0, _ => rfl
  | n + 1, h => by rw [seenTo_s, seenTo_s, seenTo_congr m n (fun i hi => h i (by omega)), h n (by omega)]
theorem onceTo_congr {L L' : Nat → Array Value} : ∀ n, (∀ i, i < n → L i = L' i) → onceTo L n = onceTo L' n
  | 0, _ => rfl
  | n + 1, h => by rw [onceTo_s, onceTo_s, onceTo_congr n (fun i hi => h i (by omega)), h n (by omega), seenTo_congr _ n (fun i hi => h i (by omega))]

/-- a leg behind the first n -/
def snoc (F : Nat → Array Value) (n : Nat) (x : Array Value) : Nat → Array Value := fun i => if i = n then x else F i
theorem snoc_lt (F : Nat → Array Value) (n : Nat) (x : Array Value) : ∀ i, i < n → snoc F n x i = F i := fun i hi => by simp [snoc]; omega
theorem snoc_at (F : Nat → Array Value) (n : Nat) (x : Array Value) : snoc F n x n = x := by simp [snoc]
theorem snoc_leg {F : Nat → Array Value} {n : Nat} {x : Array Value} (h : ∀ i, IsLeg (F i)) (hx : IsLeg x) (i : Nat) : IsLeg (snoc F n x i) := by
  unfold snoc; split
  · exact hx
  · exact h i
theorem flat_snoc (F : Nat → Array Value) (n : Nat) (x : Array Value) : flat (snoc F n x) (n + 1) = flat F n ++ x.toList := by
  rw [flat, flat_congr n (snoc_lt F n x), snoc_at]
theorem st_snoc (F : Nat → Array Value) (n : Nat) (x : Array Value) (r : Int) : st (snoc F n x) r (n + 1) = stp x r (st F r n) := by
  rw [st_stp, st_congr r n (snoc_lt F n x), snoc_at]
theorem ok_snoc (F : Nat → Array Value) (n : Nat) (x : Array Value) : okTo (snoc F n x) (n + 1) = (okTo F n && okA x) := by
  rw [okTo_s, okTo_congr n (snoc_lt F n x), snoc_at]
theorem seen_snoc (F : Nat → Array Value) (n : Nat) (x : Array Value) (m : Int) : seenTo (snoc F n x) m (n + 1) = (seenTo F m n || decide (N x 0 = m)) := by
  rw [seenTo_s, seenTo_congr m n (snoc_lt F n x), snoc_at]
theorem once_snoc (F : Nat → Array Value) (n : Nat) (x : Array Value) : onceTo (snoc F n x) (n + 1) = (onceTo F n && !seenTo F (N x 0) n) := by
  rw [onceTo_s, onceTo_congr n (snoc_lt F n x), snoc_at, seenTo_congr _ n (snoc_lt F n x)]

/-! those of the first k that p takes -/
def pkN (p : Array Value → Bool) (L : Nat → Array Value) : Nat → Nat
  | 0 => 0
  | k + 1 => if p (L k) then pkN p L k + 1 else pkN p L k
def pkF (p : Array Value → Bool) (L : Nat → Array Value) : Nat → Nat → Array Value
  | 0 => fun _ => z26
  | k + 1 => if p (L k) then snoc (pkF p L k) (pkN p L k) (L k) else pkF p L k
theorem pkN_s (p : Array Value → Bool) (L : Nat → Array Value) (k : Nat) : pkN p L (k + 1) = if p (L k) = true then pkN p L k + 1 else pkN p L k := rfl
theorem pkF_s (p : Array Value → Bool) (L : Nat → Array Value) (k : Nat) : pkF p L (k + 1) = if p (L k) = true then snoc (pkF p L k) (pkN p L k) (L k) else pkF p L k := rfl
theorem pk_leg {p : Array Value → Bool} {L : Nat → Array Value} (h : ∀ i, IsLeg (L i)) : ∀ k i, IsLeg (pkF p L k i)
  | 0, _ => z26_leg
  | k + 1, i => by
    unfold pkF; split
    · exact snoc_leg (pk_leg h k) (h k) i
    · exact pk_leg h k i
theorem pk_le (p : Array Value → Bool) (L : Nat → Array Value) : ∀ k, pkN p L k ≤ k
  | 0 => Nat.le_refl _
  | k + 1 => by have := pk_le p L k; unfold pkN; split <;> omega
theorem pk_ok {p : Array Value → Bool} {L : Nat → Array Value} : ∀ k, okTo L k = true → okTo (pkF p L k) (pkN p L k) = true
  | 0, _ => rfl
  | k + 1, h => by
    rw [okTo_s, Bool.and_eq_true] at h
    by_cases hp' : p (L k) = true
    · rw [pkF_s, pkN_s, if_pos hp', if_pos hp', ok_snoc, pk_ok k h.1, h.2]; rfl
    · rw [pkF_s, pkN_s, if_neg hp', if_neg hp']; exact pk_ok k h.1
theorem pk_seen {p : Array Value → Bool} {L : Nat → Array Value} {m : Int} : ∀ k, seenTo L m k = false → seenTo (pkF p L k) m (pkN p L k) = false
  | 0, _ => rfl
  | k + 1, h => by
    rw [seenTo_s, Bool.or_eq_false_iff] at h
    by_cases hp' : p (L k) = true
    · rw [pkF_s, pkN_s, if_pos hp', if_pos hp', seen_snoc, pk_seen k h.1, h.2]; rfl
    · rw [pkF_s, pkN_s, if_neg hp', if_neg hp']; exact pk_seen k h.1
theorem pk_once {p : Array Value → Bool} {L : Nat → Array Value} : ∀ k, onceTo L k = true → onceTo (pkF p L k) (pkN p L k) = true
  | 0, _ => rfl
  | k + 1, h => by
    rw [onceTo_s, Bool.and_eq_true] at h
    by_cases hp' : p (L k) = true
    · rw [pkF_s, pkN_s, if_pos hp', if_pos hp', once_snoc, pk_once k h.1, pk_seen k (by simpa using h.2)]; rfl
    · rw [pkF_s, pkN_s, if_neg hp', if_neg hp']; exact pk_once k h.1
theorem stp_other {x : Array Value} {r : Int} {s : R4} (h : N x 1 ≠ r) : stp x r s = s := by unfold stp; rw [if_pos (Or.inr h)]
theorem pk_st {p : Array Value → Bool} {L : Nat → Array Value} {r : Int} (hp : ∀ x : Array Value, N x 1 = r → p x = true) : ∀ k, st (pkF p L k) r (pkN p L k) = st L r k
  | 0 => rfl
  | k + 1 => by
    rw [st_stp]
    by_cases hp' : p (L k) = true
    · rw [pkF_s, pkN_s, if_pos hp', if_pos hp', st_snoc, pk_st hp k]
    · rw [pkF_s, pkN_s, if_neg hp', if_neg hp', pk_st hp k, stp_other (fun e => hp' (hp _ e))]
theorem pk_not {p : Array Value → Bool} {L : Nat → Array Value} {r : Int} (hp : ∀ x : Array Value, N x 1 = r → p x = false) : ∀ k, st (pkF p L k) r (pkN p L k) = ⟨0, 0, 0, 0⟩
  | 0 => rfl
  | k + 1 => by
    by_cases hp' : p (L k) = true
    · rw [pkF_s, pkN_s, if_pos hp', if_pos hp', st_snoc, pk_not hp k, stp_other (fun e => by rw [hp _ e] at hp'; cases hp')]
    · rw [pkF_s, pkN_s, if_neg hp', if_neg hp']; exact pk_not hp k
theorem mg_zero : mg ⟨0, 0, 0, 0⟩ = 0 := by decide

/-- what mE = 0 says -/
theorem mE_ok {L : Nat → Array Value} {n : Nat} (h : mE L n = 0) : n ≤ 16 ∧ okTo L n = true ∧ onceTo L n = true ∧ mN L n = sumTo L n 9 := by
  unfold mE at h
  split at h
  · cases h
  · rename_i h1
    split at h
    · rename_i h2
      split at h
      · rename_i h3
        exact ⟨by omega, h2, h3, by unfold mN; rw [if_neg h1, if_pos h2, if_pos h3]⟩
      · cases h
    · cases h
theorem mE_of {L : Nat → Array Value} {n : Nat} (h1 : n ≤ 16) (h2 : okTo L n = true) (h3 : onceTo L n = true) : mE L n = 0 ∧ mN L n = sumTo L n 9 := by
  unfold mE mN
  rw [if_neg (show ¬ 16 < n by omega), if_neg (show ¬ 16 < n by omega), if_pos h2, if_pos h3, if_pos h2, if_pos h3]
  exact ⟨rfl, rfl⟩
theorem mN_not {L : Nat → Array Value} {n : Nat} (h : mE L n ≠ 0) : mN L n = 0 := by
  unfold mE at h
  unfold mN
  split
  · rfl
  · rename_i h1
    rw [if_neg h1] at h
    split
    · rename_i h2
      rw [if_pos h2] at h
      split
      · rename_i h3
        rw [if_pos h3] at h
        exact absurd rfl h
      · rfl
    · rfl

/-- two parts by their routes -/
def loR (route : Int) (x : Array Value) : Bool := decide (N x 1 ≤ route)
def hiR (route : Int) (x : Array Value) : Bool := !decide (N x 1 ≤ route)
theorem sum_parts {L : Nat → Array Value} (route : Int) (k : Nat) : ∀ r : Nat, sumTo (pkF (loR route) L k) (pkN (loR route) L k) r + sumTo (pkF (hiR route) L k) (pkN (hiR route) L k) r = sumTo L k r
  | 0 => rfl
  | r + 1 => by
    have ih := sum_parts (L := L) route k r
    simp only [sumTo]
    by_cases h : (r : Int) ≤ route
    · rw [pk_st (r := r) (fun x e => by unfold loR; rw [e]; exact decide_eq_true h), pk_not (r := r) (p := hiR route) (fun x e => by unfold hiR; rw [e]; simp [h]), mg_zero]
      omega
    · rw [pk_st (r := r) (p := hiR route) (fun x e => by unfold hiR; rw [e]; simp [h]), pk_not (r := r) (p := loR route) (fun x e => by unfold loR; rw [e]; simp [h]), mg_zero]
      omega
end Go.Proofs.Ytnpjclodcgejgaa
