/- What the margin of legs is: plain readings, route by route, with their bounds. No condition. -/
import Derived.Test.YtnpjclodcgejgaaScan
namespace Go.Proofs.Ytnpjclodcgejgaa
set_option linter.unusedVariables false
set_option linter.unusedSimpArgs false
open Go.RowKit

structure IsLeg (B : Array Value) : Prop where
  size : B.size = 26
  spec : IsSpec (B.extract 0 25)
  q : IsN B .i64 25

def lq (L : Nat → Array Value) (i : Nat) : Int := N (L i) 25
def lr (L : Nat → Array Value) (i : Nat) : Int := N (L i) 1
def ln (L : Nat → Array Value) (i : Nat) : Int := N (L i) 0
def lc (L : Nat → Array Value) (i : Nat) : Int := N (L i) 22
def ls (L : Nat → Array Value) (i : Nat) : Array Value := (L i).extract 6 22

/-- may the leg be? -/
def okLeg (L : Nat → Array Value) (i : Nat) : Bool := mayB ((L i).extract 0 25) && inB (lq L i) (-10000000) 10000000
def okTo (L : Nat → Array Value) : Nat → Bool
  | 0 => true
  | k + 1 => okTo L k && okLeg L k
/-- what a route has, of the first k legs -/
structure R4 where
  sc : Int
  lg : Int
  sh : Int
  rt : Int
def st (L : Nat → Array Value) (r : Int) : Nat → R4
  | 0 => ⟨0, 0, 0, 0⟩
  | k + 1 => if lq L k = 0 ∨ lr L k ≠ r then st L r k else
      ⟨(st L r k).sc + wk (ls L k) (lq L k) 16, (st L r k).lg + max (lq L k) 0, (st L r k).sh + max (-(lq L k)) 0,
        if ((st L r k).lg = 0 ∧ (st L r k).sh = 0) ∨ lc L k < (st L r k).rt then lc L k else (st L r k).rt⟩
/-- does one of the first k have that number? -/
def seenTo (L : Nat → Array Value) (n : Int) : Nat → Bool
  | 0 => false
  | k + 1 => seenTo L n k || decide (ln L k = n)
def onceTo (L : Nat → Array Value) : Nat → Bool
  | 0 => true
  | k + 1 => onceTo L k && !seenTo L (ln L k) k
def mg (p : R4) : Int := max 0 (p.sc - min p.lg p.sh * p.rt)
def sumTo (L : Nat → Array Value) (n : Nat) : Nat → Int
  | 0 => 0
  | r + 1 => sumTo L n r + mg (st L r n)

def mN (L : Nat → Array Value) (n : Nat) : Int := if 16 < n then 0 else if okTo L n then (if onceTo L n then sumTo L n 9 else 0) else 0
def mE (L : Nat → Array Value) (n : Nat) : Int := if 16 < n then 3 else if okTo L n then (if onceTo L n then 0 else 8) else 2

theorem okTo_mono {L : Nat → Array Value} {k n : Nat} (h : okTo L n = true) (hk : k ≤ n) : okTo L k = true := by
  induction n with
  | zero => have : k = 0 := by omega
            subst this; exact h
  | succ n ih =>
    by_cases e : k = n + 1
    · subst e; exact h
    · exact ih (by simp [okTo] at h; exact h.1) (by omega)
theorem okTo_at {L : Nat → Array Value} {k n : Nat} (h : okTo L n = true) (hk : k < n) : okLeg L k = true := by
  have h1 := okTo_mono h (show k + 1 ≤ n by omega)
  simp only [okTo, Bool.and_eq_true] at h1
  exact h1.2
theorem onceTo_mono {L : Nat → Array Value} {k n : Nat} (h : onceTo L n = true) (hk : k ≤ n) : onceTo L k = true := by
  induction n with
  | zero => have : k = 0 := by omega
            subst this; exact h
  | succ n ih =>
    by_cases e : k = n + 1
    · subst e; exact h
    · exact ih (by simp [onceTo] at h; exact h.1) (by omega)

theorem N_spec {B : Array Value} (h : IsLeg B) {i : Nat} (hi : i < 25) : N (B.extract 0 25) i = N B i := by
  rw [N_extract (by have := h.size; omega) (by omega)]
  simp
theorem ls_sh {L : Nat → Array Value} {i : Nat} (h : IsLeg (L i)) : IsSh (ls L i) where
  size := by have := h.size; simp [ls]; omega
  c := fun k hk => by
    have h1 := h.spec.c (6 + k) (by omega) (by omega)
    have hsz := h.size
    have hN : N (ls L i) k = N ((L i).extract 0 25) (6 + k) := by
      rw [N_spec h (by omega)]
      unfold ls
      rw [N_extract (by omega) (by omega)]
    unfold IsN at h1 ⊢
    rw [hN]
    refine ⟨?_, h1.2⟩
    rw [← h1.1]
    unfold ls
    rw [Array.getElem?_extract, Array.getElem?_extract, if_pos (by omega), if_pos (by omega)]
    simp
theorem shTo_sw {L : Nat → Array Value} {i : Nat} (h : IsLeg (L i)) : ∀ k, k ≤ 16 → swTo (ls L i) k = shTo ((L i).extract 0 25) k
  | 0, _ => rfl
  | k + 1, hk => by
    have hsz := h.size
    have hN : N (ls L i) k = N ((L i).extract 0 25) (6 + k) := by
      rw [N_spec h (by omega)]
      unfold ls
      rw [N_extract (by omega) (by omega)]
    simp only [swTo, shTo, shTo_sw h k (by omega), hN]

theorem mayB_sh {A : Array Value} (h : mayB A = true) : shTo A 16 = true := by
  simp only [mayB, Bool.and_eq_true] at h
  obtain ⟨⟨⟨⟨⟨⟨⟨⟨⟨⟨h1, _⟩, _⟩, _⟩, _⟩, _⟩, _⟩, _⟩, _⟩, _⟩, _⟩ := h
  exact h1

/-- what is known of a leg that may be -/
theorem okLeg_facts {L : Nat → Array Value} {i : Nat} (h : IsLeg (L i)) (ho : okLeg L i = true) :
    swTo (ls L i) 16 = true ∧ (-10000000 ≤ lq L i ∧ lq L i ≤ 10000000) ∧ (0 ≤ lc L i ∧ lc L i ≤ 10000000) ∧ (1 ≤ lr L i ∧ lr L i ≤ 8) := by
  simp only [okLeg, Bool.and_eq_true] at ho
  have hm := mayB_facts ho.1
  rw [N_spec h (by omega), N_spec h (by omega), N_spec h (by omega), N_spec h (by omega), N_spec h (by omega), N_spec h (by omega)] at hm
  exact ⟨by rw [shTo_sw h 16 (by omega)]; exact mayB_sh ho.1, inB_iff.1 ho.2, hm.2.2.2.2.1, hm.2.2.2.2.2⟩

theorem prod_bd7 {q s : Int} (hq : -10000000 ≤ q ∧ q ≤ 10000000) (hs : -10000000 ≤ s ∧ s ≤ 10000000) : -100000000000000 ≤ q * s ∧ q * s ≤ 100000000000000 := by
  have h1 : q * s ≤ (q * s).natAbs := by omega
  have h2 : -(q * s) ≤ (q * s).natAbs := by omega
  have h3 : (q * s).natAbs = q.natAbs * s.natAbs := Int.natAbs_mul q s
  have h4 : q.natAbs * s.natAbs ≤ 10000000 * 10000000 := Nat.mul_le_mul (by omega) (by omega)
  omega
theorem wk_bd7 {S : Array Value} {q : Int} (hq : -10000000 ≤ q ∧ q ≤ 10000000) (hs : swTo S 16 = true) : ∀ k, k ≤ 16 → 0 ≤ wk S q k ∧ wk S q k ≤ 100000000000000
  | 0, _ => by simp [wk]
  | k + 1, hk => by
    have ih := wk_bd7 hq hs k (by omega)
    have := prod_bd7 hq (swTo_at hs (show k < 16 by omega))
    simp only [wk]
    omega

structure R4.Bd (p : R4) (k : Nat) : Prop where
  sc : 0 ≤ p.sc ∧ p.sc ≤ k * 100000000000000
  lg : 0 ≤ p.lg ∧ p.lg ≤ k * 10000000
  sh : 0 ≤ p.sh ∧ p.sh ≤ k * 10000000
  rt : 0 ≤ p.rt ∧ p.rt ≤ 10000000

theorem st_bd {L : Nat → Array Value} (hL : ∀ i, IsLeg (L i)) (r : Int) : ∀ k, okTo L k = true → (st L r k).Bd k
  | 0, _ => ⟨by simp [st], by simp [st], by simp [st], by simp [st]⟩
  | k + 1, h => by
    have ih := st_bd hL r k (okTo_mono h (by omega))
    obtain ⟨hw, hq, hc, hr⟩ := okLeg_facts (hL k) (okTo_at h (Nat.lt_succ_self k))
    have hb := wk_bd7 hq hw 16 (by omega)
    obtain ⟨h1, h2, h3, h4⟩ := ih
    unfold st
    split
    · exact ⟨by omega, by omega, by omega, h4⟩
    · refine ⟨?_, ?_, ?_, ?_⟩
      · simp only; omega
      · simp only; omega
      · simp only; omega
      · simp only
        split <;> omega
end Go.Proofs.Ytnpjclodcgejgaa
