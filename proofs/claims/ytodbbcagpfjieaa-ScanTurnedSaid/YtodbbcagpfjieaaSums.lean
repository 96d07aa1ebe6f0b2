/- The margin of legs the other way about, without credits, and with a leg of 0 more. Plain; no condition but that the numbers fit their kinds. -/
import Derived.Test.YtodbbcagpfjieaaSeq
namespace Go.Proofs.Ytodbbcagpfjieaa
set_option linter.unusedVariables false
set_option linter.unusedSimpArgs false
open Go.RowKit

theorem if_neg_or {a b : Prop} [Decidable a] [Decidable b] {x y : Int} (h : ¬ a) : (if a ∨ b then x else y) = if b then x else y := by
  by_cases hb : b
  · rw [if_pos (.inr hb), if_pos hb]
  · rw [if_neg (fun e => e.elim h hb), if_neg hb]
/-- the legs' doing, from a state on -/
def fo (L : Nat → Array Value) (r : Int) (s : R4) : Nat → R4
  | 0 => s
  | n + 1 => stp (L n) r (fo L r s n)
theorem fo_st (L : Nat → Array Value) (r : Int) : ∀ n, fo L r ⟨0, 0, 0, 0⟩ n = st L r n
  | 0 => rfl
  | n + 1 => by rw [fo, st_stp, fo_st L r n]
theorem fo_congr {L L' : Nat → Array Value} (r : Int) (s : R4) : ∀ n, (∀ i, i < n → L i = L' i) → fo L r s n = fo L' r s n
  | 0, _ => rfl
  | n + 1, h => by rw [fo, fo, fo_congr r s n (fun i hi => h i (by omega)), h n (by omega)]
theorem fo_tail (L : Nat → Array Value) (r : Int) (s : R4) : ∀ n, fo L r s (n + 1) = fo (fun i => L (i + 1)) r (stp (L 0) r s) n
  | 0 => rfl
  | n + 1 => by rw [fo, fo_tail L r s n]; rfl
theorem stp_ge {x : Array Value} {r : Int} {s : R4} (h : 0 ≤ s.lg ∧ 0 ≤ s.sh) : 0 ≤ (stp x r s).lg ∧ 0 ≤ (stp x r s).sh := by
  unfold stp
  split
  · exact h
  · simp only; omega
theorem r4_ext {a b : R4} (h1 : a.sc = b.sc) (h2 : a.lg = b.lg) (h3 : a.sh = b.sh) (h4 : a.rt = b.rt) : a = b := by cases a; cases b; simp_all
theorem stp_swap (x y : Array Value) (r : Int) (s : R4) (h : 0 ≤ s.lg ∧ 0 ≤ s.sh) : stp x r (stp y r s) = stp y r (stp x r s) := by
  by_cases hx : N x 25 = 0 ∨ N x 1 ≠ r
  · rw [show stp x r (stp y r s) = stp y r s by unfold stp; rw [if_pos hx], show stp x r s = s by unfold stp; rw [if_pos hx]]
  · by_cases hy : N y 25 = 0 ∨ N y 1 ≠ r
    · rw [show stp y r (stp x r s) = stp x r s by rw [stp, if_pos hy], show stp y r s = s by rw [stp, if_pos hy]]
    · simp only [stp, if_neg hx, if_neg hy]
      apply r4_ext
      · simp only; omega
      · simp only; omega
      · simp only; omega
      · have hx0 : N x 25 ≠ 0 := fun e => hx (.inl e)
        have hy0 : N y 25 ≠ 0 := fun e => hy (.inl e)
        have A1 : ¬ (s.lg + max (N y 25) 0 = 0 ∧ s.sh + max (-N y 25) 0 = 0) := by omega
        have A2 : ¬ (s.lg + max (N x 25) 0 = 0 ∧ s.sh + max (-N x 25) 0 = 0) := by omega
        simp only [if_neg_or A1, if_neg_or A2]
        generalize N x 22 = cx
        generalize N y 22 = cy
        by_cases h0 : s.lg = 0 ∧ s.sh = 0
        · have hp : ∀ (p : Prop) [Decidable p] (x y : Int), (if (s.lg = 0 ∧ s.sh = 0) ∨ p then x else y) = x := fun p _ x y => if_pos (.inl h0)
          simp only [hp]
          split <;> split <;> omega
        · simp only [if_neg_or h0]
          generalize s.rt = rt
          by_cases c1 : cy < rt
          · simp only [if_pos c1]
            by_cases c2 : cx < rt
            · simp only [if_pos c2]
              split <;> split <;> omega
            · simp only [if_neg c2, if_pos c1]
              rw [if_neg (by omega)]
          · simp only [if_neg c1]
            by_cases c2 : cx < rt
            · simp only [if_pos c2]
              rw [if_neg (by omega)]
            · simp only [if_neg c2, if_neg c1]
theorem fo_push (L : Nat → Array Value) (r : Int) (x : Array Value) : ∀ n (s : R4), 0 ≤ s.lg ∧ 0 ≤ s.sh → fo L r (stp x r s) n = stp x r (fo L r s n) ∧ 0 ≤ (fo L r s n).lg ∧ 0 ≤ (fo L r s n).sh
  | 0, s, h => ⟨rfl, h⟩
  | n + 1, s, h => by
    obtain ⟨h1, h2⟩ := fo_push L r x n s h
    refine ⟨?_, stp_ge h2⟩
    rw [fo, fo, h1, stp_swap _ _ _ _ h2]
/-- the other way about -/
def rv (L : Nat → Array Value) (n : Nat) : Nat → Array Value := fun i => L (n - 1 - i)
theorem fo_rv (L : Nat → Array Value) (r : Int) : ∀ n (s : R4), 0 ≤ s.lg ∧ 0 ≤ s.sh → fo (rv L n) r s n = fo L r s n
  | 0, _, _ => rfl
  | n + 1, s, h => by
    rw [fo_tail]
    have e : fo (fun i => rv L (n + 1) (i + 1)) r (stp (rv L (n + 1) 0) r s) n = fo (rv L n) r (stp (L n) r s) n := by
      rw [show rv L (n + 1) 0 = L n by simp [rv]]
      exact fo_congr r _ n (fun i hi => by unfold rv; congr 1; omega)
    rw [e, fo_rv L r n _ (stp_ge h), (fo_push L r (L n) n s h).1]
    rfl
theorem st_rv (L : Nat → Array Value) (r : Int) (n : Nat) : st (rv L n) r n = st L r n := by
  rw [← fo_st, ← fo_st, fo_rv L r n _ (by simp)]
theorem sumTo_congr {L L' : Nat → Array Value} {n n' : Nat} (h : ∀ r : Nat, mg (st L r n) = mg (st L' r n')) : ∀ r, sumTo L n r = sumTo L' n' r
  | 0 => rfl
  | r + 1 => by rw [sumTo, sumTo, sumTo_congr h r, h r]

/-- okTo, onceTo by their places -/
theorem okTo_iff (L : Nat → Array Value) : ∀ n, okTo L n = true ↔ ∀ i, i < n → okA (L i) = true
  | 0 => ⟨fun _ i hi => by omega, fun _ => rfl⟩
  | n + 1 => by
    rw [okTo_s, Bool.and_eq_true, okTo_iff L n]
    constructor
    · intro h i hi
      by_cases e : i = n
      · subst e; exact h.2
      · exact h.1 i (by omega)
    · exact fun h => ⟨fun i hi => h i (by omega), h n (by omega)⟩
theorem seenTo_iff (L : Nat → Array Value) (m : Int) : ∀ n, seenTo L m n = true ↔ ∃ i, i < n ∧ N (L i) 0 = m
  | 0 => ⟨fun h => (by cases h), fun ⟨i, hi, _⟩ => (by omega)⟩
  | n + 1 => by
    rw [seenTo_s, Bool.or_eq_true, seenTo_iff L m n, decide_eq_true_eq]
    constructor
    · intro h
      rcases h with ⟨i, hi, e⟩ | h
      · exact ⟨i, by omega, e⟩
      · exact ⟨n, by omega, h⟩
    · rintro ⟨i, hi, e⟩
      by_cases e2 : i = n
      · subst e2; exact .inr e
      · exact .inl ⟨i, by omega, e⟩
theorem onceTo_iff (L : Nat → Array Value) : ∀ n, onceTo L n = true ↔ ∀ i j, i < j → j < n → N (L i) 0 ≠ N (L j) 0
  | 0 => ⟨fun _ i j _ hj => by omega, fun _ => rfl⟩
  | n + 1 => by
    rw [onceTo_s, Bool.and_eq_true, onceTo_iff L n]
    have hs := seenTo_iff L (N (L n) 0) n
    refine ⟨fun h i j hij hj => ?_, fun h => ⟨fun i j hij hj => h i j hij (by omega), ?_⟩⟩
    · by_cases e : j = n
      · subst e
        intro e2
        have := hs.2 ⟨i, hij, e2⟩
        rw [this] at h
        simp at h
      · exact h.1 i j hij (by omega)
    · cases hq : seenTo L (N (L n) 0) n with
      | false => rfl
      | true =>
        obtain ⟨i, hi, e⟩ := hs.1 hq
        exact absurd e (h i n hi (by omega))
theorem ok_rv {L : Nat → Array Value} {n : Nat} (h : okTo L n = true) : okTo (rv L n) n = true :=
  (okTo_iff _ _).2 fun i hi => (okTo_iff _ _).1 h _ (by omega)
theorem once_rv {L : Nat → Array Value} {n : Nat} (h : onceTo L n = true) : onceTo (rv L n) n = true :=
  (onceTo_iff _ _).2 fun i j hij hj => fun e => (onceTo_iff _ _).1 h (n - 1 - j) (n - 1 - i) (by omega) (by omega) e.symm

/-! without credits -/
def fre (L : Nat → Array Value) : Nat → Array Value := fun i => (L i).setIfInBounds 22 (.int .i64 0)
theorem N_set_ne {A : Array Value} {i j : Nat} {v : Value} (h : i ≠ j) : N (A.setIfInBounds i v) j = N A j := by
  unfold N; rw [Array.getElem?_setIfInBounds_ne h]
theorem N_seti {A : Array Value} {i : Nat} {k : IntKind} {n : Int} (h : i < A.size) : N (A.setIfInBounds i (.int k n)) i = n := by
  unfold N; rw [Array.getElem?_setIfInBounds_self_of_lt h]
theorem set_isN {A : Array Value} {i j : Nat} {k k' : IntKind} {n : Int} (h : IsN A k' j) (hi : i < A.size) (hk : i = j → k = k') (hn : k.min ≤ n ∧ n ≤ k.max) : IsN (A.setIfInBounds i (.int k n)) k' j := by
  by_cases e : i = j
  · subst e
    obtain rfl := hk rfl
    exact IsN_of (Array.getElem?_setIfInBounds_self_of_lt hi) hn
  · exact ⟨by rw [N_set_ne e, Array.getElem?_setIfInBounds_ne e]; exact h.1, by rw [N_set_ne e]; exact h.2⟩
theorem ext_set_in {A : Array Value} {i n : Nat} {v : Value} (h : i < n) : (A.setIfInBounds i v).extract 0 n = (A.extract 0 n).setIfInBounds i v := by
  apply Array.ext_getElem?
  intro j
  rw [Array.getElem?_extract]
  by_cases e : i = j
  · subst e
    by_cases hs : i < A.size
    · rw [if_pos (by simp; omega), Nat.zero_add, Array.getElem?_setIfInBounds_self_of_lt hs, Array.getElem?_setIfInBounds_self_of_lt (by simp; omega)]
    · rw [if_neg (by simp; omega)]; symm; simp; omega
  · rw [Array.getElem?_setIfInBounds_ne e, Array.getElem?_extract]
    simp only [Array.size_setIfInBounds, Nat.zero_add]
    split
    · rw [Array.getElem?_setIfInBounds_ne e]
    · rfl
theorem ext_set_out {A : Array Value} {i a b : Nat} {v : Value} (h : i < a ∨ b ≤ i) : (A.setIfInBounds i v).extract a b = A.extract a b := by
  apply Array.ext_getElem?
  intro j
  rw [Array.getElem?_extract, Array.getElem?_extract]
  simp only [Array.size_setIfInBounds]
  split
  · rw [Array.getElem?_setIfInBounds_ne (by omega)]
  · rfl
theorem ext_set_mid {A : Array Value} {i a b : Nat} {v : Value} (h : a ≤ i) (hb : i < b) (hs : b ≤ A.size) : (A.setIfInBounds i v).extract a b = (A.extract a b).setIfInBounds (i - a) v := by
  apply Array.ext_getElem?
  intro j
  rw [Array.getElem?_extract]
  by_cases e : i - a = j
  · subst e
    rw [if_pos (by simp; omega), show a + (i - a) = i by omega, Array.getElem?_setIfInBounds_self_of_lt (by omega), Array.getElem?_setIfInBounds_self_of_lt (by simp; omega)]
  · rw [Array.getElem?_setIfInBounds_ne e, Array.getElem?_extract]
    simp only [Array.size_setIfInBounds]
    split
    · rw [Array.getElem?_setIfInBounds_ne (by omega)]
    · rfl
theorem IsSpec.set {A : Array Value} (h : IsSpec A) {i : Nat} {n : Int} (hi : 2 ≤ i ∧ i < 23) (hn : -9223372036854775808 ≤ n ∧ n ≤ 9223372036854775807) : IsSpec (A.setIfInBounds i (.int .i64 n)) where
  size := by simpa using h.size
  c0 := set_isN h.c0 (by rw [h.size]; omega) (fun e => by omega) hn
  c1 := set_isN h.c1 (by rw [h.size]; omega) (fun e => by omega) hn
  c := fun j h1 h2 => set_isN (h.c j h1 h2) (by rw [h.size]; omega) (fun _ => rfl) hn
  c23 := set_isN h.c23 (by rw [h.size]; omega) (fun e => by omega) hn
  c24 := set_isN h.c24 (by rw [h.size]; omega) (fun e => by omega) hn
theorem IsLeg.set {A : Array Value} (h : IsLeg A) {i : Nat} {n : Int} (hi : (2 ≤ i ∧ i < 23) ∨ i = 25) (hn : -9223372036854775808 ≤ n ∧ n ≤ 9223372036854775807) : IsLeg (A.setIfInBounds i (.int .i64 n)) where
  size := by simpa using h.size
  spec := by
    by_cases e : i = 25
    · rw [ext_set_out (by omega)]; exact h.spec
    · rw [ext_set_in (by omega)]; exact h.spec.set (by omega) hn
  q := set_isN h.q (by rw [h.size]; omega) (fun _ => rfl) hn

theorem shTo_congr {A B : Array Value} : ∀ k, (∀ i, i < k → N A (6 + i) = N B (6 + i)) → shTo A k = shTo B k
  | 0, _ => rfl
  | k + 1, h => by rw [shTo, shTo, shTo_congr k (fun i hi => h i (by omega)), h k (by omega)]
theorem upTo_congr {A B : Array Value} : ∀ k, (∀ i, i < k → N A (6 + i) = N B (6 + i)) → upTo A k = upTo B k
  | 0, _ => rfl
  | k + 1, h => by rw [upTo, upTo, upTo_congr k (fun i hi => h i (by omega)), h k (by omega)]
theorem dnTo_congr {A B : Array Value} : ∀ k, (∀ i, i < k → N A (6 + i) = N B (6 + i)) → dnTo A k = dnTo B k
  | 0, _ => rfl
  | k + 1, h => by rw [dnTo, dnTo, dnTo_congr k (fun i hi => h i (by omega)), h k (by omega)]

theorem fre_leg {L : Nat → Array Value} (h : ∀ i, IsLeg (L i)) (i : Nat) : IsLeg (fre L i) := (h i).set (by omega) (by omega)
theorem Nx {A : Array Value} (h : IsLeg A) {i : Nat} (hi : i < 25) : N (A.extract 0 25) i = N A i := N_spec h hi
theorem okA_fre {x : Array Value} (h : IsLeg x) (ho : okA x = true) : okA (x.setIfInBounds 22 (.int .i64 0)) = true := by
  have h' : IsLeg (x.setIfInBounds 22 (.int .i64 0)) := h.set (by omega) (by omega)
  have e : ∀ i, i < 25 → i ≠ 22 → N ((x.setIfInBounds 22 (.int .i64 0)).extract 0 25) i = N (x.extract 0 25) i := fun i hi hn => by
    rw [Nx h' hi, Nx h hi, N_set_ne (fun e => hn e.symm)]
  unfold okA at ho ⊢
  rw [Bool.and_eq_true] at ho ⊢
  refine ⟨?_, by rw [N_set_ne (by omega)]; exact ho.2⟩
  have hm := ho.1
  unfold mayB at hm ⊢
  rw [shTo_congr 16 (fun i hi => e (6 + i) (by omega) (by omega)), upTo_congr 16 (fun i hi => e (6 + i) (by omega) (by omega)), dnTo_congr 16 (fun i hi => e (6 + i) (by omega) (by omega)),
    e 0 (by omega) (by omega), e 1 (by omega) (by omega), e 2 (by omega) (by omega), e 3 (by omega) (by omega), e 4 (by omega) (by omega), e 5 (by omega) (by omega),
    e 24 (by omega) (by omega), show N ((x.setIfInBounds 22 (.int .i64 0)).extract 0 25) 22 = 0 by rw [Nx h' (by omega), N_seti (by rw [h.size]; omega)]]
  simp only [Bool.and_eq_true] at hm ⊢
  exact ⟨⟨hm.1.1, by decide⟩, hm.2⟩
theorem ok_fre {L : Nat → Array Value} {n : Nat} (hL : ∀ i, IsLeg (L i)) (h : okTo L n = true) : okTo (fre L) n = true :=
  (okTo_iff _ _).2 fun i hi => okA_fre (hL i) ((okTo_iff _ _).1 h i hi)
theorem once_fre {L : Nat → Array Value} {n : Nat} (h : onceTo L n = true) : onceTo (fre L) n = true :=
  (onceTo_iff _ _).2 fun i j hij hj => by
    unfold fre
    rw [N_set_ne (by omega), N_set_ne (by omega)]
    exact (onceTo_iff _ _).1 h i j hij hj
theorem st_fre {L : Nat → Array Value} (hL : ∀ i, IsLeg (L i)) (r : Int) : ∀ n, st (fre L) r n = ⟨(st L r n).sc, (st L r n).lg, (st L r n).sh, 0⟩
  | 0 => rfl
  | n + 1 => by
    rw [st_stp, st_stp, st_fre hL r n]
    have e1 : N (fre L n) 25 = N (L n) 25 := N_set_ne (by omega)
    have e2 : N (fre L n) 1 = N (L n) 1 := N_set_ne (by omega)
    have e3 : N (fre L n) 22 = 0 := N_seti (by rw [(hL n).size]; omega)
    have e4 : (fre L n).extract 6 22 = (L n).extract 6 22 := ext_set_out (by omega)
    unfold stp
    rw [e1, e2, e3, e4]
    split
    · rfl
    · apply r4_ext
      · rfl
      · rfl
      · rfl
      · simp
def tot (L : Nat → Array Value) : Nat → Int
  | 0 => 0
  | k + 1 => tot L k + wk (ls L k) (lq L k) 16
def scs (L : Nat → Array Value) (n : Nat) : Nat → Int
  | 0 => 0
  | r + 1 => scs L n r + (st L r n).sc
theorem wk_z (S : Array Value) : ∀ k, wk S 0 k = 0
  | 0 => rfl
  | k + 1 => by simp [wk, wk_z S k]
theorem scs_step (L : Nat → Array Value) (n : Nat) (h0 : 0 ≤ lr L n) : ∀ r : Nat, scs L (n + 1) r = scs L n r + if lr L n < r then wk (ls L n) (lq L n) 16 else 0
  | 0 => by simp [scs]; omega
  | r + 1 => by
    have hs : (st L r (n + 1)).sc = (st L r n).sc + if lr L n = r then wk (ls L n) (lq L n) 16 else 0 := by
      rw [st]
      by_cases e : lr L n = r
      · by_cases q : lq L n = 0
        · rw [if_pos (.inl q), if_pos e, q, wk_z]; omega
        · rw [if_neg (by simp [e, q]), if_pos e]
      · rw [if_pos (.inr e), if_neg e]; omega
    rw [scs, scs, scs_step L n h0 r, hs]
    by_cases e : lr L n = r
    · rw [if_neg (by omega), if_pos e, if_pos (by omega)]; omega
    · rw [if_neg e]
      by_cases e2 : lr L n < r
      · rw [if_pos e2, if_pos (by omega)]; omega
      · rw [if_neg e2, if_neg (by omega)]; omega
theorem scs_zero (L : Nat → Array Value) : ∀ r, scs L 0 r = 0
  | 0 => rfl
  | r + 1 => by rw [scs, scs_zero L r]; rfl
theorem scs_tot {L : Nat → Array Value} (hL : ∀ i, IsLeg (L i)) : ∀ n, okTo L n = true → scs L n 9 = tot L n
  | 0, _ => scs_zero L 9
  | n + 1, h => by
    have hr := (okLeg_facts (hL n) (okTo_at h (Nat.lt_succ_self n))).2.2.2
    rw [scs_step L n (by omega) 9, if_pos (by omega), scs_tot hL n (okTo_mono h (by omega)), tot]
theorem sum_fre {L : Nat → Array Value} (hL : ∀ i, IsLeg (L i)) (n : Nat) (h : okTo L n = true) : ∀ r, sumTo (fre L) n r = scs L n r ∧ sumTo L n r ≤ scs L n r
  | 0 => ⟨rfl, Int.le_refl _⟩
  | r + 1 => by
    obtain ⟨h1, h2⟩ := sum_fre hL n h r
    obtain ⟨⟨b1, _⟩, ⟨b2, _⟩, ⟨b3, _⟩, ⟨b4, _⟩⟩ := st_bd hL r n h
    have h5 : 0 ≤ min (st L r n).lg (st L r n).sh * (st L r n).rt := Int.mul_nonneg (by omega) (by omega)
    rw [sumTo, sumTo, scs, h1]
    constructor
    · rw [st_fre hL r n]
      unfold mg
      simp only [Int.mul_zero]
      omega
    · have : mg (st L r n) ≤ (st L r n).sc := by unfold mg; omega
      omega
theorem scan_leg {L : Nat → Array Value} {i : Nat} (hL : IsLeg (L i)) (h : okLeg L i = true) : scN (ls L i) (lq L i) = wk (ls L i) (lq L i) 16 ∧ scE (ls L i) (lq L i) = 0 := by
  obtain ⟨h1, h2, _⟩ := okLeg_facts hL h
  have h3 : inB (lq L i) (-1000000000) 1000000000 = true := inB_iff.2 (by omega)
  unfold scN scE
  rw [h1, h3]
  exact ⟨rfl, rfl⟩
theorem tot_bd {L : Nat → Array Value} (hL : ∀ i, IsLeg (L i)) : ∀ n, okTo L n = true → 0 ≤ tot L n ∧ tot L n ≤ n * 100000000000000
  | 0, _ => by simp [tot]
  | n + 1, h => by
    have ih := tot_bd hL n (okTo_mono h (by omega))
    obtain ⟨h1, h2, _⟩ := okLeg_facts (hL n) (okTo_at h (Nat.lt_succ_self n))
    have := wk_bd7 h2 h1 16 (by omega)
    rw [tot]
    omega
/-- a leg of 0 more -/
theorem sum_more {F : Nat → Array Value} {n : Nat} {x : Array Value} (hx : N x 25 = 0) : ∀ r, sumTo (snoc F n x) (n + 1) r = sumTo F n r
  | 0 => rfl
  | r + 1 => by
    rw [sumTo, sumTo, sum_more hx r, st_snoc]
    rw [show stp x (r : Int) (st F r n) = st F r n by unfold stp; rw [if_pos (.inl hx)]]
/-- those of the first k without credits -/
def mix (L : Nat → Array Value) (k : Nat) : Nat → Array Value := fun i => if i < k then fre L i else L i
theorem mix_leg {L : Nat → Array Value} (h : ∀ i, IsLeg (L i)) (k i : Nat) : IsLeg (mix L k i) := by
  unfold mix; split
  · exact fre_leg h i
  · exact h i
end Go.Proofs.Ytodbbcagpfjieaa
