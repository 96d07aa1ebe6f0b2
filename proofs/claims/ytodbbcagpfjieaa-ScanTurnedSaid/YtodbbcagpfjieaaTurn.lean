/- Legs with their quantity and their shifts turned: the same margin. Plain; no condition but that the numbers fit their kinds. -/
import Derived.Test.YtodbbcagpfjieaaRowed
namespace Go.Proofs.Ytodbbcagpfjieaa
set_option linter.unusedVariables false
set_option linter.unusedSimpArgs false
open Go.RowKit

/-- a leg with its quantity and its first j shifts turned -/
def ts (x : Array Value) : Nat → Array Value
  | 0 => x.setIfInBounds 25 (.int .i64 (-(N x 25)))
  | j + 1 => (ts x j).setIfInBounds (6 + j) (.int .i64 (-(N x (6 + j))))
def trn (x : Array Value) : Array Value := ts x 16
/-- may it be turned, its first j shifts? -/
def gd (x : Array Value) (j : Nat) : Prop := -10000000 ≤ N x 25 ∧ ∀ i, i < j → -10000000 ≤ N x (6 + i)
theorem ts_leg {x : Array Value} (h : IsLeg x) : ∀ j, j ≤ 16 → gd x j → IsLeg (ts x j)
  | 0, _, hg => h.set (by omega) (by have := hg.1; have := h.q.i64; omega)
  | j + 1, hj, hg => by
    have ih := ts_leg h j (by omega) ⟨hg.1, fun i hi => hg.2 i (by omega)⟩
    have h1 := (ls_sh (L := fun _ => x) (i := 0) h).c j (by omega)
    have h2 := hg.2 j (by omega)
    have h3 : N x (6 + j) ≤ 9223372036854775807 := by
      have h4 := h1.i64.2.2
      rw [show ls (fun _ => x) 0 = x.extract 6 22 from rfl, N_extract (by have := h.size; omega) (by omega)] at h4
      exact h4
    exact ih.set (by omega) (by omega)
theorem ts_size {x : Array Value} (h : IsLeg x) : ∀ j, (ts x j).size = 26
  | 0 => by unfold ts; simpa using h.size
  | j + 1 => by unfold ts; simpa using ts_size h j
theorem ts_q {x : Array Value} (h : IsLeg x) : ∀ j, j ≤ 16 → N (ts x j) 25 = -(N x 25)
  | 0, _ => by unfold ts; exact N_seti (by rw [h.size]; omega)
  | j + 1, hj => by unfold ts; rw [N_set_ne (by omega)]; exact ts_q h j (by omega)
theorem ts_rest {x : Array Value} (i : Nat) (hi : i < 6 ∨ 22 ≤ i) (hi2 : i ≠ 25) : ∀ j, j ≤ 16 → N (ts x j) i = N x i
  | 0, _ => by unfold ts; exact N_set_ne (by omega)
  | j + 1, hj => by unfold ts; rw [N_set_ne (by omega)]; exact ts_rest i hi hi2 j (by omega)
theorem ts_later {x : Array Value} (i : Nat) : ∀ j, j ≤ i → i < 16 → N (ts x j) (6 + i) = N x (6 + i)
  | 0, _, hi => by unfold ts; exact N_set_ne (by omega)
  | j + 1, hj, hi => by unfold ts; rw [N_set_ne (by omega)]; exact ts_later i j (by omega) hi
theorem ts_sh {x : Array Value} (h : IsLeg x) (i : Nat) : ∀ j, i < j → j ≤ 16 → N (ts x j) (6 + i) = -(N x (6 + i))
  | 0, hi, _ => by omega
  | j + 1, hi, hj => by
    unfold ts
    by_cases e : i = j
    · subst e; exact N_seti (by rw [ts_size h]; omega)
    · rw [N_set_ne (by omega)]; exact ts_sh h i j (by omega) (by omega)

theorem inB_neg (x b : Int) : inB (-x) (-b) b = inB x (-b) b := by
  rw [Bool.eq_iff_iff, inB_iff, inB_iff]; omega
theorem sh_neg {A B : Array Value} : ∀ k, (∀ i, i < k → N B (6 + i) = -(N A (6 + i))) → shTo B k = shTo A k ∧ upTo B k = dnTo A k ∧ dnTo B k = upTo A k
  | 0, _ => ⟨rfl, rfl, rfl⟩
  | k + 1, h => by
    obtain ⟨h1, h2, h3⟩ := sh_neg k (fun i hi => h i (by omega))
    have hk := h k (by omega)
    refine ⟨?_, ?_, ?_⟩
    · rw [shTo, shTo, h1, hk]; congr 1; exact inB_neg _ 10000000
    · rw [upTo, dnTo, h2, hk]; congr 1; rw [decide_eq_decide]; omega
    · rw [dnTo, upTo, h3, hk]; congr 1; rw [decide_eq_decide]; omega
theorem okA_trn {x : Array Value} (h : IsLeg x) (hg : gd x 16) : okA (trn x) = okA x := by
  have h' : IsLeg (trn x) := ts_leg h 16 (by omega) hg
  unfold okA
  rw [show N (trn x) 25 = -(N x 25) from ts_q h 16 (by omega), inB_neg]
  suffices hk : mayB ((trn x).extract 0 25) = mayB (x.extract 0 25) by rw [hk]
  obtain ⟨h1, h2, h3⟩ := sh_neg (A := x.extract 0 25) (B := (trn x).extract 0 25) 16 (fun i hi => by
    rw [Nx h' (by omega), Nx h (by omega)]; exact ts_sh h i 16 (by omega) (by omega))
  have e : ∀ i, i < 25 → i < 6 ∨ 22 ≤ i → N ((trn x).extract 0 25) i = N (x.extract 0 25) i := fun i hi h6 => by
    rw [Nx h' hi, Nx h hi]; exact ts_rest i h6 (by omega) 16 (by omega)
  have e0 := e 0 (by omega) (by omega)
  have e1 := e 1 (by omega) (by omega)
  have e2 := e 2 (by omega) (by omega)
  have e3 := e 3 (by omega) (by omega)
  have e4 := e 4 (by omega) (by omega)
  have e5 := e 5 (by omega) (by omega)
  have e22 := e 22 (by omega) (by omega)
  have e24 := e 24 (by omega) (by omega)
  clear e
  generalize (trn x).extract 0 25 = B at *
  generalize x.extract 0 25 = A at *
  unfold mayB
  rw [h1, h2, h3, e0, e1, e2, e3, e4, e5, e22, e24]
  generalize shTo A 16 = b1
  generalize upTo A 16 = b2
  generalize dnTo A 16 = b3
  rw [Bool.and_right_comm b1 b3 b2]

def sw (s : R4) : R4 := ⟨s.sc, s.sh, s.lg, s.rt⟩
theorem wk_neg {S T : Array Value} (q : Int) : ∀ k, (∀ i, i < k → N T i = -(N S i)) → wk T (-q) k = wk S q k
  | 0, _ => rfl
  | k + 1, h => by
    rw [wk, wk, wk_neg q k (fun i hi => h i (by omega)), h k (by omega), Int.neg_mul_neg]
theorem stp_trn {x : Array Value} (h : IsLeg x) (hg : gd x 16) (r : Int) (s : R4) : stp (trn x) r (sw s) = sw (stp x r s) := by
  have h' : IsLeg (trn x) := ts_leg h 16 (by omega) hg
  unfold stp
  rw [show N (trn x) 25 = -(N x 25) from ts_q h 16 (by omega), show N (trn x) 1 = N x 1 from ts_rest 1 (by omega) (by omega) 16 (by omega), show N (trn x) 22 = N x 22 from ts_rest 22 (by omega) (by omega) 16 (by omega)]
  rw [wk_neg (S := x.extract 6 22) (N x 25) 16 (fun i hi => by
    rw [N_extract (by have := h'.size; omega) (by omega), N_extract (by have := h.size; omega) (by omega)]
    exact ts_sh h i 16 (by omega) (by omega))]
  by_cases e : N x 25 = 0 ∨ N x 1 ≠ r
  · rw [if_pos e, if_pos (by omega)]
  · rw [if_neg e, if_neg (by omega)]
    unfold sw
    apply r4_ext
    · rfl
    · rfl
    · simp only; omega
    · simp only
      by_cases c : s.lg = 0 ∧ s.sh = 0
      · rw [if_pos (.inl ⟨c.2, c.1⟩), if_pos (.inl c)]
      · rw [if_neg_or (fun c' => c ⟨c'.2, c'.1⟩), if_neg_or c]
theorem mg_sw (s : R4) : mg (sw s) = mg s := by
  unfold mg sw
  simp only
  rw [Int.min_comm]

/-- those of the first k turned -/
def mixT (L : Nat → Array Value) (k : Nat) : Nat → Array Value := fun i => if i < k then trn (L i) else L i
def gds (L : Nat → Array Value) (k : Nat) : Prop := ∀ i, i < k → gd (L i) 16
theorem mixT_leg {L : Nat → Array Value} {k : Nat} (h : ∀ i, IsLeg (L i)) (hg : gds L k) (i : Nat) : IsLeg (mixT L k i) := by
  unfold mixT; split
  · rename_i hi; exact ts_leg (h i) 16 (by omega) (hg i hi)
  · exact h i
theorem st_trn {L : Nat → Array Value} {n : Nat} (h : ∀ i, IsLeg (L i)) (hg : gds L n) (r : Int) : ∀ k, k ≤ n → st (mixT L n) r k = sw (st L r k)
  | 0, _ => rfl
  | k + 1, hk => by
    rw [st_stp, st_stp, st_trn h hg r k (by omega), show mixT L n k = trn (L k) by unfold mixT; rw [if_pos (by omega)], stp_trn (h k) (hg k (by omega))]
theorem m_trn {L : Nat → Array Value} {n : Nat} (h : ∀ i, IsLeg (L i)) (hg : gds L n) : mN (mixT L n) n = mN L n ∧ mE (mixT L n) n = mE L n := by
  have h1 : okTo (mixT L n) n = okTo L n := by
    rw [Bool.eq_iff_iff, okTo_iff, okTo_iff]
    constructor
    · intro h2 i hi
      have := h2 i hi
      rwa [show mixT L n i = trn (L i) by unfold mixT; rw [if_pos hi], okA_trn (h i) (hg i hi)] at this
    · intro h2 i hi
      rw [show mixT L n i = trn (L i) by unfold mixT; rw [if_pos hi], okA_trn (h i) (hg i hi)]
      exact h2 i hi
  have e0 : ∀ i, N (mixT L n i) 0 = N (L i) 0 := fun i => by
    unfold mixT; split
    · exact ts_rest 0 (by omega) (by omega) 16 (by omega)
    · rfl
  have h2 : onceTo (mixT L n) n = onceTo L n := by
    rw [Bool.eq_iff_iff, onceTo_iff, onceTo_iff]
    simp only [e0]
  have h3 : sumTo (mixT L n) n 9 = sumTo L n 9 := sumTo_congr (fun r => by rw [st_trn h hg r n (by omega), mg_sw]) 9
  unfold mN mE
  rw [h1, h2, h3]
  exact ⟨rfl, rfl⟩
/-- the k-th under way -/
def midT (L : Nat → Array Value) (k j : Nat) : Nat → Array Value := fun i => if i = k then ts (L k) j else mixT L k i
theorem midT_start (L : Nat → Array Value) (k i : Nat) : (if i = k then (mixT L k k).setIfInBounds 25 (.int .i64 (-(N (L k) 25))) else mixT L k i) = midT L k 0 i := by
  unfold midT
  by_cases e : i = k
  · subst e; rw [if_pos rfl, if_pos rfl]; unfold mixT; rw [if_neg (by omega)]; rfl
  · rw [if_neg e, if_neg e]
theorem midT_next (L : Nat → Array Value) (k j i : Nat) : (if i = k then (midT L k j k).setIfInBounds (6 + j) (.int .i64 (-(N (L k) (6 + j)))) else midT L k j i) = midT L k (j + 1) i := by
  unfold midT
  by_cases e : i = k
  · subst e; rw [if_pos rfl, if_pos rfl, if_pos rfl]; rfl
  · rw [if_neg e, if_neg e, if_neg e]
theorem midT_end (L : Nat → Array Value) (k i : Nat) : midT L k 16 i = mixT L (k + 1) i := by
  unfold midT mixT
  by_cases e : i = k
  · subst e; rw [if_pos rfl, if_pos (by omega)]; rfl
  · rw [if_neg e]
    by_cases h : i < k
    · rw [if_pos h, if_pos (by omega)]
    · rw [if_neg h, if_neg (by omega)]
theorem Own.set2 {w w' : World} {base n g i j : Nat} {L : Nat → Array Value} {v : Value} (h : Own w base (some ⟨g, 0, none⟩) n L) (hi : i < n) (hj : j < 26) (hw : w' = w.setCell ⟨g, i * 26 + j, none⟩ v) :
    Own w' base (some ⟨g, 0, none⟩) n (fun k => if k = i then (L i).setIfInBounds j v else L k) := by
  subst hw
  rcases h with h | ⟨g', cur, h1, h2, hg, hs, he⟩
  · omega
  · injection h1 with h1
    injection h1 with h1
    subst h1
    refine .inr ⟨_, _, rfl, h2, heap_set hg, by simpa using hs, fun k hk => ?_⟩
    simp only
    by_cases e : k = i
    · subst e
      rw [if_pos rfl, ext_set_mid (by omega) (by omega) (by omega), he k hk, show k * 26 + j - k * 26 = j by omega]
    · rw [if_neg e, ext_set_out (by omega), he k hk]
end Go.Proofs.Ytodbbcagpfjieaa
