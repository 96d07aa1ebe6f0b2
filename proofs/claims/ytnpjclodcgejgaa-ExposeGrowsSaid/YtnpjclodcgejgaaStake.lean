/- What a stake is, and what its worst case comes to: plain readings, with their bounds. No condition. -/
import Derived.Test.YtnpjclodcgejgaaSeq
namespace Go.Proofs.Ytnpjclodcgejgaa
set_option linter.unusedVariables false
set_option linter.unusedSimpArgs false
open Go.RowKit

structure IsOrd (A : Array Value) : Prop where
  size : A.size = 5
  n : IsN A .u64 0
  a : IsN A .u32 1
  b : IsB A 2
  p : IsN A .i64 3
  l : IsN A .i64 4
theorem IsOrd.all {A : Array Value} (h : IsOrd A) : A.all (·.oneCell') = true := all_one fun i v hv => by
  have hi : i < 5 := by have := (Array.getElem?_eq_some_iff.1 hv).1; have := h.size; omega
  have : i = 0 ∨ i = 1 ∨ i = 2 ∨ i = 3 ∨ i = 4 := by omega
  rcases this with rfl | rfl | rfl | rfl | rfl
  · exact h.n.one hv
  · exact h.a.one hv
  · exact h.b.one hv
  · exact h.p.one hv
  · exact h.l.one hv
/-- may the order be? -/
def okO (A : Array Value) : Bool := !decide (N A 0 = 0) && !decide (N A 1 = 0) && inB (N A 3) 1 10000000 && inB (N A 4) 1 1000000
def okOs (O : Nat → Array Value) : Nat → Bool
  | 0 => true
  | k + 1 => okOs O k && okO (O k)
theorem okOs_s (O : Nat → Array Value) (k : Nat) : okOs O (k + 1) = (okOs O k && okO (O k)) := rfl
theorem okOs_mono {O : Nat → Array Value} {k n : Nat} (h : okOs O n = true) (hk : k ≤ n) : okOs O k = true := by
  induction n with
  | zero => have : k = 0 := by omega
            subst this; exact h
  | succ n ih =>
    by_cases e : k = n + 1
    · subst e; exact h
    · exact ih (by simp [okOs] at h; exact h.1) (by omega)
theorem okO_facts {A : Array Value} (h : okO A = true) : (1 ≤ N A 3 ∧ N A 3 ≤ 10000000) ∧ 1 ≤ N A 4 ∧ N A 4 ≤ 1000000 := by
  simp only [okO, Bool.and_eq_true] at h
  exact ⟨inB_iff.1 h.1.2, inB_iff.1 h.2⟩
theorem okOs_at {O : Nat → Array Value} {k n : Nat} (h : okOs O n = true) (hk : k < n) : okO (O k) = true := by
  have h1 := okOs_mono h (show k + 1 ≤ n by omega)
  simp only [okOs, Bool.and_eq_true] at h1
  exact h1.2

/-- bought, sold, and what worse prices cost, by the first k orders -/
def bu (O : Nat → Array Value) : Nat → Int
  | 0 => 0
  | k + 1 => bu O k + if Bo (O k) 2 then N (O k) 4 else 0
def se (O : Nat → Array Value) : Nat → Int
  | 0 => 0
  | k + 1 => se O k + if Bo (O k) 2 then 0 else N (O k) 4
def ow (p : Int) (A : Array Value) : Int := max 0 (if Bo A 2 then N A 3 - p else p - N A 3) * N A 4
def wo (p : Int) (O : Nat → Array Value) : Nat → Int
  | 0 => 0
  | k + 1 => wo p O k + ow p (O k)
/-- a stake's worst case -/
def wc (T : Array Value) (q p : Int) (O : Nat → Array Value) (n : Nat) : Int :=
  wo p O n + max 0 (max (wk T (q + bu O n) 16) (wk T (q - se O n) 16) - wk T q 16)

theorem ow_bd {p : Int} {A : Array Value} (hp : 1 ≤ p ∧ p ≤ 10000000) (h : okO A = true) : 0 ≤ ow p A ∧ ow p A ≤ 9999999000000 := by
  obtain ⟨⟨h1, h2⟩, h3, h4⟩ := okO_facts h
  unfold ow
  have hx : 0 ≤ max 0 (if Bo A 2 then N A 3 - p else p - N A 3) ∧ max 0 (if Bo A 2 then N A 3 - p else p - N A 3) ≤ 9999999 := by
    split <;> omega
  generalize max 0 (if Bo A 2 then N A 3 - p else p - N A 3) = x at hx
  refine ⟨Int.mul_nonneg hx.1 (by omega), ?_⟩
  have := Int.mul_le_mul hx.2 h4 (by omega) (by omega)
  omega
theorem o_bd {p : Int} {O : Nat → Array Value} (hp : 1 ≤ p ∧ p ≤ 10000000) : ∀ k, okOs O k = true → (0 ≤ bu O k ∧ 0 ≤ se O k ∧ bu O k + se O k ≤ k * 1000000) ∧ 0 ≤ wo p O k ∧ wo p O k ≤ k * 9999999000000
  | 0, _ => by simp [bu, se, wo]
  | k + 1, h => by
    rw [okOs_s, Bool.and_eq_true] at h
    have ih := o_bd hp k h.1
    have h1 := okO_facts h.2
    have h2 := ow_bd hp h.2
    simp only [bu, se, wo]
    split <;> omega

/-! scans of sums -/
theorem wk_nn (S : Array Value) (q : Int) : ∀ k, 0 ≤ wk S q k
  | 0 => by simp [wk]
  | k + 1 => by have := wk_nn S q k; simp only [wk]; omega
theorem wk_add (S : Array Value) (q r : Int) : ∀ k, wk S (q + r) k ≤ wk S q k + wk S r k
  | 0 => by simp [wk]
  | k + 1 => by
    have ih := wk_add S q r k
    have h1 := wk_nn S q k
    have h2 := wk_nn S r k
    simp only [wk]
    have : (q + r) * N S k = q * N S k + r * N S k := Int.add_mul ..
    omega
theorem wk_le {S : Array Value} {q : Int} (hs : swTo S 16 = true) {m : Nat} (hq : -(m : Int) ≤ q ∧ q ≤ m) : ∀ k, k ≤ 16 → wk S q k ≤ m * 10000000
  | 0, _ => by simp [wk]; omega
  | k + 1, hk => by
    have ih := wk_le hs hq k (by omega)
    have hb := swTo_at hs (show k < 16 by omega)
    simp only [wk]
    have h3 : (q * N S k).natAbs = q.natAbs * (N S k).natAbs := Int.natAbs_mul q _
    have h4 : q.natAbs * (N S k).natAbs ≤ m * 10000000 := Nat.mul_le_mul (by omega) (by omega)
    omega
theorem wc_bd {T : Array Value} {q p : Int} {O : Nat → Array Value} {n : Nat} (hT : swTo T 16 = true) (hp : 1 ≤ p ∧ p ≤ 10000000) (hO : okOs O n = true) (hn : n ≤ 250) :
    0 ≤ wc T q p O n ∧ wc T q p O n ≤ n * 9999999000000 + n * 10000000000000 := by
  have h := o_bd hp n hO
  have h1 := wk_add T q (bu O n) 16
  have h2 := wk_add T q (-(se O n)) 16
  have h3 := wk_le (q := bu O n) (m := n * 1000000) hT (by omega) 16 (by omega)
  have h4 := wk_le (q := -(se O n)) (m := n * 1000000) hT (by omega) 16 (by omega)
  have h5 := wk_nn T q 16
  rw [show q + -(se O n) = q - se O n by omega] at h2
  unfold wc
  omega

/-! a stake: its first 28 cells, and where its orders are told -/
structure IsStk (A : Array Value) : Prop where
  size : A.size = 29
  leg : IsLeg (A.extract 0 26)
  b : IsN A .i64 26
  p : IsN A .i64 27
  s : ∃ a n c, A[28]? = some (.slice a n c)
/-- may a stake be? -/
def okK (A : Array Value) (O : Nat → Array Value) (n : Nat) : Bool := mayB (A.extract 0 25) && inB (N A 25) (-10000000) 10000000 && inB (N A 26) (-1000000000000000) 1000000000000000 && prB (N A 2) (N A 27) && decide (n ≤ 250) && okOs O n
/-- the stakes' sums -/
def kw (A : Array Value) (O : Nat → Array Value) (n : Nat) : Int := wc (A.extract 6 22) (N A 25) (N A 27) O n
def ku (A : Array Value) : Int := N A 26 - N A 25 * N A 27
def okKs (S : Nat → Array Value) (O : Nat → Nat → Array Value) (m : Nat → Nat) : Nat → Bool
  | 0 => true
  | k + 1 => okKs S O m k && okK (S k) (O k) (m k)
def sW (S : Nat → Array Value) (O : Nat → Nat → Array Value) (m : Nat → Nat) : Nat → Int
  | 0 => 0
  | k + 1 => sW S O m k + kw (S k) (O k) (m k)
def sU (S : Nat → Array Value) : Nat → Int
  | 0 => 0
  | k + 1 => sU S k + ku (S k)
def lg (S : Nat → Array Value) : Nat → Array Value := fun i => (S i).extract 0 26
theorem okKs_s (S : Nat → Array Value) (O : Nat → Nat → Array Value) (m : Nat → Nat) (k : Nat) : okKs S O m (k + 1) = (okKs S O m k && okK (S k) (O k) (m k)) := rfl
theorem okKs_mono {S : Nat → Array Value} {O : Nat → Nat → Array Value} {m : Nat → Nat} {k n : Nat} (h : okKs S O m n = true) (hk : k ≤ n) : okKs S O m k = true := by
  induction n with
  | zero => have : k = 0 := by omega
            subst this; exact h
  | succ n ih =>
    by_cases e : k = n + 1
    · subst e; exact h
    · exact ih (by rw [okKs_s, Bool.and_eq_true] at h; exact h.1) (by omega)
theorem okKs_at {S : Nat → Array Value} {O : Nat → Nat → Array Value} {m : Nat → Nat} {k n : Nat} (h : okKs S O m n = true) (hk : k < n) : okK (S k) (O k) (m k) = true := by
  have h1 := okKs_mono h (show k + 1 ≤ n by omega)
  rw [okKs_s, Bool.and_eq_true] at h1
  exact h1.2
theorem okK_ok {A : Array Value} {O : Nat → Array Value} {n : Nat} (h : IsStk A) (ho : okK A O n = true) : okA (A.extract 0 26) = true := by
  simp only [okK, Bool.and_eq_true] at ho
  unfold okA
  rw [N_extract (by have := h.size; omega) (by omega), Array.extract_extract]
  simp [ho.1.1.1.1.1, ho.1.1.1.1.2]
theorem okKs_ok {S : Nat → Array Value} {O : Nat → Nat → Array Value} {m : Nat → Nat} (hS : ∀ i, IsStk (S i)) : ∀ n, okKs S O m n = true → okTo (lg S) n = true
  | 0, _ => rfl
  | n + 1, h => by
    rw [okKs_s, Bool.and_eq_true] at h
    rw [okTo_s, okKs_ok hS n h.1, show lg S n = (S n).extract 0 26 from rfl, okK_ok (hS n) h.2]
    rfl
structure KFacts (A : Array Value) (O : Nat → Array Value) (n : Nat) : Prop where
  may : mayB (A.extract 0 25) = true
  sw : swTo (A.extract 6 22) 16 = true
  q : -10000000 ≤ N A 25 ∧ N A 25 ≤ 10000000
  b : -1000000000000000 ≤ N A 26 ∧ N A 26 ≤ 1000000000000000
  p : 1 ≤ N A 27 ∧ N A 27 ≤ 10000000
  le : n ≤ 250
  o : okOs O n = true
  w : 0 ≤ kw A O n ∧ kw A O n ≤ n * 19999999000000
  u : -1100000000000000 ≤ ku A ∧ ku A ≤ 1100000000000000
theorem okK_facts {A : Array Value} {O : Nat → Array Value} {n : Nat} (h : IsStk A) (ho : okK A O n = true) : KFacts A O n := by
  have hk := okK_ok h ho
  have hf := okLeg_facts (L := fun _ => A.extract 0 26) (i := 0) h.leg hk
  simp only [okK, Bool.and_eq_true, prB, decide_eq_true_eq] at ho
  obtain ⟨⟨⟨⟨⟨h1, h2⟩, h3⟩, h4, h5⟩, h6⟩, h7⟩ := ho
  have hs : swTo (A.extract 6 22) 16 = true := by
    have := hf.1
    rw [show ls (fun _ => A.extract 0 26) 0 = A.extract 6 22 by unfold ls; rw [Array.extract_extract]; congr 1] at this
    exact this
  have hp := inB_iff.1 h4
  have hq := inB_iff.1 h2
  have hb := inB_iff.1 h3
  have hw := wc_bd (T := A.extract 6 22) (q := N A 25) (p := N A 27) hs hp h7 h6
  have hm := prod_bd7 hq (s := N A 27) (by omega)
  exact ⟨h1, hs, hq, hb, hp, h6, h7, by unfold kw; omega, by unfold ku; omega⟩
theorem s_bd {S : Nat → Array Value} {O : Nat → Nat → Array Value} {m : Nat → Nat} (hS : ∀ i, IsStk (S i)) : ∀ n, okKs S O m n = true → (0 ≤ sW S O m n ∧ sW S O m n ≤ n * 4999999750000000) ∧ -(n * 1100000000000000 : Int) ≤ sU S n ∧ sU S n ≤ n * 1100000000000000
  | 0, _ => by simp [sW, sU]
  | n + 1, h => by
    rw [okKs_s, Bool.and_eq_true] at h
    have ih := s_bd hS n h.1
    obtain ⟨_, _, _, _, _, h6, _, hw, hu⟩ := okK_facts (hS n) h.2
    simp only [sW, sU]
    omega

/-- what Need answers: 0 or its numbers -/
def nE (S : Nat → Array Value) (O : Nat → Nat → Array Value) (m : Nat → Nat) (n : Nat) : Int := if 16 < n then 3 else if okKs S O m n then (if onceTo (lg S) n then 0 else 8) else 2
def nM (S : Nat → Array Value) (O : Nat → Nat → Array Value) (m : Nat → Nat) (n : Nat) : Int := if nE S O m n = 0 then sumTo (lg S) n 9 else 0
def nW (S : Nat → Array Value) (O : Nat → Nat → Array Value) (m : Nat → Nat) (n : Nat) : Int := if nE S O m n = 0 then sW S O m n else 0
def nU (S : Nat → Array Value) (O : Nat → Nat → Array Value) (m : Nat → Nat) (n : Nat) : Int := if nE S O m n = 0 then max 0 (sU S n) else 0
def need (S : Nat → Array Value) (O : Nat → Nat → Array Value) (m : Nat → Nat) (n : Nat) : Array Value := #[.int .i64 (nM S O m n), .int .i64 (nW S O m n), .int .i64 (nU S O m n)]
theorem need_not {S : Nat → Array Value} {O : Nat → Nat → Array Value} {m : Nat → Nat} {n : Nat} (h : nE S O m n ≠ 0) : need S O m n = #[.int .i64 0, .int .i64 0, .int .i64 0] := by
  simp [need, nM, nW, nU, h]
theorem need_ok {S : Nat → Array Value} {O : Nat → Nat → Array Value} {m : Nat → Nat} {n : Nat} (h : nE S O m n = 0) : need S O m n = #[.int .i64 (sumTo (lg S) n 9), .int .i64 (sW S O m n), .int .i64 (max 0 (sU S n))] := by
  simp [need, nM, nW, nU, h]
theorem nE_zero {S : Nat → Array Value} {O : Nat → Nat → Array Value} {m : Nat → Nat} {n : Nat} (h : nE S O m n = 0) : n ≤ 16 ∧ okKs S O m n = true ∧ onceTo (lg S) n = true := by
  unfold nE at h
  split at h
  · cases h
  · rename_i h1
    split at h
    · rename_i h2
      split at h
      · rename_i h3
        exact ⟨by omega, h2, h3⟩
      · cases h
    · cases h

/-! where stakes and orders lie -/
def Ords (w : World) (a : Option Addr) (n : Nat) (O : Nat → Array Value) : Prop :=
  ∀ i, i < n → ∃ g off A t fr, a = some ⟨g, off, none⟩ ∧ w.heap[g]? = some (.cells A t fr) ∧ off + i * 5 + 5 ≤ A.size ∧ A.extract (off + i * 5) (off + i * 5 + 5) = O i
theorem Ords.kept {w w1 : World} {a : Option Addr} {n : Nat} {L : Nat → Array Value} (h : Ords w a n L) (hb : Below w.heap.size w w1) : Ords w1 a n L := fun i hi => by
  obtain ⟨g, off, A, t, fr, h1, h2, h3, h4⟩ := h i hi
  exact ⟨g, off, A, t, fr, h1, Ytnpjclodcgejgaa.kept hb h2, h3, h4⟩
theorem Ords.congr {w : World} {a : Option Addr} {n : Nat} {L L' : Nat → Array Value} (h : Ords w a n L) (e : ∀ i, i < n → L i = L' i) : Ords w a n L' := fun i hi => by
  rw [← e i hi]; exact h i hi
structure Stks (w : World) (a : Option Addr) (n : Nat) (S : Nat → Array Value) (O : Nat → Nat → Array Value) (m : Nat → Nat) : Prop where
  at_ : ∀ i, i < n → ∃ g off A t fr, a = some ⟨g, off, none⟩ ∧ w.heap[g]? = some (.cells A t fr) ∧ off + i * 29 + 29 ≤ A.size ∧ A.extract (off + i * 29) (off + i * 29 + 29) = S i
  or : ∀ i, i < n → ∃ ad c, (S i)[28]? = some (.slice ad (m i) c) ∧ Ords w ad (m i) (O i) ∧ m i ≤ c ∧ c ≤ 9223372036854775807 ∧ (ad = none → m i = 0 ∧ c = 0)
theorem Stks.kept {w w1 : World} {a : Option Addr} {n : Nat} {S : Nat → Array Value} {O : Nat → Nat → Array Value} {m : Nat → Nat} (h : Stks w a n S O m) (hb : Below w.heap.size w w1) : Stks w1 a n S O m where
  at_ := fun i hi => by
    obtain ⟨g, off, A, t, fr, h1, h2, h3, h4⟩ := h.at_ i hi
    exact ⟨g, off, A, t, fr, h1, Ytnpjclodcgejgaa.kept hb h2, h3, h4⟩
  or := fun i hi => by
    obtain ⟨ad, c, h1, h2, h3⟩ := h.or i hi
    exact ⟨ad, c, h1, h2.kept hb, h3⟩
end Go.Proofs.Ytnpjclodcgejgaa
