/- What stakes need without orders, and with one order more: in plain words. No condition. -/
import Derived.Test.YtnpjclodcgejgaaNeedsW
import Derived.Test.YtnpjclodcgejgaaCovers
namespace Go.Proofs.Ytnpjclodcgejgaa
set_option linter.unusedVariables false
set_option linter.unusedSimpArgs false
open Go.RowKit

theorem bu_congr {O O' : Nat → Array Value} : ∀ n, (∀ i, i < n → O' i = O i) → bu O' n = bu O n ∧ se O' n = se O n
  | 0, _ => ⟨rfl, rfl⟩
  | n + 1, h => by
    obtain ⟨h1, h2⟩ := bu_congr n (fun i hi => h i (by omega))
    rw [bu, bu, se, se, h1, h2, h n (by omega)]
    exact ⟨rfl, rfl⟩
theorem wo_congr {p : Int} {O O' : Nat → Array Value} : ∀ n, (∀ i, i < n → O' i = O i) → wo p O' n = wo p O n
  | 0, _ => rfl
  | n + 1, h => by rw [wo, wo, wo_congr n (fun i hi => h i (by omega)), h n (by omega)]
theorem wc_more {T : Array Value} {q p : Int} {O O' : Nat → Array Value} {n : Nat} (hp : 1 ≤ p ∧ p ≤ 10000000) (hO : okOs O' (n + 1) = true) (he : ∀ i, i < n → O' i = O i) : wc T q p O n ≤ wc T q p O' (n + 1) := by
  obtain ⟨e1, e2⟩ := bu_congr n he
  have e3 := wo_congr (p := p) n he
  obtain ⟨h1, h2, h3⟩ := o_mono hp (k := n) (n + 1) hO (by omega)
  rw [e1] at h1
  rw [e2] at h2
  rw [e3] at h3
  have b1 := (o_bd hp (n + 1) hO).1
  have b0 := (o_bd hp n (okOs_mono hO (by omega))).1
  rw [e1, e2] at b0
  have m1 := wk_mid T (a := q - se O' (n + 1)) (b := q + bu O' (n + 1)) (x := q + bu O n) (by omega) (by omega) 16
  have m2 := wk_mid T (a := q - se O' (n + 1)) (b := q + bu O' (n + 1)) (x := q - se O n) (by omega) (by omega) 16
  unfold wc
  omega
theorem wc_none (T : Array Value) (q p : Int) (O : Nat → Array Value) : wc T q p O 0 = 0 := by
  unfold wc bu se wo
  simp
theorem okK_none {A : Array Value} {O : Nat → Array Value} {n : Nat} (h : okK A O n = true) : okK A O 0 = true := by
  unfold okK at h ⊢
  simp only [Bool.and_eq_true] at h ⊢
  obtain ⟨⟨h1, _⟩, _⟩ := h
  exact ⟨⟨h1, by decide⟩, rfl⟩
theorem okKs_none {S : Nat → Array Value} {O : Nat → Nat → Array Value} {m : Nat → Nat} : ∀ n, okKs S O m n = true → okKs S O (fun _ => 0) n = true
  | 0, _ => rfl
  | n + 1, h => by
    rw [okKs_s, Bool.and_eq_true] at h ⊢
    exact ⟨okKs_none n h.1, okK_none h.2⟩
theorem sW_none {S : Nat → Array Value} {O : Nat → Nat → Array Value} : ∀ n, sW S O (fun _ => 0) n = 0
  | 0 => rfl
  | n + 1 => by rw [sW, sW_none n]; unfold kw; rw [wc_none]; rfl
theorem need_none {S : Nat → Array Value} {O : Nat → Nat → Array Value} {m : Nat → Nat} {n : Nat} (h : nE S O m n = 0) : nE S O (fun _ => 0) n = 0 ∧ nM S O (fun _ => 0) n = nM S O m n ∧ nW S O (fun _ => 0) n = 0 ∧ nU S O (fun _ => 0) n = nU S O m n := by
  obtain ⟨h1, h2, h3⟩ := nE_zero h
  have h0 : nE S O (fun _ => 0) n = 0 := by
    unfold nE
    rw [if_neg (by omega), okKs_none n h2, h3]
    rfl
  refine ⟨h0, ?_, ?_, ?_⟩
  · unfold nM; rw [if_pos h0, if_pos h]
  · unfold nW; rw [if_pos h0, sW_none]
  · unfold nU; rw [if_pos h0, if_pos h]
/-- with one order more at k -/
def mk1 (m : Nat → Nat) (k : Nat) : Nat → Nat := fun i => if i = k then m k + 1 else m i
def Ok1 (O : Nat → Nat → Array Value) (m : Nat → Nat) (k : Nat) (x : Array Value) : Nat → Nat → Array Value := fun i j => if i = k ∧ j = m k then x else O i j
theorem sW_more {S : Nat → Array Value} {O : Nat → Nat → Array Value} {m : Nat → Nat} {k : Nat} {x : Array Value} (hS : ∀ i, IsStk (S i)) : ∀ n, okKs S (Ok1 O m k x) (mk1 m k) n = true → sW S O m n ≤ sW S (Ok1 O m k x) (mk1 m k) n
  | 0, _ => by rw [sW, sW]; omega
  | n + 1, h => by
    rw [okKs_s, Bool.and_eq_true] at h
    have ih := sW_more hS n h.1
    have F := okK_facts (hS n) h.2
    rw [sW, sW]
    by_cases e : n = k
    · subst e
      have h2 := h.2
      rw [show mk1 m n n = m n + 1 by unfold mk1; rw [if_pos rfl]] at h2 ⊢
      unfold okK at h2
      simp only [Bool.and_eq_true] at h2
      have := wc_more (T := (S n).extract 6 22) (q := N (S n) 25) (p := N (S n) 27) (O := O n) (O' := Ok1 O m n x n) (n := m n) F.p h2.2 (fun i hi => by unfold Ok1; rw [if_neg (by omega)])
      unfold kw
      omega
    · rw [show mk1 m k n = m n by unfold mk1; rw [if_neg e]]
      have : kw (S n) (Ok1 O m k x n) (m n) = kw (S n) (O n) (m n) := by
        have he : ∀ i, Ok1 O m k x n i = O n i := fun i => by unfold Ok1; rw [if_neg (by omega)]
        have : Ok1 O m k x n = O n := funext he
        rw [this]
      omega
theorem need_more {S : Nat → Array Value} {O : Nat → Nat → Array Value} {m : Nat → Nat} {n k : Nat} {x : Array Value} (hS : ∀ i, IsStk (S i)) (h : nE S O m n = 0) (h1 : nE S (Ok1 O m k x) (mk1 m k) n = 0) :
    nM S (Ok1 O m k x) (mk1 m k) n = nM S O m n ∧ nU S (Ok1 O m k x) (mk1 m k) n = nU S O m n ∧ nW S O m n ≤ nW S (Ok1 O m k x) (mk1 m k) n := by
  obtain ⟨_, h2, _⟩ := nE_zero h1
  refine ⟨?_, ?_, ?_⟩
  · unfold nM; rw [if_pos h1, if_pos h]
  · unfold nU; rw [if_pos h1, if_pos h]
  · unfold nW; rw [if_pos h1, if_pos h]; exact sW_more hS n h2
/-- the routes' scans, each leg counted once -/
def scs (L : Nat → Array Value) (n : Nat) : Nat → Int
  | 0 => 0
  | r + 1 => scs L n r + (st L r n).sc
theorem wk_z (S : Array Value) : ∀ k, wk S 0 k = 0
  | 0 => rfl
  | k + 1 => by simp [wk, wk_z S k]
theorem scs_step (L : Nat → Array Value) (n : Nat) (h0 : 0 ≤ lr L n) : ∀ r : Nat, scs L (n + 1) r = scs L n r + if lr L n < r then wk (ls L n) (lq L n) 16 else 0
  | 0 => by simp [scs]; omega
  | r + 1 => by
    have hs : (st L r (n + 1)).sc = (st L r n).sc + if lr L n = r then wk (ls L n) (lq L n) 16 else 0 := by
      rw [st]
      by_cases e : lr L n = r
      · by_cases q : lq L n = 0
        · rw [if_pos (.inl q), if_pos e, q, wk_z]; omega
        · rw [if_neg (by simp [e, q]), if_pos e]
      · rw [if_pos (.inr e), if_neg e]; omega
    rw [scs, scs, scs_step L n h0 r, hs]
    by_cases e : lr L n = r
    · rw [if_neg (by omega), if_pos e, if_pos (by omega)]; omega
    · rw [if_neg e]
      by_cases e2 : lr L n < r
      · rw [if_pos e2, if_pos (by omega)]; omega
      · rw [if_neg e2, if_neg (by omega)]; omega
theorem scs_zero (L : Nat → Array Value) : ∀ r, scs L 0 r = 0
  | 0 => rfl
  | r + 1 => by rw [scs, scs_zero L r]; rfl
theorem scs_bd {L : Nat → Array Value} (hL : ∀ i, IsLeg (L i)) : ∀ n, okTo L n = true → scs L n 9 ≤ n * 100000000000000
  | 0, _ => by rw [scs_zero]; omega
  | n + 1, h => by
    obtain ⟨hw, hq, _, hr⟩ := okLeg_facts (hL n) (okTo_at h (Nat.lt_succ_self n))
    have ih := scs_bd hL n (okTo_mono h (by omega))
    have hb := wk_bd7 hq hw 16 (by omega)
    rw [scs_step L n (by omega) 9, if_pos (by omega)]
    omega
theorem sum_scs {L : Nat → Array Value} (hL : ∀ i, IsLeg (L i)) (n : Nat) (h : okTo L n = true) : ∀ r, sumTo L n r ≤ scs L n r
  | 0 => Int.le_refl _
  | r + 1 => by
    have h2 := sum_scs hL n h r
    obtain ⟨⟨b1, _⟩, ⟨b2, _⟩, ⟨b3, _⟩, ⟨b4, _⟩⟩ := st_bd hL r n h
    have h5 : 0 ≤ min (st L r n).lg (st L r n).sh * (st L r n).rt := Int.mul_nonneg (by omega) (by omega)
    rw [sumTo, scs]
    have : mg (st L r n) ≤ (st L r n).sc := by unfold mg; omega
    omega
/-- no part is below 0, and all together are within MaxMoney -/
theorem need_bd {S : Nat → Array Value} {O : Nat → Nat → Array Value} {m : Nat → Nat} {n : Nat} (hS : ∀ i, IsStk (S i)) (h : nE S O m n = 0) : 0 ≤ nM S O m n ∧ 0 ≤ nW S O m n ∧ 0 ≤ nU S O m n ∧ nM S O m n + nW S O m n + nU S O m n ≤ 100000000000000000 := by
  obtain ⟨h1, h2, h3⟩ := nE_zero h
  have hb := s_bd hS n h2
  have hok := okKs_ok hS n h2
  have hm := sum_bd (lgs hS) n hok h1 9
  have h4 := sum_scs (lgs hS) n hok 9
  have h5 := scs_bd (lgs hS) n hok
  unfold nM nW nU
  rw [if_pos h, if_pos h, if_pos h]
  omega
end Go.Proofs.Ytnpjclodcgejgaa
