/- An auction, plainly: bids by their prices and in their order, filled one behind the other. Nothing of the program is in it. -/
import Derived.Test.YtoglcgijgckdaaaSrt
namespace Go.Proofs.Ytoglcgijgckdaaa
set_option linter.unusedVariables false
set_option linter.unusedSimpArgs false

def sg (f : Nat → Int) : Nat → Int
  | 0 => 0
  | k + 1 => sg f k + f k
theorem sg_congr {f g : Nat → Int} : ∀ n, (∀ i, i < n → f i = g i) → sg f n = sg g n
  | 0, _ => rfl
  | n + 1, h => by rw [sg, sg, sg_congr n (fun i hi => h i (by omega)), h n (by omega)]
theorem sg_le {f g : Nat → Int} : ∀ n, (∀ i, i < n → f i ≤ g i) → sg f n ≤ sg g n
  | 0, _ => Int.le_refl _
  | n + 1, h => by
    rw [sg, sg]
    have := sg_le n (fun i hi => h i (by omega))
    have := h n (by omega)
    omega
theorem sg_zero (n : Nat) : sg (fun _ => 0) n = 0 := by
  induction n with
  | zero => rfl
  | succ n ih => rw [sg, ih]; rfl
theorem sg_pos {f : Nat → Int} (n : Nat) (h : ∀ i, i < n → 0 ≤ f i) : 0 ≤ sg f n := by
  have := sg_le n h
  rwa [sg_zero] at this
theorem sg_mono {f : Nat → Int} {k : Nat} : ∀ n, k ≤ n → (∀ i, k ≤ i → i < n → 0 ≤ f i) → sg f k ≤ sg f n
  | 0, hk, _ => by rw [Nat.le_zero.1 hk]; exact Int.le_refl _
  | n + 1, hk, h => by
    by_cases e : k = n + 1
    · subst e; exact Int.le_refl _
    · have := sg_mono (k := k) n (by omega) (fun i h1 h2 => h i h1 (by omega))
      have := h n (by omega) (by omega)
      rw [sg]; omega
theorem sg_add (f g : Nat → Int) : ∀ n, sg (fun i => f i + g i) n = sg f n + sg g n
  | 0 => rfl
  | n + 1 => by rw [sg, sg, sg, sg_add f g n]; omega
theorem sg_one {f : Nat → Int} {k : Nat} : ∀ n, k < n → (∀ i, i < n → i ≠ k → f i = 0) → sg f n = f k
  | 0, hk, _ => by omega
  | n + 1, hk, h => by
    rw [sg]
    by_cases e : k = n
    · subst e
      rw [sg_congr (g := fun _ => 0) k (fun i hi => h i (by omega) (by omega)), sg_zero]; omega
    · rw [sg_one n (by omega) (fun i hi => h i (by omega)), h n (by omega) (Ne.symm e)]; omega
theorem sg_swap (a : Nat → Nat → Int) (m : Nat) : ∀ n, sg (fun k => sg (fun i => a k i) m) n = sg (fun i => sg (fun k => a k i) n) m
  | 0 => by rw [sg]; exact (sg_zero m).symm
  | n + 1 => by
    rw [sg, sg_swap a m n, ← sg_add]
    exact sg_congr m (fun i _ => by rw [sg])
theorem PermOn.inv {n : Nat} {d : Nat → Nat} (h : PermOn 0 n id d) : ∃ t : Nat → Nat, (∀ k, d (t k) = k) ∧ (∀ k, t (d k) = k) ∧ (∀ k, k < n → t k < n) ∧ (∀ k, k < n → d k < n) := by
  obtain ⟨s, t, h1, h2, h3, h4⟩ := h
  have hd : ∀ k, d k = s k := h4
  have hs : ∀ k, k < n → s k < n := fun k hk => by
    apply Classical.byContradiction
    intro hn
    have h5 := h3 (s k) (by omega)
    have h6 := congrArg t h5
    rw [h2, h2] at h6
    omega
  have ht : ∀ k, k < n → t k < n := fun k hk => by
    apply Classical.byContradiction
    intro hn
    have h5 := h3 (t k) (by omega)
    rw [h1] at h5
    omega
  exact ⟨t, fun k => by rw [hd, h1], fun k => by rw [hd, h2], ht, fun k hk => by rw [hd]; exact hs k hk⟩
/-- in another order the sum is the same -/
theorem sg_perm {n : Nat} {d : Nat → Nat} (h : PermOn 0 n id d) (f : Nat → Int) : sg (fun k => f (d k)) n = sg f n := by
  obtain ⟨t, h1, h2, h3, h4⟩ := h.inv
  have e1 : sg (fun k => f (d k)) n = sg (fun k => sg (fun i => if d k = i then f i else 0) n) n := sg_congr n (fun k hk => by
    rw [sg_one (k := d k) n (h4 k hk) (fun i _ hne => if_neg (Ne.symm hne)), if_pos rfl])
  rw [e1, sg_swap]
  refine sg_congr n (fun i hi => ?_)
  rw [sg_one (k := t i) n (h3 i hi) (fun k _ hne => if_neg (fun e => hne (by rw [← e, h2])))]
  rw [if_pos (h1 i)]
/-- one order alone is by the keys -/
theorem srt_one {K : Nat → Int} {n : Nat} {d d' : Nat → Nat} (p : PermOn 0 n id d) (s : Srt K 0 n d) (p' : PermOn 0 n id d') (s' : Srt K 0 n d') : ∀ k, k < n → d k = d' k := by
  obtain ⟨t, a1, a2, a3, a4⟩ := p.inv
  obtain ⟨t', b1, b2, b3, b4⟩ := p'.inv
  intro k
  induction k using Nat.strongRecOn with
  | _ k ih =>
    intro hk
    have inj : ∀ i j, d i = d j → i = j := fun i j e => by have := congrArg t e; rwa [a2, a2] at this
    have inj' : ∀ i j, d' i = d' j → i = j := fun i j e => by have := congrArg t' e; rwa [b2, b2] at this
    apply Classical.byContradiction
    intro hne
    have hm := b3 (d k) (a4 k hk)
    have em := b1 (d k)
    have hm' := a3 (d' k) (b4 k hk)
    have em' := a1 (d' k)
    have m1 : k < t' (d k) := by
      rcases Nat.lt_trichotomy k (t' (d k)) with h | h | h
      · exact h
      · rw [← h] at em; exact absurd em.symm hne
      · have e2 := ih _ h (by omega)
        rw [em] at e2
        have := inj _ _ e2
        omega
    have m2 : k < t (d' k) := by
      rcases Nat.lt_trichotomy k (t (d' k)) with h | h | h
      · exact h
      · rw [← h] at em'; exact absurd em' hne
      · have e2 := ih _ h (by omega)
        rw [em'] at e2
        have := inj' _ _ e2
        omega
    have l1 := s' k (t' (d k)) (by omega) m1 hm
    have l2 := s k (t (d' k)) (by omega) m2 hm'
    rw [em] at l1
    rw [em'] at l2
    exact ltK_irr l1 l2

/-- what is left of Q behind the first k -/
def lft (Q : Int) (v : Nat → Int) : Nat → Int
  | 0 => Q
  | k + 1 => lft Q v k - min (lft Q v k) (v k)
/-- what the one at place k gets -/
def gv (Q : Int) (v : Nat → Int) (k : Nat) : Int := min (lft Q v k) (v k)
/-- how many of the first n get anything -/
def nf (Q : Int) (v : Nat → Int) : Nat → Nat
  | 0 => 0
  | k + 1 => if 0 < lft Q v k then k + 1 else nf Q v k
section
variable {Q : Int} {v : Nat → Int}
theorem lft_eq (hQ : 0 ≤ Q) : ∀ n, (∀ i, i < n → 0 ≤ v i) → lft Q v n = max 0 (Q - sg v n)
  | 0, _ => by show Q = max 0 (Q - 0); omega
  | n + 1, h => by
    have ih := lft_eq hQ n (fun i hi => h i (by omega))
    have := h n (by omega)
    rw [lft, sg, ih]; omega
theorem sg_gv : ∀ n, sg (gv Q v) n = Q - lft Q v n
  | 0 => by show (0 : Int) = Q - Q; omega
  | n + 1 => by rw [sg, sg_gv n, lft]; show _ + min _ _ = _; omega
theorem sg_got (hQ : 0 ≤ Q) (n : Nat) (h : ∀ i, i < n → 0 ≤ v i) : sg (gv Q v) n = min Q (sg v n) := by
  rw [sg_gv, lft_eq hQ n h]; omega
theorem lft_anti (hQ : 0 ≤ Q) {n k : Nat} (h : ∀ i, i < n → 0 ≤ v i) (hk : k ≤ n) : lft Q v n ≤ lft Q v k := by
  rw [lft_eq hQ n h, lft_eq hQ k (fun i hi => h i (by omega))]
  have := sg_mono (f := v) n hk (fun i _ hi => h i hi)
  omega
theorem lft_pos (hQ : 0 ≤ Q) (n : Nat) (h : ∀ i, i < n → 0 ≤ v i) : 0 ≤ lft Q v n := by rw [lft_eq hQ n h]; omega
theorem lft_congr {u : Nat → Int} : ∀ n, (∀ i, i < n → u i = v i) → lft Q u n = lft Q v n
  | 0, _ => rfl
  | n + 1, h => by rw [lft, lft, lft_congr n (fun i hi => h i (by omega)), h n (by omega)]
theorem gv_congr {u : Nat → Int} (n : Nat) (h : ∀ i, i ≤ n → u i = v i) : gv Q u n = gv Q v n := by
  unfold gv
  rw [lft_congr n (fun i hi => h i (by omega)), h n (Nat.le_refl _)]
theorem nf_congr {u : Nat → Int} : ∀ n, (∀ i, i < n → u i = v i) → nf Q u n = nf Q v n
  | 0, _ => rfl
  | n + 1, h => by rw [nf, nf, nf_congr n (fun i hi => h i (by omega)), lft_congr n (fun i hi => h i (by omega))]
theorem nf_le : ∀ n, nf Q v n ≤ n
  | 0 => Nat.le_refl _
  | n + 1 => by
    rw [nf]
    split
    · exact Nat.le_refl _
    · have := nf_le n; omega
/-- the first place at which nothing is left -/
theorem nf_is (hQ : 0 ≤ Q) {j : Nat} : ∀ n, (∀ i, i < n → 0 ≤ v i) → j ≤ n → (∀ i, i < j → 0 < lft Q v i) → (j = n ∨ lft Q v j ≤ 0) → nf Q v n = j
  | 0, _, hj, _, _ => by rw [Nat.le_zero.1 hj]; rfl
  | n + 1, h, hj, h1, h2 => by
    rw [nf]
    by_cases e : j = n + 1
    · subst e; rw [if_pos (h1 n (by omega))]
    · have hl : lft Q v j ≤ 0 := by rcases h2 with h2 | h2; exact absurd h2 e; exact h2
      have := lft_anti hQ (n := n) (k := j) (fun i hi => h i (by omega)) (by omega)
      rw [if_neg (by omega)]
      exact nf_is hQ n (fun i hi => h i (by omega)) (by omega) h1 (.inr hl)
theorem nf_in (hQ : 0 ≤ Q) {k : Nat} : ∀ n, (∀ i, i < n → 0 ≤ v i) → k < nf Q v n → k < n ∧ 0 < lft Q v k
  | 0, _, hk => by simp [nf] at hk
  | n + 1, h, hk => by
    rw [nf] at hk
    split at hk
    · rename_i hl
      have := lft_anti hQ (n := n) (k := k) (fun i hi => h i (by omega)) (by omega)
      exact ⟨hk, by omega⟩
    · have := nf_in hQ n (fun i hi => h i (by omega)) hk
      exact ⟨by omega, this.2⟩
theorem nf_out (hQ : 0 ≤ Q) {k : Nat} : ∀ n, (∀ i, i < n → 0 ≤ v i) → nf Q v n ≤ k → k < n → lft Q v k = 0
  | 0, _, _, hk => by omega
  | n + 1, h, hn, hk => by
    rw [nf] at hn
    split at hn
    · omega
    · rename_i hl
      by_cases e : k = n
      · subst e
        have := lft_pos hQ k (fun i hi => h i (by omega))
        omega
      · exact nf_out hQ n (fun i hi => h i (by omega)) hn (by omega)
theorem gv_out (hQ : 0 ≤ Q) {k n : Nat} (h : ∀ i, i < n → 0 ≤ v i) (h1 : nf Q v n ≤ k) (h2 : k < n) : gv Q v k = 0 := by
  unfold gv
  rw [nf_out hQ n h h1 h2]
  have := h k h2
  omega
theorem gv_in (hQ : 0 ≤ Q) {k n : Nat} (h : ∀ i, i < n → 1 ≤ v i) (h1 : k < nf Q v n) : 1 ≤ gv Q v k ∧ gv Q v k ≤ v k := by
  obtain ⟨a, b⟩ := nf_in hQ n (fun i hi => by have := h i hi; omega) h1
  have := h k a
  unfold gv; omega
theorem gv_bd (hQ : 0 ≤ Q) {k n : Nat} (h : ∀ i, i < n → 0 ≤ v i) (h1 : k < n) : 0 ≤ gv Q v k ∧ gv Q v k ≤ v k := by
  have := lft_pos hQ k (fun i hi => h i (by omega))
  have := h k h1
  unfold gv; omega
theorem nf_pos (hQ : 1 ≤ Q) {n : Nat} (hn : 0 < n) (h : ∀ i, i < n → 0 ≤ v i) : 0 < nf Q v n := by
  apply Classical.byContradiction
  intro h1
  have := nf_out (Q := Q) (v := v) (k := 0) (by omega) n h (by omega) hn
  rw [lft] at this
  omega
/-- all ahead of the last one that gets anything get all they want -/
theorem gv_full (hQ : 0 ≤ Q) {k n : Nat} (h : ∀ i, i < n → 0 ≤ v i) (h1 : k + 1 < nf Q v n) : gv Q v k = v k := by
  obtain ⟨a, b⟩ := nf_in hQ n h h1
  rw [lft] at b
  unfold gv; omega
end
end Go.Proofs.Ytoglcgijgckdaaa
