/- An auction's fills, plainly: what each bid got. Nothing of the walk is in it. -/
import Derived.Test.YtoglcgijgckdaaaClr8
namespace Go.Proofs.Ytoglcgijgckdaaa
set_option linter.unusedVariables false
set_option linter.unusedSimpArgs false

theorem sg_tail {f : Nat → Int} {m : Nat} : ∀ n, m ≤ n → (∀ i, m ≤ i → i < n → f i = 0) → sg f m = sg f n
  | 0, hm, _ => by rw [Nat.le_zero.1 hm]
  | n + 1, hm, h => by
    by_cases e : m = n + 1
    · subst e; rfl
    · rw [sg, ← sg_tail n (by omega) (fun i h1 h2 => h i h1 (by omega)), h n (by omega) (by omega)]; omega
theorem num_inj {sells : Bool} {L : Nat → Array Value} {n : Nat} (h : smay sells L n = true) {i j : Nat} (hi : i < n) (hj : j < n) (e : N (L i) 0 = N (L j) 0) : i = j := by
  rw [smay_iff] at h
  rcases Nat.lt_trichotomy i j with h1 | h1 | h1
  · exact absurd e ((h j hj).2.2 i h1)
  · exact h1
  · exact absurd e.symm ((h i hi).2.2 j h1)
/-- an auction that came to its end -/
structure Auc (sells : Bool) (Q : Int) (n : Nat) (L : Nat → Array Value) (d t : Nat → Nat) : Prop where
  may : smay sells L n = true
  q1 : 1 ≤ Q
  q2 : Q ≤ 10000000
  p : PermOn 0 n id d
  s : Srt (keyS sells L) 0 n d
  dt : ∀ k, d (t k) = k
  td : ∀ k, t (d k) = k
  tl : ∀ k, k < n → t k < n
  dl : ∀ k, k < n → d k < n
theorem auc_of {sells : Bool} {Q : Int} {n : Nat} {L : Nat → Array Value} {d : Nat → Nat} (hE : clE sells Q L n = 0) (p : PermOn 0 n id d) (s : Srt (keyS sells L) 0 n d) : ∃ t, Auc sells Q n L d t := by
  obtain ⟨_, h1, h2, h3⟩ := clE_ok_inv hE
  obtain ⟨t, a, b, c, e⟩ := p.inv
  exact ⟨t, h3, h1, h2, p, s, a, b, c, e⟩
section
variable {sells : Bool} {Q : Int} {n : Nat} {L : Nat → Array Value} {d t : Nat → Nat}
theorem Auc.ok (h : Auc sells Q n L d t) {i : Nat} (hi : i < n) : okO (L i) = true := (smay_at h.may hi).1
theorem Auc.bd (h : Auc sells Q n L d t) {i : Nat} (hi : i < n) : (1 ≤ N (L i) 3 ∧ N (L i) 3 ≤ 10000000) ∧ 1 ≤ N (L i) 4 ∧ N (L i) 4 ≤ 1000000 := (okO_iff.1 (h.ok hi)).2.2
theorem Auc.v1 (h : Auc sells Q n L d t) : ∀ i, i < n → 1 ≤ vS L d i := fun i hi => (h.bd (h.dl i hi)).2.1
theorem Auc.v0 (h : Auc sells Q n L d t) : ∀ i, i < n → 0 ≤ vS L d i := fun i hi => by have := h.v1 i hi; omega
/-- what bid i got -/
def gotA (Q : Int) (L : Nat → Array Value) (d t : Nat → Nat) (i : Nat) : Int := gv Q (vS L d) (t i)
theorem Auc.v_t (h : Auc sells Q n L d t) (i : Nat) : vS L d (t i) = N (L i) 4 := by unfold vS; rw [h.dt]
theorem Auc.got_bd (h : Auc sells Q n L d t) {i : Nat} (hi : i < n) : 0 ≤ gotA Q L d t i ∧ gotA Q L d t i ≤ N (L i) 4 := by
  have := gv_bd (Q := Q) (v := vS L d) (by have := h.q1; omega) h.v0 (h.tl i hi)
  rw [h.v_t] at this
  exact this
theorem Auc.got_in (h : Auc sells Q n L d t) {i : Nat} (hi : i < n) (hg : 0 < gotA Q L d t i) : t i < nf Q (vS L d) n := by
  apply Classical.byContradiction
  intro hn
  have := gv_out (Q := Q) (v := vS L d) (by have := h.q1; omega) h.v0 (by omega) (h.tl i hi)
  unfold gotA at hg
  omega
/-- the fills up to k that bear bid i's number -/
def gotU (Q : Int) (L : Nat → Array Value) (d : Nat → Nat) (i k : Nat) : Int := sg (fun r => if N (L (d r)) 0 = N (L i) 0 then gv Q (vS L d) r else 0) k
theorem Auc.gv0 (h : Auc sells Q n L d t) {r : Nat} (hr : r < n) : 0 ≤ gv Q (vS L d) r := (gv_bd (by have := h.q1; omega) h.v0 hr).1
theorem Auc.got_all (h : Auc sells Q n L d t) {i : Nat} (hi : i < n) : gotU Q L d i (nf Q (vS L d) n) = gotA Q L d t i := by
  unfold gotU
  rw [sg_tail n (nf_le n) (fun r h1 h2 => by
    rw [gv_out (Q := Q) (v := vS L d) (by have := h.q1; omega) h.v0 h1 h2]; simp)]
  rw [sg_one (k := t i) n (h.tl i hi) (fun r hr hne => if_neg (fun e => hne (by
    have := num_inj h.may (h.dl r hr) hi e
    rw [← this, h.td])))]
  rw [if_pos (by rw [h.dt])]
  rfl
theorem Auc.gotU_bd (h : Auc sells Q n L d t) {i : Nat} (hi : i < n) {k : Nat} (hk : k ≤ nf Q (vS L d) n) : 0 ≤ gotU Q L d i k ∧ gotU Q L d i k ≤ 1000000 := by
  have hle := nf_le (Q := Q) (v := vS L d) n
  have hp : ∀ r, r < n → 0 ≤ (if N (L (d r)) 0 = N (L i) 0 then gv Q (vS L d) r else 0) := fun r hr => by
    split
    · exact h.gv0 hr
    · omega
  have h1 := sg_pos (f := fun r => if N (L (d r)) 0 = N (L i) 0 then gv Q (vS L d) r else 0) k (fun r hr => hp r (by omega))
  have h2 := sg_mono (f := fun r => if N (L (d r)) 0 = N (L i) 0 then gv Q (vS L d) r else 0) (nf Q (vS L d) n) hk (fun r _ hr => hp r (by omega))
  have h3 := h.got_all hi
  have h4 := h.got_bd hi
  have h5 := (h.bd hi).2.2
  unfold gotU at *
  omega
theorem gotU_next (i k : Nat) : gotU Q L d i (k + 1) = gotU Q L d i k + (if N (L (d k)) 0 = N (L i) 0 then gv Q (vS L d) k else 0) := rfl
theorem Auc.price (h : Auc sells Q n L d t) {i : Nat} (hi : i < n) (hg : 0 < gotA Q L d t i) : keyS sells L i ≤ keyS sells L (d (nf Q (vS L d) n - 1)) ∧ prc L d (nf Q (vS L d) n) = N (L (d (nf Q (vS L d) n - 1))) 3 := by
  have h1 := h.got_in hi hg
  have hle := nf_le (Q := Q) (v := vS L d) n
  constructor
  · by_cases e : t i = nf Q (vS L d) n - 1
    · rw [← e, h.dt]; exact Int.le_refl _
    · have := h.s (t i) (nf Q (vS L d) n - 1) (by omega) (by omega) (by omega)
      rw [h.dt] at this
      unfold ltK at this
      omega
  · unfold prc; rw [if_neg (by omega)]
/-- nobody gets anything at a price worse than their own -/
theorem Auc.fair1 (h : Auc sells Q n L d t) {i : Nat} (hi : i < n) (hg : 0 < gotA Q L d t i) : if sells then prc L d (nf Q (vS L d) n) ≤ N (L i) 3 else N (L i) 3 ≤ prc L d (nf Q (vS L d) n) := by
  obtain ⟨h1, h2⟩ := h.price hi hg
  rw [h2]
  unfold keyS at h1
  cases sells <;> simp at h1 ⊢ <;> omega
/-- nobody ahead is passed over -/
theorem Auc.fair2 (h : Auc sells Q n L d t) {i k : Nat} (hi : i < n) (hk : k < n) (hw : ltK (keyS sells L) i k) (hg : gotA Q L d t i < N (L i) 4) : ¬ 0 < gotA Q L d t k := by
  intro hp
  have h1 := h.got_in hk hp
  have h2 : t i < t k := by
    rcases Nat.lt_trichotomy (t i) (t k) with e | e | e
    · exact e
    · have := congrArg d e
      rw [h.dt, h.dt] at this
      exact absurd this (ltK_ne hw)
    · have := h.s (t k) (t i) (by omega) e (h.tl i hi)
      rw [h.dt, h.dt] at this
      exact (ltK_irr hw this).elim
  have := gv_full (Q := Q) (v := vS L d) (k := t i) (n := n) (by have := h.q1; omega) h.v0 (by omega)
  rw [h.v_t] at this
  unfold gotA at hg
  omega
theorem Auc.sum (h : Auc sells Q n L d t) : sg (gotA Q L d t) n = min (sg (fun i => N (L i) 4) n) Q := by
  have e1 := sg_perm h.p (gotA Q L d t)
  have e2 : sg (fun k => gotA Q L d t (d k)) n = sg (gv Q (vS L d)) n := sg_congr n (fun k _ => by unfold gotA; rw [h.td])
  have e3 := sg_perm h.p (fun i => N (L i) 4)
  rw [← e1, e2, sg_got (by have := h.q1; omega) n h.v0, ← e3]
  show min Q (sg (vS L d) n) = min (sg (vS L d) n) Q
  omega
end
end Go.Proofs.Ytoglcgijgckdaaa
