/- The document's auction, plainly: its price, and the best bid that has none yet. Condition: the numbers fit their kinds. -/
import Derived.Test.YtoglcgijgckdaaaMoreP8
namespace Go.Proofs.Ytoglcgijgckdaaa
set_option linter.unusedVariables false
set_option linter.unusedSimpArgs false
open Go.RowKit

def kc (sells : Bool) (c : Int) : Int := if sells then -c else c
theorem kc_key (sells : Bool) (L : Nat → Array Value) (i : Nat) : kc sells (N (L i) 3) = keyS sells L i := rfl
theorem kc_le {sells : Bool} {x c : Int} : (x = c ∨ betB sells x c = true) ↔ kc sells x ≤ kc sells c := by
  unfold betB kc; cases sells <;> simp <;> omega
theorem kc_lt {sells : Bool} {x c : Int} : betB sells x c = true ↔ kc sells x < kc sells c := by
  unfold betB kc; cases sells <;> simp
theorem kc_inj {sells : Bool} {x c : Int} (h : kc sells x = kc sells c) : x = c := by
  unfold kc at h; cases sells <;> simp at h <;> omega
/-- how much is filled at a price -/
def atV (sells : Bool) (Q : Int) (L : Nat → Array Value) (n : Nat) (c : Int) : Int := min Q (sg (upTo sells L (kc sells c)) n)
section
variable {sells : Bool} {Q : Int} {n : Nat} {L : Nat → Array Value} {d t : Nat → Nat}
/-- the total that is filled -/
def tot (Q : Int) (n : Nat) (L : Nat → Array Value) : Int := min Q (sg (fun i => N (L i) 4) n)
theorem Auc.all (h : Auc sells Q n L d t) : sg (vS L d) n = sg (fun i => N (L i) 4) n := sg_perm h.p (fun i => N (L i) 4)
theorem Auc.m_pos (h : Auc sells Q n L d t) (hn : 0 < n) : 0 < nf Q (vS L d) n := nf_pos h.q1 hn h.v0
theorem Auc.at_le (h : Auc sells Q n L d t) (c : Int) : atV sells Q L n c ≤ tot Q n L := by
  unfold atV tot
  refine min_le9 (sg_le n (fun i hi => ?_))
  unfold upTo
  split
  · exact Int.le_refl _
  · have := (h.bd hi).2; omega
where min_le9 {a b c : Int} (h : b ≤ c) : min a b ≤ min a c := by omega
theorem Auc.at_end (h : Auc sells Q n L d t) (hn : 0 < n) : tot Q n L ≤ atV sells Q L n (N (L (d (nf Q (vS L d) n - 1))) 3) := by
  have hm := h.m_pos hn
  have hle := nf_le (Q := Q) (v := vS L d) n
  have l1 := h.up_lo (c := keyS sells L (d (nf Q (vS L d) n - 1))) (k := nf Q (vS L d) n) hle (fun r hr => by
    by_cases e : r = nf Q (vS L d) n - 1
    · rw [e]; exact Int.le_refl _
    · have := h.s r (nf Q (vS L d) n - 1) (by omega) (by omega) (by omega)
      unfold ltK at this; omega)
  unfold atV tot
  rw [kc_key, ← h.all]
  by_cases e : nf Q (vS L d) n = n
  · rw [e] at l1
    rw [e]
    omega
  · have l2 := nf_out (Q := Q) (v := vS L d) (k := nf Q (vS L d) n) (by have := h.q1; omega) n h.v0 (Nat.le_refl _) (by omega)
    rw [lft_eq (by have := h.q1; omega) _ (fun i hi => h.v0 i (by omega))] at l2
    omega
/-- the price of the best that fills most -/
theorem Auc.price_is (h : Auc sells Q n L d t) (hn : 0 < n) {j : Nat} (hj : j < n) (hb : ∀ r, r < n → atV sells Q L n (N (L r) 3) < atV sells Q L n (N (L j) 3) ∨ (atV sells Q L n (N (L r) 3) = atV sells Q L n (N (L j) 3) ∧ keyS sells L j ≤ keyS sells L r)) :
    N (L j) 3 = prc L d (nf Q (vS L d) n) ∧ atV sells Q L n (N (L j) 3) = tot Q n L := by
  have hm := h.m_pos hn
  have hle := nf_le (Q := Q) (v := vS L d) n
  have hq := h.q1
  have a1 := h.at_end hn
  have a2 := h.at_le (N (L j) 3)
  have b := hb (d (nf Q (vS L d) n - 1)) (h.dl _ (by omega))
  have e0 : atV sells Q L n (N (L j) 3) = tot Q n L := by omega
  refine ⟨?_, e0⟩
  have hk : keyS sells L j ≤ keyS sells L (d (nf Q (vS L d) n - 1)) := by omega
  have hk2 : ¬ keyS sells L j < keyS sells L (d (nf Q (vS L d) n - 1)) := fun hlt => by
    have l3 := h.up_hi (c := keyS sells L j) (k := nf Q (vS L d) n - 1) (by omega) (fun r h1 h2 => by
      by_cases e : r = nf Q (vS L d) n - 1
      · rw [e]; omega
      · have := h.s (nf Q (vS L d) n - 1) r (by omega) (by omega) h2
        unfold ltK at this; omega)
    have l6 := (nf_in (Q := Q) (v := vS L d) (k := nf Q (vS L d) n - 1) (by omega) n h.v0 (by omega)).2
    rw [lft_eq (by omega) _ (fun i hi => h.v0 i (by omega))] at l6
    have l7 : sg (vS L d) (nf Q (vS L d) n - 1 + 1) ≤ sg (vS L d) n := sg_mono n (by omega) (fun i _ hi => h.v0 i hi)
    rw [sg] at l7
    have l8 := h.v1 (nf Q (vS L d) n - 1) (by omega)
    unfold atV tot at e0
    rw [kc_key, ← h.all] at e0
    omega
  have e1 : kc sells (N (L j) 3) = kc sells (N (L (d (nf Q (vS L d) n - 1))) 3) := by rw [kc_key, kc_key]; omega
  unfold prc
  rw [if_neg (by omega)]
  exact kc_inj e1
/-- what is left to fill behind k fills -/
def rest8 (Q : Int) (n : Nat) (L : Nat → Array Value) (d : Nat → Nat) (k : Nat) : Int := tot Q n L - sg (gv Q (vS L d)) k
theorem Auc.rest_pos (h : Auc sells Q n L d t) {k : Nat} (hk : k ≤ nf Q (vS L d) n) : 0 ≤ rest8 Q n L d k ∧ (0 < rest8 Q n L d k ↔ k < nf Q (vS L d) n) := by
  have hf := h.fills
  have hle := nf_le (Q := Q) (v := vS L d) n
  have h1 := sg_mono (f := gv Q (vS L d)) (nf Q (vS L d) n) hk (fun r _ hr => h.gv0 (by omega))
  unfold rest8 tot
  refine ⟨by omega, ?_⟩
  constructor
  · intro hp
    apply Classical.byContradiction
    intro hn
    obtain e : k = nf Q (vS L d) n := by omega
    rw [e] at hp
    omega
  · intro hlt
    have h2 := sg_mono (f := gv Q (vS L d)) (k := k + 1) (nf Q (vS L d) n) (by omega) (fun r _ hr => h.gv0 (by omega))
    rw [sg] at h2
    have h3 := (gv_in (Q := Q) (v := vS L d) (k := k) (n := n) (by have := h.q1; omega) h.v1 hlt).1
    omega
theorem Auc.rest_gv (h : Auc sells Q n L d t) {k : Nat} (hk : k < nf Q (vS L d) n) : min (rest8 Q n L d k) (vS L d k) = gv Q (vS L d) k := by
  have hle := nf_le (Q := Q) (v := vS L d) n
  have hq := h.q1
  unfold rest8 tot
  rw [sg_gv, ← h.all]
  unfold gv
  by_cases hc : Q ≤ sg (vS L d) n
  · rw [show min Q (sg (vS L d) n) = Q by omega]
    congr 1; omega
  · rw [show min Q (sg (vS L d) n) = sg (vS L d) n by omega]
    have h1 := lft_eq (Q := Q) (v := vS L d) (by omega) k (fun i hi => h.v0 i (by omega))
    have h2 : sg (vS L d) (k + 1) ≤ sg (vS L d) n := sg_mono n (by omega) (fun i _ hi => h.v0 i hi)
    rw [sg] at h2
    have h3 := sg_pos (f := vS L d) k (fun i hi => h.v0 i (by omega))
    omega
theorem rest_next (k : Nat) : rest8 Q n L d (k + 1) = rest8 Q n L d k - gv Q (vS L d) k := by unfold rest8; rw [sg]; omega
/-- of two, which one comes first -/
theorem Auc.ahead (h : Auc sells Q n L d t) {i b : Nat} (hb : b < i) (hi : i < n) : (betB sells (N (L i) 3) (N (L b) 3) = true ↔ t i < t b) := by
  rw [kc_lt, kc_key, kc_key]
  constructor
  · intro hk
    apply Classical.byContradiction
    intro hn
    have hne : t b ≠ t i := fun e => by have := congrArg d e; rw [h.dt, h.dt] at this; omega
    have := h.s (t b) (t i) (by omega) (by omega) (h.tl i hi)
    rw [h.dt, h.dt] at this
    unfold ltK at this; omega
  · intro ht
    have := h.s (t i) (t b) (by omega) ht (h.tl b (by omega))
    rw [h.dt, h.dt] at this
    unfold ltK at this; omega
end
end Go.Proofs.Ytoglcgijgckdaaa
