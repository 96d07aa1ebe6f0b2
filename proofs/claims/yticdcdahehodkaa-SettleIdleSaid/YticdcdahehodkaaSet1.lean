/- Three rows of one's own side by side; who has won. No condition. -/
import Derived.Test.YticdcdahehodkaaSet0
import Derived.Test.YticdcdahehodkaaWhole14
namespace Go.Proofs.Yticdcdahehodkaa
set_option linter.unusedVariables false
set_option linter.unusedSimpArgs false
open Go.RowKit

theorem info_i64r : ∃ i z, Try.prog.info? 2 = some i ∧ i.zero = some z ∧ i.size = 1 ∧ i.bytes ≤ 1000 ∧ z.cells.size = 1 := by
  obtain ⟨i, z, h1, h2, h3, h4, h5⟩ := info_i64
  exact ⟨i, z, h1, h2, h3, by omega, h5⟩
theorem info_intr : ∃ i z, Try.prog.info? 3 = some i ∧ i.zero = some z ∧ i.size = 1 ∧ i.bytes ≤ 1000 ∧ z.cells.size = 1 := by
  have h : (Try.prog.info? 3).map (fun i => (i.size, decide (i.bytes ≤ 1000), i.zero.map (·.cells.size))) = some (1, true, some 1) := by kernel_rfl
  cases hi : Try.prog.info? 3 with
  | none => simp [hi] at h
  | some i =>
    simp [hi] at h
    obtain ⟨h1, h2, z, h3, h4⟩ := h
    exact ⟨i, z, rfl, h3, h1, h2, h4⟩
def Sep (x y : Value) : Prop := ∀ q, x.ownBlock = some q → y.ownBlock ≠ some q
theorem Sep.symm {x y : Value} (h : Sep x y) : Sep y x := fun q h1 h2 => h q h2 h1
theorem Sep.ne {x y : Value} (h : Sep x y) : y.ownBlock = none ∨ y.ownBlock ≠ x.ownBlock := by
  cases e : y.ownBlock with
  | none => exact .inl rfl
  | some q => exact .inr (fun h2 => h q h2.symm e)
/-- three rows of one's own -/
structure LS (w : World) (b : Nat) (v7 v8 v9 : Value) (n7 n8 n9 : Nat) (L7 L8 L9 : List Value) : Prop where
  a7 : w.ownsRow b 2 1 v7 n7 L7
  a8 : w.ownsRow b 2 1 v8 n8 L8
  a9 : w.ownsRow b 3 1 v9 n9 L9
  s78 : Sep v7 v8
  s79 : Sep v7 v9
  s89 : Sep v8 v9
section
variable {w w' : World} {b : Nat} {v7 v8 v9 v' : Value} {n7 n8 n9 : Nat} {L7 L8 L9 L' : List Value}
theorem LS.kept (h : LS w b v7 v8 v9 n7 n8 n9 L7 L8 L9) (hb : Below w.heap.size w w') : LS w' b v7 v8 v9 n7 n8 n9 L7 L8 L9 :=
  ⟨own_below hb h.a7, own_below hb h.a8, own_below hb h.a9, h.s78, h.s79, h.s89⟩
theorem own_put {e : TypeId} {n : Nat} {v : Value} {L : List Value} {go : Nat} (h : w.ownsRow b e 1 v n L) (hg : w.grownBy w' (some go)) (hlt : go < b) : w'.ownsRow b e 1 v n L :=
  h.kept hg (by
    cases e9 : v.ownBlock with
    | none => exact .inl rfl
    | some q => exact .inr (fun h2 => by injection h2 with h2; have := (h.lt q e9).1; omega))
theorem LS.put (h : LS w b v7 v8 v9 n7 n8 n9 L7 L8 L9) {go : Nat} (hg : w.grownBy w' (some go)) (hlt : go < b) : LS w' b v7 v8 v9 n7 n8 n9 L7 L8 L9 :=
  ⟨own_put h.a7 hg hlt, own_put h.a8 hg hlt, own_put h.a9 hg hlt, h.s78, h.s79, h.s89⟩
theorem sep_new {x y : Value} {X : Obj} {e : TypeId} {n c : Nat} {L : List Value} (hs : Sep x y) (hy : w.ownsRow b e c y n L) (hat : ∀ q, v'.ownBlock = some q → x.ownBlock = some q ∨ w.heap.size < q) : Sep v' y := fun q h1 h2 => by
  rcases hat q h1 with h3 | h3
  · exact hs q h3 h2
  · have := (hy.lt q h2).2; omega
theorem LS.app7 (h : LS w b v7 v8 v9 n7 n8 n9 L7 L8 L9) {X : Obj} {m : Nat} (ho : w'.ownsRow b 2 1 v' m L') (hg : (w.alloc X).grownBy w' v7.ownBlock) (hat : ∀ q, v'.ownBlock = some q → v7.ownBlock = some q ∨ w.heap.size < q) :
    LS w' b v' v8 v9 m n8 n9 L' L8 L9 :=
  ⟨ho, (h.a8.alloc X).kept hg h.s78.ne, (h.a9.alloc X).kept hg h.s79.ne, sep_new (X := X) h.s78 h.a8 hat, sep_new (X := X) h.s79 h.a9 hat, h.s89⟩
theorem LS.app8 (h : LS w b v7 v8 v9 n7 n8 n9 L7 L8 L9) {X : Obj} {m : Nat} (ho : w'.ownsRow b 2 1 v' m L') (hg : (w.alloc X).grownBy w' v8.ownBlock) (hat : ∀ q, v'.ownBlock = some q → v8.ownBlock = some q ∨ w.heap.size < q) :
    LS w' b v7 v' v9 n7 m n9 L7 L' L9 :=
  ⟨(h.a7.alloc X).kept hg h.s78.symm.ne, ho, (h.a9.alloc X).kept hg h.s89.ne, (sep_new (X := X) h.s78.symm h.a7 hat).symm, h.s79, sep_new (X := X) h.s89 h.a9 hat⟩
theorem LS.app9 (h : LS w b v7 v8 v9 n7 n8 n9 L7 L8 L9) {X : Obj} {m : Nat} (ho : w'.ownsRow b 3 1 v' m L') (hg : (w.alloc X).grownBy w' v9.ownBlock) (hat : ∀ q, v'.ownBlock = some q → v9.ownBlock = some q ∨ w.heap.size < q) :
    LS w' b v7 v8 v' n7 n8 m L7 L8 L' :=
  ⟨(h.a7.alloc X).kept hg h.s79.symm.ne, (h.a8.alloc X).kept hg h.s89.symm.ne, ho, h.s78, (sep_new (X := X) h.s79.symm h.a7 hat).symm, (sep_new (X := X) h.s89.symm h.a8 hat).symm⟩
end
/-- the i-th of those who have won -/
def atF (V : Nat → Int) : Nat → Nat → Nat
  | 0 => fun _ => 0
  | k + 1 => if 0 < V k then put (atF V k) (tm (wts V) k) k else atF V k
/-- how many have won -/
def wn (V : Nat → Int) (k : Nat) : Nat := tm (wts V) k
theorem wn_succ (V : Nat → Int) (k : Nat) : wn V (k + 1) = wn V k + (if 0 < V k then 1 else 0) := by
  unfold wn; rw [tm_succ]
  have e : (0 < wts V k) ↔ (0 < V k) := by unfold wts; omega
  simp only [e]
theorem wn_le (V : Nat → Int) (k : Nat) : wn V k ≤ k := cnt_le _ _
theorem atF_at {V : Nat → Int} : ∀ k i, i < k → 0 < V i → atF V k (wn V i) = i
  | 0, i, h, _ => by omega
  | k + 1, i, h, hp => by
    show (if 0 < V k then put (atF V k) (tm (wts V) k) k else atF V k) (wn V i) = i
    by_cases e : i = k
    · subst e; rw [if_pos hp]; exact put_at _ _ _
    · have hlt : wn V i < wn V k := tm_lt (show i < k by omega) (by unfold wts; omega)
      split
      · rw [put_ne _ _ (by unfold wn at hlt ⊢; omega)]; exact atF_at k i (by omega) hp
      · exact atF_at k i (by omega) hp
theorem atF_lt {V : Nat → Int} : ∀ k j, j < wn V k → atF V k j < k ∧ 0 < V (atF V k j) ∧ wn V (atF V k j) = j
  | 0, j, h => by simp [wn, tm, cnt, sumN] at h
  | k + 1, j, h => by
    rw [wn_succ] at h
    show (if 0 < V k then put (atF V k) (tm (wts V) k) k else atF V k) j < k + 1 ∧ 0 < V ((if 0 < V k then put (atF V k) (tm (wts V) k) k else atF V k) j) ∧ wn V ((if 0 < V k then put (atF V k) (tm (wts V) k) k else atF V k) j) = j
    by_cases hp : 0 < V k
    · rw [if_pos hp] at h ⊢
      by_cases e : j = wn V k
      · have e2 : put (atF V k) (tm (wts V) k) k j = k := by rw [e]; exact put_at _ _ _
        rw [e2]; exact ⟨by omega, hp, e.symm⟩
      · rw [put_ne _ _ (show j ≠ tm (wts V) k from e)]
        obtain ⟨h1, h2, h3⟩ := atF_lt (V := V) k j (by omega)
        exact ⟨by omega, h2, h3⟩
    · rw [if_neg hp] at h ⊢
      obtain ⟨h1, h2, h3⟩ := atF_lt (V := V) k j (by omega)
      exact ⟨by omega, h2, h3⟩
/-- sums over those who have won -/
theorem won_sum {V : Nat → Int} {f : Nat → Nat} (n : Nat) (h0 : ∀ i, i < n → ¬ 0 < V i → f i = 0) : ∀ k, k ≤ n → sumN (fun j => f (atF V n j)) (wn V k) = sumN f k
  | 0, _ => rfl
  | k + 1, hk => by
    have ih := won_sum n h0 k (by omega)
    rw [wn_succ]
    by_cases hp : 0 < V k
    · rw [if_pos hp]
      show sumN (fun j => f (atF V n j)) (wn V k) + f (atF V n (wn V k)) = sumN f k + f k
      rw [ih, atF_at n k (by omega) hp]
    · rw [if_neg hp]
      show sumN (fun j => f (atF V n j)) (wn V k) = sumN f k + f k
      rw [ih, h0 k (by omega) hp]; rfl
theorem won_mono {V : Nat → Int} {n i j : Nat} (hi : i < wn V n) (hj : j < wn V n) : (i < j ↔ atF V n i < atF V n j) := by
  obtain ⟨h1, h2, h3⟩ := atF_lt (V := V) n i hi
  obtain ⟨g1, g2, g3⟩ := atF_lt (V := V) n j hj
  constructor
  · intro h
    exact tm_inc (P := wts V) (by have h3' : tm (wts V) (atF V n i) = i := h3; have g3' : tm (wts V) (atF V n j) = j := g3; omega)
  · intro h
    have := tm_lt (P := wts V) h (by unfold wts; omega)
    have h3' : tm (wts V) (atF V n i) = i := h3
    have g3' : tm (wts V) (atF V n j) = j := g3
    omega
/-- a split among those who have won is the split among all -/
theorem prt_won {V : Nat → Int} {n T j : Nat} (hS : 0 < sumN (wts V) n) (hj : j < wn V n) : prt (fun j => wts V (atF V n j)) (wn V n) T j = prt (wts V) n T (atF V n j) := by
  have hz : ∀ i, i < n → ¬ 0 < V i → wts V i = 0 := fun i _ h => by unfold wts; omega
  have es : sumN (fun j => wts V (atF V n j)) (wn V n) = sumN (wts V) n := won_sum n hz n (Nat.le_refl _)
  have ef : ∀ j, flo (fun j => wts V (atF V n j)) (wn V n) T j = flo (wts V) n T (atF V n j) := fun j => by unfold flo; simp only; rw [es]
  have er : ∀ j, res (fun j => wts V (atF V n j)) (wn V n) T j = res (wts V) n T (atF V n j) := fun j => by unfold res; simp only; rw [es]
  have el : lef (fun j => wts V (atF V n j)) (wn V n) T = lef (wts V) n T := by
    unfold lef
    rw [sumN_congr (V := fun j => flo (wts V) n T (atF V n j)) _ (fun i _ => ef i), won_sum (f := flo (wts V) n T) n (fun i hi h => by unfold flo; rw [hz i hi h]; simp) n (Nat.le_refl _)]
  obtain ⟨h1, h2, h3⟩ := atF_lt (V := V) n j hj
  unfold prt
  rw [ef, el]
  congr 2
  by_cases hr : 0 < res (wts V) n T (atF V n j)
  · have e : rk (rkey (fun j => wts V (atF V n j)) (wn V n) T) (wn V n) j = rk (rkey (wts V) n T) n (atF V n j) := by
      rw [rk_eq, rk_eq]
      have hc := won_sum (V := V) (f := fun i => b01 (decide (rkey (wts V) n T i < rkey (wts V) n T (atF V n j) ∨ (rkey (wts V) n T i = rkey (wts V) n T (atF V n j) ∧ i < atF V n j)))) n (fun i hi h => by
        have e0 : res (wts V) n T i = 0 := by unfold res; rw [hz i hi h]; simp
        rw [decide_eq_false (by unfold rkey; rw [e0]; omega)]; rfl) n (Nat.le_refl _)
      unfold cnt
      rw [← hc]
      refine sumN_congr _ fun i hi => ?_
      congr 1
      rw [decide_eq_decide]
      unfold rkey
      rw [er, er]
      have := won_mono (V := V) hi hj
      omega
    rw [e]
  · rw [decide_eq_false (fun h => hr (more_rest hS h1 h))]
    have hS' : 0 < sumN (fun j => wts V (atF V n j)) (wn V n) := by rw [es]; exact hS
    rw [decide_eq_false (fun h => hr (by rw [← er]; exact more_rest hS' hj (by rw [el]; exact h)))]
end Go.Proofs.Yticdcdahehodkaa
