/- What both walks of SealedFair share: the array of what each got. No condition. -/
import Derived.Test.YtoglcgijgckdaaaFairP8
import Derived.Test.YtoglcgijgckdaaaKn8
namespace Go.Proofs.Ytoglcgijgckdaaa
set_option linter.unusedVariables false
set_option linter.unusedSimpArgs false
open Go.RowKit

theorem rowsC_one {w : World} {c n : Nat} {a : Option Addr} {L : Nat → Array Value} (h : RowsC w c a n L) (hn : 0 < n) (hL : ∀ i, (L i).size = c) : ∃ g off B t fr, a = some (⟨g, off, none⟩ : Addr) ∧ w.heap[g]? = some (.cells B t fr) ∧ ∀ i, i < n → ∀ j, j < c → B[off + i * c + j]? = (L i)[j]? := by
  obtain ⟨g, off, B, t, fr, rfl, hg, _, _⟩ := h 0 hn
  refine ⟨g, off, B, t, fr, rfl, hg, fun i hi j hj => ?_⟩
  obtain ⟨g2, off2, B2, t2, fr2, ha, hg2, hs, hx⟩ := h i hi
  cases ha
  rw [hg] at hg2
  cases hg2
  rw [← hx, Array.getElem?_extract, if_pos (by omega)]
def ltb (K : Nat → Int) (x y : Nat) : Bool := decide (K x < K y) || (decide (K x = K y) && decide (x < y))
theorem ltb_iff {K : Nat → Int} {x y : Nat} : ltb K x y = true ↔ ltK K x y := by unfold ltb ltK; simp
theorem ltb_no {K : Nat → Int} {x y : Nat} (h : ¬ ltK K x y) : ltb K x y = false := by
  rw [Bool.eq_false_iff]; exact fun e => h (ltb_iff.1 e)
theorem sg_bd {f : Nat → Int} {c : Int} : ∀ n, (∀ i, i < n → 0 ≤ f i ∧ f i ≤ c) → 0 ≤ sg f n ∧ sg f n ≤ c * (n : Int)
  | 0, _ => by simp [sg]
  | n + 1, h => by
    have h1 := sg_bd n (fun i hi => h i (by omega))
    have h2 := h n (by omega)
    have e : c * ((n + 1 : Nat) : Int) = c * (n : Int) + c := by rw [Int.natCast_add, Int.mul_add]; simp
    rw [sg, e]
    omega
theorem rowsC_of_T {w : World} {t : TypeId} {c n : Nat} {a : Option Addr} {L : Nat → Array Value} (h : RowsT w t c a n L) : RowsC w c a n L := fun i hi => by
  obtain ⟨g, off, A, fr, h1, h2, h3, h4⟩ := h i hi
  exact ⟨g, off, A, t, fr, h1, h2, h3, h4⟩
def z50 : Array Value := Array.replicate 50 (.int .i64 0)
/-- the array in its block: the first i are known -/
structure Got (w0 w : World) (ga i : Nat) (G : Nat → Int) (c : Int) : Prop where
  row : ∃ A, w.heap[ga]? = some (.cells A 34 (0, 0)) ∧ A.size = 50 ∧ ∀ j, j < 50 → A[j]? = some (.int .i64 (if j < i then G j else if j = i then c else 0))
  be : Below ga w0 w
theorem Got.below {w0 w w' : World} {ga i : Nat} {G : Nat → Int} {c : Int} (h : Got w0 w ga i G c) (hb : Below w.heap.size w w') : Got w0 w' ga i G c := by
  obtain ⟨A, h1, h2⟩ := h.row
  have hl := (Array.getElem?_eq_some_iff.1 h1).1
  exact ⟨⟨A, kept hb h1, h2⟩, h.be.trans (hb.mono (by omega))⟩
theorem Got.set {w0 w : World} {ga i : Nat} {G : Nat → Int} {c x : Int} (h : Got w0 w ga i G c) : Got w0 (w.setCell ⟨ga, i, none⟩ (.int .i64 x)) ga i G x := by
  obtain ⟨A, h1, h2, h3⟩ := h.row
  refine ⟨⟨_, heap_set h1, by simpa using h2, fun j hj => ?_⟩, below_set h.be (Nat.le_refl _)⟩
  by_cases e : j = i
  · subst e
    rw [Array.getElem?_setIfInBounds_self_of_lt (by omega), if_neg (by omega), if_pos rfl]
  · rw [Array.getElem?_setIfInBounds_ne (by omega), h3 j hj, if_neg e, if_neg e]
theorem Got.next {w0 w : World} {ga i : Nat} {G : Nat → Int} {c : Int} (h : Got w0 w ga i G c) (e : c = G i) : Got w0 w ga (i + 1) G 0 := by
  obtain ⟨A, h1, h2, h3⟩ := h.row
  refine ⟨⟨A, h1, h2, fun j hj => ?_⟩, h.be⟩
  rw [h3 j hj]
  by_cases e1 : j < i
  · rw [if_pos e1, if_pos (by omega)]
  · by_cases e2 : j = i
    · subst e2; rw [if_neg e1, if_pos rfl, if_pos (by omega), e]
    · rw [if_neg e1, if_neg e2, if_neg (by omega)]; split <;> rfl
theorem Got.cell {w0 w : World} {ga i : Nat} {G : Nat → Int} {c : Int} (h : Got w0 w ga i G c) : ∃ A, w.heap[ga]? = some (.cells A 34 (0, 0)) ∧ A.size = 50 ∧ (∀ j, j < i → j < 50 → A[j]? = some (.int .i64 (G j))) ∧ (i < 50 → A[i]? = some (.int .i64 c)) := by
  obtain ⟨A, h1, h2, h3⟩ := h.row
  refine ⟨A, h1, h2, fun j hj h50 => ?_, fun h50 => ?_⟩
  · rw [h3 j h50, if_pos hj]
  · rw [h3 i h50, if_neg (by omega), if_pos rfl]
end Go.Proofs.Ytoglcgijgckdaaa
