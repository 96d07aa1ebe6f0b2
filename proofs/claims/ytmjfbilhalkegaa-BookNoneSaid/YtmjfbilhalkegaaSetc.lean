/- Cells stored one behind another: what the block holds then; a row without one of its elements; a cleared element. No condition. -/
import Derived.Test.YtmjfbilhalkegaaFlat
import Derived.Deep.RegionLaw
import Derived.Lib.SliceRun
namespace Go.Proofs.Ytmjfbilhalkegaa
set_option linter.unusedVariables false
set_option linter.unusedSimpArgs false
open Go.RowKit

theorem setc_block {b : Nat} {t : TypeId} : ∀ (vs : List Value) (o : Nat) (w : World) (A : Array Value), w.heap[b]? = some (.cells A t (0, 0)) → o + vs.length ≤ A.size →
    ∃ A', (w.setCells b o vs).heap[b]? = some (.cells A' t (0, 0)) ∧ A'.size = A.size ∧ (∀ j, j < o → A'[j]? = A[j]?) ∧ (∀ j, j < vs.length → A'[o + j]? = vs[j]?) ∧ (∀ j, o + vs.length ≤ j → A'[j]? = A[j]?)
  | [], o, w, A, h, _ => ⟨A, h, rfl, fun _ _ => rfl, fun j hj => by simp at hj, fun _ _ => rfl⟩
  | v :: r, o, w, A, h, hs => by
    simp only [List.length_cons] at hs
    obtain ⟨A', h1, h2, h3, h4, h5⟩ := setc_block r (o + 1) (w.setCell ⟨b, o, none⟩ v) (A.setIfInBounds o v) (heap_set h) (by simp; omega)
    refine ⟨A', h1, by rw [h2]; simp, fun j hj => ?_, fun j hj => ?_, fun j hj => ?_⟩
    · rw [h3 j (by omega), Array.getElem?_setIfInBounds_ne (by omega)]
    · cases j with
      | zero => rw [Nat.add_zero, h3 o (by omega), Array.getElem?_setIfInBounds_self, if_pos (by omega)]; rfl
      | succ j =>
        simp only [List.length_cons] at hj
        rw [show o + (j + 1) = o + 1 + j by omega, h4 j (by omega)]
        simp
    · simp only [List.length_cons] at hj
      rw [h5 j (by omega), Array.getElem?_setIfInBounds_ne (by omega)]
theorem setc_other {b k : Nat} (hk : k ≠ b) : ∀ (vs : List Value) (o : Nat) (w : World), (w.setCells b o vs).heap[k]? = w.heap[k]?
  | [], _, _ => rfl
  | v :: r, o, w => by
    show ((w.setCell ⟨b, o, none⟩ v).setCells b (o + 1) r).heap[k]? = _
    rw [setc_other hk r, heap_setCell_other w ⟨b, o, none⟩ k v hk]
theorem setc_below {B b : Nat} {w1 : World} (hb : B ≤ b) : ∀ (vs : List Value) (o : Nat) (w : World), Below B w1 w → Below B w1 (w.setCells b o vs)
  | [], _, _, h => h
  | v :: r, o, w, h => setc_below hb r (o + 1) _ (below_set h hb)
/-- rows without the one at i -/
def rem (L : Nat → Array Value) (i : Nat) : Nat → Array Value := fun j => if j < i then L j else L (j + 1)
theorem flat_get {L : Nat → Array Value} {c : Nat} (hc : 0 < c) (hL : ∀ i, (L i).size = c) {n m : Nat} (hm : m < n * c) : (flat L n)[m]? = (L (m / c))[m % c]? := by
  have h := flatc_at hL n (m / c) (m % c) ((Nat.div_lt_iff_lt_mul hc).2 hm) (Nat.mod_lt _ hc)
  rwa [show m / c * c + m % c = m by rw [Nat.mul_comm]; exact Nat.div_add_mod m c] at h
theorem flat_rem {L : Nat → Array Value} {c k i : Nat} (hc : 0 < c) (hL : ∀ i, (L i).size = c) (hi : i < k) {A : Array Value} (hs : (k - 1) * c ≤ A.size)
    (h1 : ∀ j, j < i * c → A[j]? = (flat L k)[j]?) (h2 : ∀ j, i * c ≤ j → j < (k - 1) * c → A[j]? = (flat L k)[j + c]?) : A.toList.take ((k - 1) * c) = flat (rem L i) (k - 1) := by
  have hk : (k - 1) * c + c = k * c := by
    rw [← Nat.succ_mul]; congr 1; omega
  have hL' : ∀ j, (rem L i j).size = c := fun j => by unfold rem; split <;> exact hL _
  apply List.ext_getElem?
  intro m
  by_cases hm : m < (k - 1) * c
  · rw [List.getElem?_take, if_pos hm, Array.getElem?_toList, flat_get hc hL' hm]
    unfold rem
    by_cases hmi : m < i * c
    · rw [h1 m hmi, flat_get hc hL (by omega), if_pos ((Nat.div_lt_iff_lt_mul hc).2 hmi)]
    · rw [h2 m (by omega) hm, flat_get hc hL (by omega), if_neg (fun h => hmi ((Nat.div_lt_iff_lt_mul hc).1 h)), Nat.add_div_right m hc, Nat.add_mod_right]
  · rw [List.getElem?_eq_none (by rw [List.length_take, Array.length_toList]; omega), List.getElem?_eq_none (by rw [flatc_len hL']; omega)]
/-- 'clear' of one element of more than one cell -/
theorem run_clear_one {P : Program} (w : World) (t e ty : TypeId) (z : Value) (c : Nat) (ht : P.underlying t = some (.slice e)) (hv : ∀ w, (zeroValue e).run P w = .ok z w) (hz : z.cells.size = c) (h1 : ∀ v ∈ z.cells, v.oneCell' = true) (b o cc : Nat)
    (hc : ∀ j, j < c → (w.cell? ⟨b, o + j, none⟩).isSome = true) (hf : ∀ j, j < c → w.frozen? ⟨b, o + j, none⟩ = false) :
    (Builtin.clear_ #[t] ty #[.slice (some ⟨b, o, none⟩) 1 cc]).run P w = .ok (.tuple #[]) (w.setCells b o z.cells.toList) := by
  have hzc : (Builtin.zeroCells z.cells 1).toList = z.cells.toList := by
    unfold Builtin.zeroCells
    rw [Nat.one_mul]
    apply List.ext_getElem
    · simp
    · intro i h1 h2
      simp at h1 h2 ⊢
      rw [Nat.mod_eq_of_lt h1]
      exact getElem!_pos z.cells i h1
  have hst := run_storeCells_cells (P := P) b o z.cells.toList 0 w (by simpa [hz] using hc) (by simpa [hz] using hf) (by simpa using h1)
  simp only [Nat.add_zero] at hst
  simp [Builtin.clear_, run_underlying ht, hv, hzc, hst]
end Go.Proofs.Ytmjfbilhalkegaa
