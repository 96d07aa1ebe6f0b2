/- copy of elements of any width; a row with one element more in its midst. No condition. -/
import Derived.Test.YtmjfbilhalkegaaSetc
import Derived.Laws.IdiomCopy
namespace Go.Proofs.Ytmjfbilhalkegaa
set_option linter.unusedVariables false
set_option linter.unusedSimpArgs false
open Go.RowKit

theorem run_copy_c {P : Program} (w : World) (dT sT ty elem : TypeId) (b o dLen dCap : Nat) (a : Addr) (sLen sCap size : Nat) (cs : List Value)
    (hu : P.underlying dT = some (.slice elem)) (hs : (P.info? elem).map (·.size) = some size) (hn : cs.length = Nat.min sLen dLen * size)
    (hsrc : ∀ j v, cs[j]? = some v → w.cell? (a.add j) = some v) (hc : ∀ j, j < cs.length → (w.cell? ⟨b, o + j, none⟩).isSome = true) (hf : ∀ j, j < cs.length → w.frozen? ⟨b, o + j, none⟩ = false) (h1 : ∀ v ∈ cs, v.oneCell' = true) :
    (Builtin.copy_ #[dT, sT] ty #[.slice (some ⟨b, o, none⟩) dLen dCap, .slice (some a) sLen sCap]).run P w = .ok (goInt (Nat.min sLen dLen)) (w.setCells b o cs) := by
  have hl := run_loadCells_list (P := P) w a cs hsrc
  have hst := run_storeCells_cells (P := P) b o cs 0 w (by simpa using hc) (by simpa using hf) h1
  cases hq : P.info? elem with
  | none => simp [hq] at hs
  | some i =>
    have hi : i.size = size := by simpa [hq] using hs
    simp [Builtin.copy_, run_underlying hu, Builtin.lenOf, Builtin.firstCells, sizeOf, typeInfo, hq, hi, ← hn, hl, hst]
/-- the list with b between -/
theorem mid_get {xs bs : List Value} {p m : Nat} (hp : p ≤ xs.length) : (xs.take p ++ bs ++ xs.drop p)[m]? = if m < p then xs[m]? else if m < p + bs.length then bs[m - p]? else xs[m - bs.length]? := by
  have hl : (xs.take p).length = p := by rw [List.length_take]; omega
  by_cases h1 : m < p
  · rw [if_pos h1, List.append_assoc, List.getElem?_append_left (by omega), List.getElem?_take, if_pos h1]
  · rw [if_neg h1]
    by_cases h2 : m < p + bs.length
    · rw [if_pos h2, List.getElem?_append_left (by rw [List.length_append]; omega), List.getElem?_append_right (by omega), hl]
    · rw [if_neg h2, List.getElem?_append_right (by rw [List.length_append]; omega), List.length_append, hl, List.getElem?_drop]
      congr 1
      omega
/-- what a block holds behind the moves: its first cells are the list with b between -/
theorem mid_of {A : Array Value} {xs bs : List Value} {p n : Nat} (hp : p ≤ xs.length) (hn : n = xs.length + bs.length) (hA : n ≤ A.size)
    (h1 : ∀ j, j < p → A[j]? = xs[j]?) (h2 : ∀ j, j < bs.length → A[p + j]? = bs[j]?) (h3 : ∀ j, p ≤ j → j < xs.length → A[j + bs.length]? = xs[j]?) : A.toList.take n = xs.take p ++ bs ++ xs.drop p := by
  apply List.ext_getElem?
  intro m
  rw [mid_get hp, List.getElem?_take]
  by_cases hm : m < n
  · rw [if_pos hm, Array.getElem?_toList]
    by_cases c1 : m < p
    · rw [if_pos c1, h1 m c1]
    · rw [if_neg c1]
      by_cases c2 : m < p + bs.length
      · rw [if_pos c2, show m = p + (m - p) by omega, h2 _ (by omega)]
        congr 1
        omega
      · rw [if_neg c2, ← h3 (m - bs.length) (by omega) (by omega)]
        congr 1
        omega
  · rw [if_neg hm]
    symm
    rw [if_neg (by omega), if_neg (by omega)]
    rw [List.getElem?_eq_none_iff]
    omega
/-- the rows with one more at i -/
def ins (L : Nat → Array Value) (i : Nat) (x : Array Value) : Nat → Array Value := fun j => if j < i then L j else if j = i then x else L (j - 1)
theorem flat_ins {L : Nat → Array Value} {c k i : Nat} {x : Array Value} (hc : 0 < c) (hL : ∀ i, (L i).size = c) (hx : x.size = c) (hi : i ≤ k) : (flat L k).take (i * c) ++ x.toList ++ (flat L k).drop (i * c) = flat (ins L i x) (k + 1) := by
  have hl := flatc_len hL k
  have hle : i * c ≤ k * c := Nat.mul_le_mul_right c hi
  have hI : ∀ j, (ins L i x j).size = c := fun j => by unfold ins; split; exact hL _; split; exact hx; exact hL _
  apply List.ext_getElem?
  intro m
  rw [mid_get (by omega), Array.length_toList, hx]
  have hkc : (k + 1) * c = k * c + c := by rw [Nat.add_mul]; omega
  have hic : (i + 1) * c = i * c + c := by rw [Nat.add_mul]; omega
  by_cases hm : m < (k + 1) * c
  · rw [flat_get hc hI hm]
    unfold ins
    by_cases c1 : m < i * c
    · rw [if_pos c1, if_pos ((Nat.div_lt_iff_lt_mul hc).2 c1), flat_get hc hL (by omega)]
    · rw [if_neg c1, if_neg (fun h => c1 ((Nat.div_lt_iff_lt_mul hc).1 h))]
      by_cases c2 : m < i * c + c
      · have hd : m / c = i := by
          apply Nat.le_antisymm
          · have h5 : m / c < i + 1 := (Nat.div_lt_iff_lt_mul hc).2 (by omega)
            omega
          · exact (Nat.le_div_iff_mul_le hc).2 (by omega)
        rw [if_pos c2, if_pos hd, Array.getElem?_toList]
        congr 1
        have := Nat.div_add_mod m c
        rw [hd, Nat.mul_comm] at this
        omega
      · have hd : ¬ m / c = i := fun h => by
          have h6 : m < (i + 1) * c := (Nat.div_lt_iff_lt_mul hc).1 (show m / c < i + 1 by omega)
          omega
        rw [if_neg c2, if_neg hd, flat_get hc hL (by omega)]
        have hm1 : m - c + c = m := by omega
        have q1 : m / c = (m - c) / c + 1 := by have h7 := Nat.add_div_right (m - c) hc; rw [hm1] at h7; exact h7
        have q2 : m % c = (m - c) % c := by have h7 := Nat.add_mod_right (m - c) c; rw [hm1] at h7; exact h7
        rw [show m / c - 1 = (m - c) / c by rw [q1, Nat.add_sub_cancel], q2]
  · rw [if_neg (by omega), if_neg (by omega), List.getElem?_eq_none (by rw [hl]; omega), List.getElem?_eq_none (by rw [flatc_len hI]; omega)]
end Go.Proofs.Ytmjfbilhalkegaa
