/- What a slice of structs that came in holds, row by row. No condition. -/
import Derived.Test.YtobokknfpjjdeaaLeaf
namespace Go.Proofs.Ytobokknfpjjdeaa
set_option linter.unusedVariables false
set_option linter.unusedSimpArgs false
open Go.RowKit Go.Deep

/-- n rows of c cells each, one behind the other in one block -/
def RowsC (w : World) (c : Nat) (a : Option Addr) (n : Nat) (L : Nat → Array Value) : Prop :=
  ∀ i, i < n → ∃ g off A t fr, a = some (⟨g, off, none⟩ : Addr) ∧ w.heap[g]? = some (.cells A t fr) ∧ off + i * c + c ≤ A.size ∧ A.extract (off + i * c) (off + i * c + c) = L i
theorem RowsC.kept {w w' : World} {c n : Nat} {a : Option Addr} {L : Nat → Array Value} (h : RowsC w c a n L) (hb : Below w.heap.size w w') : RowsC w' c a n L := fun i hi => by
  obtain ⟨g, off, A, t, fr, h1, h2, h3⟩ := h i hi
  exact ⟨g, off, A, t, fr, h1, Ytobokknfpjjdeaa.kept hb h2, h3⟩
theorem RowsC.congr {w : World} {c n : Nat} {a : Option Addr} {L L' : Nat → Array Value} (h : RowsC w c a n L) (e : ∀ i, i < n → L i = L' i) : RowsC w c a n L' := fun i hi => by
  rw [← e i hi]; exact h i hi
section
variable {H : Type} {enc : TypeId × Value → H} {w : World} {spare : Nat → Bool} {held : Bool}
set_option maxRecDepth 100000 in
theorem rows_cells {a : Addr} {n c : Nat} {C : Nat → List Value} (hc0 : 0 < c) (h : ∀ i, i < n → w.cells? 0 (a.add (i * c)) c = some (C i)) : RowsC w c (some a) n (fun i => (C i).toArray) := by
  intro i hi
  have hc : ∀ i, i < n → ∀ j, j < c → w.cell? (a.add (i * c + j)) = (C i)[j]? ∧ (C i).length = c := fun i hi j hj => by
    obtain ⟨_, h2, h3⟩ := World.cells?_some (h i hi)
    rw [← h3 j hj, add_add]
    exact ⟨rfl, h2⟩
  obtain ⟨b, o, sp⟩ := a
  have h0 := hc 0 (by omega) 0 (by omega)
  have hl0 := h0.2
  have h00 : w.cell? ⟨b, o, sp⟩ = some ((C 0)[0]'(by omega)) := by
    have := h0.1
    simp only [Nat.zero_mul, Nat.add_zero] at this
    rw [show (⟨b, o, sp⟩ : Addr).add 0 = ⟨b, o, sp⟩ from rfl] at this
    rw [this]
    exact List.getElem?_eq_getElem _
  unfold World.cell? at h00
  cases hb : w.heap[b]? with
  | none => simp [hb] at h00
  | some ob =>
    cases ob with
    | cells A t fr =>
      simp only [hb] at h00
      cases sp with
      | some s => simp at h00
      | none =>
        have hA : ∀ i, i < n → ∀ j, j < c → A[o + i * c + j]? = (C i)[j]? := fun i hi j hj => by
          rw [← (hc i hi j hj).1]
          have : (⟨b, o, none⟩ : Addr).add (i * c + j) = ⟨b, o + i * c + j, none⟩ := by unfold Addr.add; split <;> simp_all; omega
          rw [this, cellF hb]
        have hs : o + i * c + c ≤ A.size := by
          have h1 := hA i hi (c - 1) (by omega)
          rw [List.getElem?_eq_getElem (by rw [(hc i hi 0 (by omega)).2]; omega)] at h1
          have := (Array.getElem?_eq_some_iff.1 h1).1
          omega
        refine ⟨b, o, A, t, fr, rfl, hb, hs, ?_⟩
        apply Array.ext_getElem?
        intro j
        rw [Array.getElem?_extract]
        by_cases hj : j < c
        · rw [if_pos (by omega), hA i hi j hj]; simp
        · rw [if_neg (by omega)]
          symm
          simp
          rw [(hc i hi 0 (by omega)).2]; omega
    | _ => simp [hb] at h00
set_option maxRecDepth 100000 in
/-- A slice of structs that came in. -/
theorem rows_of {T S : TypeId} {c : Nat} {Is : Array Value → Prop} {z : Array Value} (hz : Is z) (hS : Try.prog.underlying S = some (.slice T)) (hc : Try.prog.cellsOf T = c) (h0 : 0 < c)
    (ht : ∀ fuel cs x, DataW.trod enc Try.prog w 0 spare held fuel T cs = some x → Is cs.toArray)
    {r : Reach} {b : Nat} {v : Value} {d : DataW H} {p : List MemPlace} (hv : Value.okWide Try.prog w r b S v) (h : DataW.Trod enc Try.prog w 0 spare held S v d p) :
    ∃ (a : Option Addr) (n cap : Nat) (L : Nat → Array Value), v = .slice a n cap ∧ n ≤ cap ∧ cap ≤ 9223372036854775807 ∧ (∀ i, Is (L i)) ∧ RowsC w c a n L ∧ (a = none → n = 0 ∧ cap = 0) := by
  obtain ⟨m, hm⟩ := h
  obtain ⟨a, n, cap, rfl⟩ : ∃ a n cap, v = .slice a n cap := by
    unfold Value.okWide Cell.okWide at hv
    simp only [hS] at hv
    unfold Cell.ok at hv
    simp only [hS] at hv
    cases v <;> simp_all
  refine ⟨a, n, cap, ?_⟩
  rcases open_slice hS hm with ⟨hc, _⟩ | ⟨a', len, cap', m', f, D, Pl, hc1, _, hl, hmx, hmm, _, hx⟩
  · simp [Value.cells] at hc
    obtain ⟨rfl, rfl, rfl⟩ := hc
    exact ⟨fun _ => z, rfl, by omega, by omega, fun _ => hz, fun i hi => by omega, fun _ => ⟨rfl, rfl⟩⟩
  · simp [Value.cells] at hc1
    obtain ⟨rfl, rfl, rfl⟩ := hc1
    have hlm : n ≤ m' := by rw [hmm]; split <;> omega
    rw [hc] at hx
    obtain ⟨C, hC⟩ := choose_lt (α := List Value) (n := n) (p := fun i cs => w.cells? 0 (a'.add (i * c)) c = some cs ∧ DataW.trod enc Try.prog w 0 spare held f T cs = some (D i, Pl i)) (fun i hi => hx i (by omega))
    refine ⟨fun i => if i < n then (C i).toArray else z, rfl, hl, by unfold maxLen at hmx; omega, fun i => ?_, (rows_cells h0 (fun i hi => (hC i hi).1)).congr (fun i hi => by simp [hi]), fun h => by cases h⟩
    simp only
    split
    · rename_i hi
      exact ht _ _ _ (hC i hi).2
    · exact hz
end
end Go.Proofs.Ytobokknfpjjdeaa
