/- Slices of holders: what comes in; one more appended. No condition. -/
import Derived.Test.YticdcdahehodkaaRowsG
import Derived.Test.YticdcdahehodkaaSl1
namespace Go.Proofs.Yticdcdahehodkaa
set_option linter.unusedVariables false
set_option linter.unusedSimpArgs false
open Go.RowKit Go.Deep

/-- a holder's two cells -/
def hA (a q : Int) : Array Value := #[.int .u32 a, .int .i64 q]
theorem hA_size (a q : Int) : (hA a q).size = 2 := rfl
theorem hA_all (a q : Int) : (hA a q).all (·.oneCell') = true := by simp [hA, Value.oneCell']
theorem hA_0 (a q : Int) : (hA a q)[0]? = some (.int .u32 a) := rfl
theorem hA_1 (a q : Int) : (hA a q)[1]? = some (.int .i64 q) := rfl
def IsHold (A : Array Value) : Prop := ∃ a q : Int, A = hA a q ∧ 0 ≤ a ∧ a ≤ 4294967295 ∧ F64 q
/-- n holders, by account and quantity -/
def Holds (w : World) (ad : Option Addr) (n : Nat) (A Q : Nat → Int) : Prop := RowsC w 2 ad n (fun i => hA (A i) (Q i))
theorem Holds.kept {w w' : World} {ad : Option Addr} {n : Nat} {A Q : Nat → Int} (h : Holds w ad n A Q) (hb : Below w.heap.size w w') : Holds w' ad n A Q := RowsC.kept h hb
section
variable {H : Type} {enc : TypeId × Value → H} {w : World} {spare : Nat → Bool} {held : Bool}
theorem hold_trod {fuel : Nat} {cs : List Value} {x : DataW H × List MemPlace} (h : DataW.trod enc Try.prog w 0 spare held fuel 32 cs = some x) : IsHold cs.toArray := by
  obtain ⟨hl, n, hf⟩ := fields Try.underlying32 h
  have hc : Try.prog.cellsOf 32 = 2 := by kernel_rfl
  have c2 : Try.prog.cellsOf 2 = 1 := by kernel_rfl
  have c3 : Try.prog.cellsOf 30 = 1 := by kernel_rfl
  obtain ⟨_, y0⟩ := hf 0 _ rfl
  obtain ⟨_, y1⟩ := hf 1 _ rfl
  have l0 : IsN cs.toArray .u32 0 := leaf Try.underlying30 c3 y0
  have l1 : IsN cs.toArray .i64 1 := leaf Try.underlying2 c2 y1
  rw [hc] at hl
  obtain ⟨e0, b0, b0'⟩ := l0
  obtain ⟨e1, b1, b1'⟩ := l1
  refine ⟨N cs.toArray 0, N cs.toArray 1, ?_, b0, b0', b1, b1'⟩
  apply Array.ext_getElem?
  intro i
  unfold hA
  by_cases h0 : i = 0
  · subst h0; rw [e0]; rfl
  · by_cases h1 : i = 1
    · subst h1; rw [e1]; rfl
    · rw [Array.getElem?_eq_none_iff.2 (by simp [hl]; omega), Array.getElem?_eq_none_iff.2 (by simp; omega)]
set_option maxRecDepth 100000 in
theorem holds_of {r : Reach} {b : Nat} {v : Value} {d : DataW H} {p : List MemPlace} (hv : Value.okWide Try.prog w r b 22 v) (h : DataW.Trod enc Try.prog w 0 spare held 22 v d p) :
    ∃ (a : Option Addr) (n cap : Nat) (A Q : Nat → Int), v = .slice a n cap ∧ n ≤ cap ∧ cap ≤ 9223372036854775807 ∧ (∀ i, (0 ≤ A i ∧ A i ≤ 4294967295) ∧ F64 (Q i)) ∧ Holds w a n A Q ∧ (a = none → n = 0 ∧ cap = 0) := by
  obtain ⟨a, n, cap, L, rfl, h1, h2, h3, h4, h5⟩ := rows_of (Is := IsHold) (z := hA 0 0) ⟨0, 0, rfl, by omega, by omega, by unfold F64; omega⟩ Try.underlying22 (c := 2) (by kernel_rfl) (by decide) (fun _ _ _ h => hold_trod h) hv h
  have e : ∀ i, L i = hA (N (L i) 0) (N (L i) 1) := fun i => by
    obtain ⟨x, y, e, _⟩ := h3 i
    rw [e]; rfl
  refine ⟨a, n, cap, fun i => N (L i) 0, fun i => N (L i) 1, rfl, h1, h2, fun i => ?_, RowsC.congr h4 (fun i _ => e i), h5⟩
  obtain ⟨x, y, e, b1, b2, b3⟩ := h3 i
  simp only [e]
  exact ⟨⟨b1, b2⟩, b3⟩
end
/-- the cells of a holder that is read -/
theorem Holds.at {w : World} {ad : Option Addr} {n i : Nat} {A Q : Nat → Int} (h : Holds w ad n A Q) (hi : i < n) : ∃ g off B t fr, ad = some (⟨g, off, none⟩ : Addr) ∧ w.heap[g]? = some (.cells B t fr) ∧ off + i * 2 + 2 ≤ B.size ∧ B.extract (off + i * 2) (off + i * 2 + 2) = hA (A i) (Q i) ∧
    w.cell? ⟨g, off + i * 2, none⟩ = some (.int .u32 (A i)) ∧ w.cell? ⟨g, off + i * 2 + 1, none⟩ = some (.int .i64 (Q i)) := by
  obtain ⟨g, off, B, t, fr, h1, h2, h3, h4⟩ := h i hi
  refine ⟨g, off, B, t, fr, h1, h2, h3, h4, ?_, ?_⟩
  · rw [cellF h2]
    have := congrArg (fun C : Array Value => C[0]?) h4
    simp only [Array.getElem?_extract] at this
    rw [if_pos (by omega)] at this
    exact this
  · rw [cellF h2]
    have := congrArg (fun C : Array Value => C[1]?) h4
    simp only [Array.getElem?_extract] at this
    rw [if_pos (by omega)] at this
    exact this
theorem info_hold : ∃ i z, Try.prog.info? 32 = some i ∧ i.zero = some z ∧ i.size = 2 ∧ i.bytes ≤ 1000 ∧ z.cells.size = 2 := by
  have h : (Try.prog.info? 32).map (fun i => (i.size, decide (i.bytes ≤ 1000), i.zero.map (·.cells.size))) = some (2, true, some 2) := by kernel_rfl
  cases hi : Try.prog.info? 32 with
  | none => simp [hi] at h
  | some i =>
    simp [hi] at h
    obtain ⟨h1, h2, z, h3, h4⟩ := h
    exact ⟨i, z, rfl, h3, h1, h2, h4⟩
end Go.Proofs.Yticdcdahehodkaa
