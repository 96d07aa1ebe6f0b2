/- What a Spec that came in holds. No condition. -/
import Derived.Test.YtobokknfpjjdeaaNoneW05
import Derived.Test.YtobokknfpjjdeaaLeaf
import Derived.Deep.Slices
import Derived.OpenShut
namespace Go.Proofs.Ytobokknfpjjdeaa
set_option linter.unusedVariables false
set_option linter.unusedSimpArgs false
open Go.RowKit Go.Deep

section
variable {H : Type} {enc : TypeId × Value → H} {w : World} {base : Nat} {spare : Nat → Bool} {held : Bool}

theorem spec_trod {fuel : Nat} {cs : List Value} {x : DataW H × List MemPlace} (h : DataW.trod enc Try.prog w base spare held fuel 61 cs = some x) : IsSpec cs.toArray := by
  obtain ⟨hl, n, hf⟩ := fields Try.underlying61 h
  have hc : Try.prog.cellsOf 61 = 25 := by kernel_rfl
  have c2 : Try.prog.cellsOf 2 = 1 := by kernel_rfl
  have c22 : Try.prog.cellsOf 29 = 1 := by kernel_rfl
  have c5 : Try.prog.cellsOf 5 = 1 := by kernel_rfl
  have c23 : Try.prog.cellsOf 59 = 16 := by kernel_rfl
  obtain ⟨_, y0⟩ := hf 0 _ rfl
  obtain ⟨_, y1⟩ := hf 1 _ rfl
  obtain ⟨_, y2⟩ := hf 2 _ rfl
  obtain ⟨_, y3⟩ := hf 3 _ rfl
  obtain ⟨_, y4⟩ := hf 4 _ rfl
  obtain ⟨_, y5⟩ := hf 5 _ rfl
  obtain ⟨_, y6⟩ := (show ∃ y, DataW.trod enc Try.prog w base spare held n 59 ((cs.drop 6).take (Try.prog.cellsOf 59)) = some y from hf 6 _ rfl)
  rw [c23] at y6
  obtain ⟨_, y7⟩ := hf 7 _ rfl
  obtain ⟨_, y8⟩ := hf 8 _ rfl
  obtain ⟨_, y9⟩ := hf 9 _ rfl
  have l2 := leaf Try.underlying2 c2 y2
  have l3 := leaf Try.underlying2 c2 y3
  have l4 := leaf Try.underlying2 c2 y4
  have l5 := leaf Try.underlying2 c2 y5
  have l7 := leaf Try.underlying2 c2 y7
  have l6 : ∀ i, i < 16 → IsN cs.toArray .i64 (6 + i) := fun i hi => by
    obtain ⟨xs, m, _, _, _, hxl, hx⟩ := DataW.trod_array Try.underlying59 y6
    have hx1 := hx i hi
    rw [List.getElem?_eq_getElem (by rw [hxl]; exact hi)] at hx1
    have h1 := leaf Try.underlying2 c2 hx1
    rw [c2, Nat.mul_one] at h1
    exact h1.moved (drop_at hi)
  refine ⟨by simpa [hc] using hl, leaf Try.underlying29 c22 y0, leaf Try.underlying5 c5 y1, fun i h1 h2 => ?_, leaf Try.underlying29 c22 y8, leaf Try.underlying2 c2 y9⟩
  by_cases e : i < 6
  · have : i = 2 ∨ i = 3 ∨ i = 4 ∨ i = 5 := by omega
    rcases this with rfl | rfl | rfl | rfl
    · exact l2
    · exact l3
    · exact l4
    · exact l5
  · by_cases e2 : i = 22
    · subst e2; exact l7
    · have := l6 (i - 6) (by omega)
      rwa [show 6 + (i - 6) = i by omega] at this

set_option maxRecDepth 100000 in
theorem spec_of {r : Reach} {b : Nat} {v : Value} {d : DataW H} {p : List MemPlace} (hv : Value.okWide Try.prog w r b 61 v) (h : DataW.Trod enc Try.prog w 0 spare held 61 v d p) : ∃ A, v = .agg A ∧ IsSpec A := by
  obtain ⟨m, hm⟩ := h
  unfold Value.okWide at hv
  simp only [Try.underlying61] at hv
  obtain ⟨cs, rfl, _⟩ := hv
  have h1 := spec_trod hm
  exact ⟨cs, rfl, by simpa [Value.cells] using h1⟩
end
end Go.Proofs.Ytobokknfpjjdeaa
