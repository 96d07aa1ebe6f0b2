/- An order that came in. No condition. -/
import Derived.Test.YtnpjclodcgejgaaStkIn
namespace Go.Proofs.Ytnpjclodcgejgaa
set_option linter.unusedVariables false
set_option linter.unusedSimpArgs false
open Go.RowKit Go.Deep
section
variable {H : Type} {enc : TypeId × Value → H} {w : World} {spare : Nat → Bool} {held : Bool}
theorem ord_of {r : Reach} {b : Nat} {v : Value} {d : DataW H} {p : List MemPlace} (hv : Value.okWide Try.prog w r b 41 v) (h : DataW.Trod enc Try.prog w 0 spare held 41 v d p) : ∃ A, v = .agg A ∧ IsOrd A := by
  obtain ⟨m, hm⟩ := h
  unfold Value.okWide at hv
  simp only [Try.underlying41] at hv
  obtain ⟨cs, rfl, _⟩ := hv
  have h1 := ord_trod hm
  exact ⟨cs, rfl, by simpa [Value.cells] using h1⟩
end
end Go.Proofs.Ytnpjclodcgejgaa
