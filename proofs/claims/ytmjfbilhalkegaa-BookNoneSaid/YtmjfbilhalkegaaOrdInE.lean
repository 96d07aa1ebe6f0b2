/- An order that came in (the seat of sides and calendars). No condition. -/
import Derived.Test.YtmjfbilhalkegaaLeaf
import Derived.Test.YtmjfbilhalkegaaSideM
namespace Go.Proofs.Ytmjfbilhalkegaa
set_option linter.unusedVariables false
set_option linter.unusedSimpArgs false
open Go.RowKit Go.Deep
set_option maxRecDepth 100000
section
variable {H : Type} {enc : TypeId × Value → H} {w : World} {base : Nat} {spare : Nat → Bool} {held : Bool}
theorem leafB {fuel o : Nat} {t : TypeId} {cs : List Value} {x : DataW H × List MemPlace} (hu : Try.prog.underlying t = some .bool) (hc : Try.prog.cellsOf t = 1)
    (h : DataW.trod enc Try.prog w base spare held fuel t ((cs.drop o).take (Try.prog.cellsOf t)) = some x) : IsB cs.toArray o := by
  obtain ⟨n, h1, _⟩ := DataW.trod_bool hu h
  rw [hc] at h1
  have h2 := congrArg (fun l => l[0]?) h1
  simp [List.getElem?_take, List.getElem?_drop] at h2
  exact IsB_of (by simpa using h2)
theorem ord_trod {fuel : Nat} {cs : List Value} {x : DataW H × List MemPlace} (h : DataW.trod enc Try.prog w base spare held fuel 30 cs = some x) : IsOrd cs.toArray := by
  obtain ⟨hl, n, hf⟩ := fields Try.underlying30 h
  have hc : Try.prog.cellsOf 30 = 5 := by kernel_rfl
  have c2 : Try.prog.cellsOf 2 = 1 := by kernel_rfl
  have c3 : Try.prog.cellsOf 27 = 1 := by kernel_rfl
  have c4 : Try.prog.cellsOf 28 = 1 := by kernel_rfl
  have c5 : Try.prog.cellsOf 4 = 1 := by kernel_rfl
  obtain ⟨_, y0⟩ := hf 0 _ rfl
  obtain ⟨_, y1⟩ := hf 1 _ rfl
  obtain ⟨_, y2⟩ := hf 2 _ rfl
  obtain ⟨_, y3⟩ := hf 3 _ rfl
  obtain ⟨_, y4⟩ := hf 4 _ rfl
  exact ⟨by simpa [hc] using hl, leaf Try.underlying27 c3 y0, leaf Try.underlying28 c4 y1, leafB Try.underlying4 c5 y2, leaf Try.underlying2 c2 y3, leaf Try.underlying2 c2 y4⟩
end
section
variable {H : Type} {enc : TypeId × Value → H} {w : World} {spare : Nat → Bool} {held : Bool}
theorem ord_of {r : Reach} {b : Nat} {v : Value} {d : DataW H} {p : List MemPlace} (hv : Value.okWide Try.prog w r b 30 v) (h : DataW.Trod enc Try.prog w 0 spare held 30 v d p) : ∃ A, v = .agg A ∧ IsOrd A := by
  obtain ⟨m, hm⟩ := h
  unfold Value.okWide at hv
  simp only [Try.underlying30] at hv
  obtain ⟨cs, rfl, _⟩ := hv
  have h1 := ord_trod hm
  exact ⟨cs, rfl, by simpa [Value.cells] using h1⟩
end
end Go.Proofs.Ytmjfbilhalkegaa
