/- What a struct that came in holds, cell by cell. No condition. -/
import Derived.Test.YtmjfbilhalkegaaPost
import Derived.Deep.Slices
import Derived.OpenShut
namespace Go.Proofs.Ytmjfbilhalkegaa
set_option linter.unusedVariables false
set_option linter.unusedSimpArgs false
open Go.RowKit Go.Deep

section
variable {H : Type} {enc : TypeId × Value → H} {w : World} {base : Nat} {spare : Nat → Bool} {held : Bool}

theorem leaf {fuel o : Nat} {t : TypeId} {k : IntKind} {cs : List Value} {x : DataW H × List MemPlace} (hu : Try.prog.underlying t = some (.int k)) (hc : Try.prog.cellsOf t = 1)
    (h : DataW.trod enc Try.prog w base spare held fuel t ((cs.drop o).take (Try.prog.cellsOf t)) = some x) : IsN cs.toArray k o := by
  obtain ⟨n, h1, _, hw⟩ := DataW.trod_int hu h
  rw [hc] at h1
  have h2 := congrArg (fun l => l[0]?) h1
  simp [List.getElem?_take, List.getElem?_drop] at h2
  exact IsN_of (by simpa using h2) (by simpa [Lit.wf] using hw)
theorem fields {fuel : Nat} {t : TypeId} {fs : Array Field} {cs : List Value} {x : DataW H × List MemPlace} (ht : Try.prog.underlying t = some (.struct fs)) (h : DataW.trod enc Try.prog w base spare held fuel t cs = some x) :
    cs.length = Try.prog.cellsOf t ∧ ∃ n, ∀ (i : Nat) (f : Field), fs[i]? = some f → ∃ y, DataW.trod enc Try.prog w base spare held n f.type ((cs.drop f.offset).take (Try.prog.cellsOf f.type)) = some y := by
  obtain ⟨xs, n, _, _, hl, hxl, hx⟩ := DataW.trod_struct ht h
  refine ⟨hl, n, fun i f hf => ?_⟩
  have hi : i < xs.length := by rw [hxl]; exact (Array.getElem?_eq_some_iff.1 hf).1
  exact ⟨xs[i], by rw [hx i f hf]; exact List.getElem?_eq_getElem hi⟩
theorem drop_at {cs : List Value} {o c i : Nat} (h : i < c) : ((cs.drop o).take c).toArray[i]? = cs.toArray[o + i]? := by
  simp [List.getElem?_take, List.getElem?_drop, h]
theorem IsN.moved {A B : Array Value} {i j : Nat} {k : IntKind} (h : IsN A k i) (e : A[i]? = B[j]?) : IsN B k j := by
  obtain ⟨h1, h2⟩ := h
  exact IsN_of (by rw [← e]; exact h1) h2

end
end Go.Proofs.Ytmjfbilhalkegaa
