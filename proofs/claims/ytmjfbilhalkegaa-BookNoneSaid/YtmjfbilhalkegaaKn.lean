/- What a loop's body over a function keeps: every block of cells that lay from s on. No condition. -/
import Derived.Test.YtmjfbilhalkegaaRange
import Derived.RangeFuncKeeps
namespace Go.Proofs.Ytmjfbilhalkegaa
set_option linter.unusedVariables false
set_option linter.unusedSimpArgs false
open Go.RowKit Go.Shelf

/-- every block of cells from s on stays -/
def Kn (s : Nat) (A B : World) : Prop := ∀ i c t fr, s ≤ i → A.heap[i]? = some (.cells c t fr) → B.heap[i]? = some (.cells c t fr)
theorem Kn.trans {s : Nat} {A B C : World} (h1 : Kn s A B) (h2 : Kn s B C) : Kn s A C := fun i c t fr hi h => h2 i c t fr hi (h1 i c t fr hi h)
theorem Kn.refl (s : Nat) (A : World) : Kn s A A := fun _ _ _ _ _ h => h
theorem kn_put {s : Nat} (W : World) (l : Nat) (o o' : Obj) (hl : W.heap[l]? = some o) (ho : o.isCells = false) : Kn s W (W.putObj l o') := fun i c t fr _ h => by
  refine put_other (o := o) (o' := o') hl h (fun e => ?_)
  subst e
  rw [hl] at h
  injection h with h
  rw [h] at ho
  exact absurd ho (by simp [Obj.isCells])
theorem kn_below {s : Nat} {A B : World} (h : Below A.heap.size A B) : Kn s A B := fun i c t fr _ h1 => Ytmjfbilhalkegaa.kept h h1
theorem kn_set {s : Nat} {A B : World} {g : Nat} (hg : g < s) (h : ∀ k, k ≠ g → B.heap[k]? = A.heap[k]?) : Kn s A B := fun i c t fr hi h1 => (h i (by omega)).trans h1
theorem abides_below {J : Nat → World → Prop} {B : Nat} (hJ : AbidesFrom B J) {xs : Nat} {W W' : World} (h : J xs W) (hg : W.grownBy W' none) : J xs W' := hJ xs W W' none h hg (fun _ e => by cases e)
theorem grownBy_of_below {W W' : World} (h : Below W.heap.size W W') : W.grownBy W' none := ⟨h.os, h.tape, h.output, h.size, fun k hk _ => h.block k hk⟩
end Go.Proofs.Ytmjfbilhalkegaa
