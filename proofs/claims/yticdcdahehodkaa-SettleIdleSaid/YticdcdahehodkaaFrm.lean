/- Great frames: one function for all slots. No condition. -/
import Derived.Test.YticdcdahehodkaaRow
import Derived.Deep.LoopGhost
namespace Go.Proofs.Yticdcdahehodkaa
set_option linter.unusedVariables false
set_option linter.unusedSimpArgs false
open Go.RowKit

theorem ex_act {T : Array Value} {ds : List Deferred} {p : (Nat → Value) → Prop} {lit : (Nat → Value) → Array Value} (h1 : p (fun i => T.getD i undef)) (h2 : T = lit (fun i => T.getD i undef)) : ∃ u, p u ∧ (⟨T, ds⟩ : Act) = ⟨lit u, ds⟩ :=
  ⟨_, h1, by rw [← h2]⟩
theorem close_round {J I : Nat → Act → World → Prop} {n : Nat} {a : Act} {w : World} (hJ : ∀ k a w, I k a w → J k a w) (k : Nat) (hk : k < n) (h : I k a w) : Handed J n a w := Handed.intro k hk (hJ _ _ _ h)
/-- the walk stands still here -/
structure Stop (p : Prop) : Prop where
  out : p
theorem stop_at {p : Prop} (h : Stop p) : p := h.out
end Go.Proofs.Yticdcdahehodkaa
