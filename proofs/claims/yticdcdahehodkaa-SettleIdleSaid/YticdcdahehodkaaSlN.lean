/- A slice built of named cells. No condition. -/
import Derived.Test.YticdcdahehodkaaRow
import Derived.Great.BuildSlice
namespace Go.Proofs.Yticdcdahehodkaa
set_option linter.unusedVariables false
set_option linter.unusedSimpArgs false
open Go.RowKit

theorem at_buildSlice (T : TypeId) {P : Program} {ops : Array Oper} {Q : Exit → Act → World → Prop} {rest : List Oper} {a : Act} {w : World} {d : Option Tmp} {n : Nat} {ps : Array (Nat × Operand)} {ty : TypeId} {pos : String} {af : Array Edge} {gd : Option (Nat × Bool)}
    (h : wpList P ops Q (⟨d, .buildSlice T n ps, ty, pos, af, gd⟩ :: rest) a w) : wpList P ops Q (⟨d, .buildSlice T n ps, ty, pos, af, gd⟩ :: rest) a w := h
def sliceCells (P : Program) (e : TypeId) (len : Nat) (ps : List (Nat × Value)) : Option (Array Value) :=
  (P.info? e).bind fun ie => ie.zero.bind fun z => if len * ie.size > 2 ^ 24 ∨ len * ie.size = 0 then none else
    Instr.fill (fun i => some (i * ie.size, ie.size)) ((Array.range (len * ie.size)).map (z.cells[· % z.cells.size]!)) ps
theorem wpList_slice_named {P : Program} {ops : Array Oper} {rest : List Oper} {o : Oper} {a : Act} {w : World} {Q : Exit → Act → World → Prop} (hg : o.guard = none) (t e : TypeId) (len : Nat) (parts : Array (Nat × Operand)) (ho : o.op = .buildSlice t len parts)
    (B : Array Value) (hu : P.underlying t = some (.slice e)) (hf : sliceCells P e len (parts.map fun (i, x) => (i, a.eval x)).toList = some B)
    (h : wpList P ops Q rest (a.put o.dst (.slice (some ⟨w.heap.size, 0, none⟩) len len)) (w.alloc (.cells B e))) : wpList P ops Q (o :: rest) a w := by
  unfold sliceCells at hf
  cases hie : P.info? e with
  | none => simp [hie] at hf
  | some ie =>
    cases hz : ie.zero with
    | none => simp [hie, hz] at hf
    | some z =>
      simp only [hie, hz, Option.bind_some] at hf
      split at hf
      · simp at hf
      · rename_i hn
        exact wpList_buildSlice hg t e len parts ho B ie z hu hie hz (fun h => hn (Or.inl h)) (fun h => hn (Or.inr h)) hf h
end Go.Proofs.Yticdcdahehodkaa
