/- A script of calls on a side that came in. No condition. -/
import Derived.Test.YtobokknfpjjdeaaRowsIn
namespace Go.Proofs.Ytobokknfpjjdeaa
set_option linter.unusedVariables false
set_option linter.unusedSimpArgs false
open Go.RowKit Go.Deep
structure IsOp (A : Array Value) : Prop where
  size : A.size = 7
  k : IsN A .i64 0
  o : IsOrd (A.extract 1 6)
  n : IsN A .i64 6
theorem IsOp.all {A : Array Value} (h : IsOp A) : A.all (·.oneCell') = true := all_one fun i v hv => by
  have hi : i < 7 := by have := (Array.getElem?_eq_some_iff.1 hv).1; have := h.size; omega
  have ho := h.o.all
  by_cases e0 : i = 0
  · subst e0; exact h.k.one hv
  · by_cases e6 : i = 6
    · subst e6; exact h.n.one hv
    · rw [Array.all_eq_true'] at ho
      refine ho v ?_
      have : (A.extract 1 6)[i - 1]? = some v := by rw [Array.getElem?_extract, if_pos (by have := h.size; omega), show 1 + (i - 1) = i by omega]; exact hv
      exact Array.mem_of_getElem? this
def zop : Array Value := #[.int .i64 0, .int .u64 0, .int .u32 0, .bool false, .int .i64 0, .int .i64 0, .int .i64 0]
theorem zop_op : IsOp zop := ⟨rfl, IsN_of rfl (by decide), by rw [show zop.extract 1 6 = zo from rfl]; exact zo_ord, IsN_of rfl (by decide)⟩
section
variable {H : Type} {enc : TypeId × Value → H} {w : World} {spare : Nat → Bool} {held : Bool}
theorem op_trod {fuel : Nat} {cs : List Value} {x : DataW H × List MemPlace} (h : DataW.trod enc Try.prog w 0 spare held fuel 40 cs = some x) : IsOp cs.toArray := by
  obtain ⟨hl, n, hf⟩ := fields Try.underlying40 h
  have hc : Try.prog.cellsOf 40 = 7 := by kernel_rfl
  have c2 : Try.prog.cellsOf 2 = 1 := by kernel_rfl
  have c3 : Try.prog.cellsOf 3 = 1 := by kernel_rfl
  have c5 : Try.prog.cellsOf 31 = 5 := by kernel_rfl
  obtain ⟨_, y0⟩ := hf 0 _ rfl
  obtain ⟨_, y1⟩ := (show ∃ y, DataW.trod enc Try.prog w 0 spare held n 31 ((cs.drop 1).take (Try.prog.cellsOf 31)) = some y from hf 1 _ rfl)
  obtain ⟨_, y2⟩ := hf 2 _ rfl
  rw [c5] at y1
  have h1 := ord_trod y1
  refine ⟨by simpa [hc] using hl, leaf Try.underlying3 c3 y0, ?_, leaf Try.underlying2 c2 y2⟩
  have e : cs.toArray.extract 1 6 = ((cs.drop 1).take 5).toArray := by simp
  rw [e]
  exact h1
set_option maxRecDepth 100000 in
theorem ops_of {r : Reach} {b : Nat} {v : Value} {d : DataW H} {p : List MemPlace} (hv : Value.okWide Try.prog w r b 38 v) (h : DataW.Trod enc Try.prog w 0 spare held 38 v d p) :
    ∃ (a : Option Addr) (n cap : Nat) (L : Nat → Array Value), v = .slice a n cap ∧ n ≤ cap ∧ cap ≤ 9223372036854775807 ∧ (∀ i, IsOp (L i)) ∧ RowsC w 7 a n L ∧ (a = none → n = 0 ∧ cap = 0) :=
  rows_of zop_op Try.underlying38 (by kernel_rfl) (by decide) (fun _ _ _ h => op_trod h) hv h
end
end Go.Proofs.Ytobokknfpjjdeaa
