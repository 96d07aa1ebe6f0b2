/- Slices of contracts that came in. No condition. -/
import Derived.Test.YtobokknfpjjdeaaOrdIn05
namespace Go.Proofs.Ytobokknfpjjdeaa
set_option linter.unusedVariables false
set_option linter.unusedSimpArgs false
open Go.RowKit Go.Deep

def zcon : Array Value := kp 1 (-1) ++ #[.int .u8 1, .int .i64 12]
theorem zcon_con : IsCon zcon := ⟨rfl, by rw [show zcon.extract 0 25 = kp 1 (-1) from by kernel_rfl]; exact kp_spec, IsN_of (n := 1) rfl (by decide), IsN_of (n := 12) rfl (by decide)⟩
section
variable {H : Type} {enc : TypeId × Value → H} {w : World} {spare : Nat → Bool} {held : Bool}
theorem con_trod {fuel : Nat} {cs : List Value} {x : DataW H × List MemPlace} (h : DataW.trod enc Try.prog w 0 spare held fuel 65 cs = some x) : IsCon cs.toArray := by
  obtain ⟨hl, n, hf⟩ := fields Try.underlying65 h
  have hc : Try.prog.cellsOf 65 = 27 := by kernel_rfl
  have c2 : Try.prog.cellsOf 2 = 1 := by kernel_rfl
  have c3 : Try.prog.cellsOf 63 = 1 := by kernel_rfl
  have c5 : Try.prog.cellsOf 61 = 25 := by kernel_rfl
  obtain ⟨_, y0⟩ := (show ∃ y, DataW.trod enc Try.prog w 0 spare held n 61 ((cs.drop 0).take (Try.prog.cellsOf 61)) = some y from hf 0 _ rfl)
  obtain ⟨_, y1⟩ := hf 1 _ rfl
  obtain ⟨_, y2⟩ := hf 2 _ rfl
  rw [c5] at y0
  have h0 := spec_trod y0
  refine ⟨by simpa [hc] using hl, ?_, leaf Try.underlying63 c3 y1, leaf Try.underlying2 c2 y2⟩
  have e : cs.toArray.extract 0 25 = ((cs.drop 0).take 25).toArray := by simp
  rw [e]
  exact h0
set_option maxRecDepth 100000 in
theorem cons_of {r : Reach} {b : Nat} {v : Value} {d : DataW H} {p : List MemPlace} (hv : Value.okWide Try.prog w r b 62 v) (h : DataW.Trod enc Try.prog w 0 spare held 62 v d p) :
    ∃ (a : Option Addr) (n cap : Nat) (L : Nat → Array Value), v = .slice a n cap ∧ n ≤ cap ∧ cap ≤ 9223372036854775807 ∧ (∀ i, IsCon (L i)) ∧ RowsC w 27 a n L ∧ (a = none → n = 0 ∧ cap = 0) :=
  rows_of zcon_con Try.underlying62 (by kernel_rfl) (by decide) (fun _ _ _ h => con_trod h) hv h
end
end Go.Proofs.Ytobokknfpjjdeaa
