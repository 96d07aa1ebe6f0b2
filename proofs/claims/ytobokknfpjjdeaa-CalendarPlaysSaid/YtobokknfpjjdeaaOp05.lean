/- A script of calls on a calendar that came in. No condition. -/
import Derived.Test.YtobokknfpjjdeaaConIn05
namespace Go.Proofs.Ytobokknfpjjdeaa
set_option linter.unusedVariables false
set_option linter.unusedSimpArgs false
open Go.RowKit Go.Deep
structure IsOp5 (A : Array Value) : Prop where
  size : A.size = 29
  k : IsN A .i64 0
  sp : IsSpec (A.extract 1 26)
  n : IsN A .u32 26
  on : IsB A 27
  pr : IsN A .i64 28
theorem IsOp5.all {A : Array Value} (h : IsOp5 A) : A.all (·.oneCell') = true := all_one fun i v hv => by
  have hi : i < 29 := by have := (Array.getElem?_eq_some_iff.1 hv).1; have := h.size; omega
  have ho := h.sp.all
  by_cases e0 : i = 0
  · subst e0; exact h.k.one hv
  · by_cases e26 : i = 26
    · subst e26; exact h.n.one hv
    · by_cases e27 : i = 27
      · subst e27; exact h.on.one hv
      · by_cases e28 : i = 28
        · subst e28; exact h.pr.one hv
        · rw [Array.all_eq_true'] at ho
          refine ho v ?_
          have : (A.extract 1 26)[i - 1]? = some v := by rw [Array.getElem?_extract, if_pos (by have := h.size; omega), show 1 + (i - 1) = i by omega]; exact hv
          exact Array.mem_of_getElem? this
def zop5 : Array Value := #[.int .i64 0] ++ kp 1 (-1) ++ #[.int .u32 0, .bool false, .int .i64 0]
theorem zop5_op : IsOp5 zop5 := ⟨rfl, IsN_of (n := 0) rfl (by decide), by rw [show zop5.extract 1 26 = kp 1 (-1) from by kernel_rfl]; exact kp_spec, IsN_of (n := 0) rfl (by decide), IsB_of (b := false) rfl, IsN_of (n := 0) rfl (by decide)⟩
section
variable {H : Type} {enc : TypeId × Value → H} {w : World} {spare : Nat → Bool} {held : Bool}
theorem leafB5 {fuel o : Nat} {t : TypeId} {cs : List Value} {x : DataW H × List MemPlace} (hu : Try.prog.underlying t = some .bool) (hc : Try.prog.cellsOf t = 1)
    (h : DataW.trod enc Try.prog w 0 spare held fuel t ((cs.drop o).take (Try.prog.cellsOf t)) = some x) : IsB cs.toArray o := by
  obtain ⟨n, h1, _⟩ := DataW.trod_bool hu h
  rw [hc] at h1
  have h2 := congrArg (fun l => l[0]?) h1
  simp [List.getElem?_take, List.getElem?_drop] at h2
  exact IsB_of (by simpa using h2)
theorem op5_trod {fuel : Nat} {cs : List Value} {x : DataW H × List MemPlace} (h : DataW.trod enc Try.prog w 0 spare held fuel 85 cs = some x) : IsOp5 cs.toArray := by
  obtain ⟨hl, n, hf⟩ := fields Try.underlying85 h
  have hc : Try.prog.cellsOf 85 = 29 := by kernel_rfl
  have c2 : Try.prog.cellsOf 2 = 1 := by kernel_rfl
  have c3 : Try.prog.cellsOf 3 = 1 := by kernel_rfl
  have c4 : Try.prog.cellsOf 29 = 1 := by kernel_rfl
  have c6 : Try.prog.cellsOf 4 = 1 := by kernel_rfl
  have c5 : Try.prog.cellsOf 61 = 25 := by kernel_rfl
  obtain ⟨_, y0⟩ := hf 0 _ rfl
  obtain ⟨_, y1⟩ := (show ∃ y, DataW.trod enc Try.prog w 0 spare held n 61 ((cs.drop 1).take (Try.prog.cellsOf 61)) = some y from hf 1 _ rfl)
  obtain ⟨_, y2⟩ := hf 2 _ rfl
  obtain ⟨_, y3⟩ := hf 3 _ rfl
  obtain ⟨_, y4⟩ := hf 4 _ rfl
  rw [c5] at y1
  have h1 := spec_trod y1
  refine ⟨by simpa [hc] using hl, leaf Try.underlying3 c3 y0, ?_, leaf Try.underlying29 c4 y2, leafB5 Try.underlying4 c6 y3, leaf Try.underlying2 c2 y4⟩
  have e : cs.toArray.extract 1 26 = ((cs.drop 1).take 25).toArray := by simp
  rw [e]
  exact h1
set_option maxRecDepth 100000 in
theorem ops5_of {r : Reach} {b : Nat} {v : Value} {d : DataW H} {p : List MemPlace} (hv : Value.okWide Try.prog w r b 80 v) (h : DataW.Trod enc Try.prog w 0 spare held 80 v d p) :
    ∃ (a : Option Addr) (n cap : Nat) (L : Nat → Array Value), v = .slice a n cap ∧ n ≤ cap ∧ cap ≤ 9223372036854775807 ∧ (∀ i, IsOp5 (L i)) ∧ RowsC w 29 a n L ∧ (a = none → n = 0 ∧ cap = 0) :=
  rows_of zop5_op Try.underlying80 (by kernel_rfl) (by decide) (fun _ _ _ h => op5_trod h) hv h
end
end Go.Proofs.Ytobokknfpjjdeaa
