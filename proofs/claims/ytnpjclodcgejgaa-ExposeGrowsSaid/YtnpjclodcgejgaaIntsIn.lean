/- What a slice of integers that came in holds. No condition. -/
import Derived.Test.YtnpjclodcgejgaaSumI
import Derived.Deep.Slices
import Derived.OpenShut
namespace Go.Proofs.Ytnpjclodcgejgaa
set_option linter.unusedVariables false
set_option linter.unusedSimpArgs false
open Go.RowKit Go.Deep

section
variable {H : Type} {enc : TypeId × Value → H} {w : World} {base : Nat} {spare : Nat → Bool} {held : Bool}
theorem ints_cells {a : Addr} {n : Nat} {Z : Nat → Int} (h : ∀ i, i < n → w.cell? (a.add i) = some (.int .i64 (Z i))) : Ints w (some a) n Z := by
  intro i hi
  obtain ⟨b, o, sp⟩ := a
  have h00 := h 0 (by omega)
  rw [show (⟨b, o, sp⟩ : Addr).add 0 = ⟨b, o, sp⟩ from rfl] at h00
  unfold World.cell? at h00
  cases hb : w.heap[b]? with
  | none => simp [hb] at h00
  | some ob =>
    cases ob with
    | cells A t fr =>
      simp only [hb] at h00
      cases sp with
      | some s => simp at h00
      | none =>
        have hA := h i hi
        have : (⟨b, o, none⟩ : Addr).add i = ⟨b, o + i, none⟩ := by unfold Addr.add; split <;> simp_all
        rw [this, cellF hb] at hA
        exact ⟨b, o, A, t, fr, rfl, hb, hA⟩
    | _ => simp [hb] at h00
set_option maxRecDepth 100000 in
theorem ints_of {r : Reach} {b : Nat} {v : Value} {d : DataW H} {p : List MemPlace} (hv : Value.okWide Try.prog w r b 45 v) (h : DataW.Trod enc Try.prog w 0 spare held 45 v d p) :
    ∃ (a : Option Addr) (n cap : Nat) (Z : Nat → Int), v = .slice a n cap ∧ n ≤ cap ∧ cap ≤ 9223372036854775807 ∧ (∀ i, F64 (Z i)) ∧ Ints w a n Z ∧ (a = none → n = 0 ∧ cap = 0) := by
  obtain ⟨m, hm⟩ := h
  obtain ⟨a, n, cap, rfl⟩ : ∃ a n cap, v = .slice a n cap := by
    unfold Value.okWide Cell.okWide at hv
    simp only [Try.underlying45] at hv
    unfold Cell.ok at hv
    simp only [Try.underlying45] at hv
    cases v <;> simp_all
  refine ⟨a, n, cap, ?_⟩
  have c1 : Try.prog.cellsOf 2 = 1 := by kernel_rfl
  rcases open_slice1 Try.underlying45 c1 hm with ⟨hc, _⟩ | ⟨a', len, cap', m', f, V, D, Pl, hc, _, hl, hmx, hmm, _, hx⟩
  · simp [Value.cells] at hc
    obtain ⟨rfl, rfl, rfl⟩ := hc
    exact ⟨fun _ => 0, rfl, by omega, by omega, fun _ => by show F64 0; unfold F64; omega, fun i hi => by omega, fun _ => ⟨rfl, rfl⟩⟩
  · simp [Value.cells] at hc
    obtain ⟨rfl, rfl, rfl⟩ := hc
    have hlm : n ≤ m' := by rw [hmm]; split <;> omega
    obtain ⟨Z, hZ⟩ := choose_lt (α := Int) (n := n) (p := fun i z => w.cell? (a'.add i) = some (.int .i64 z) ∧ F64 z) (fun i hi => by
      obtain ⟨h1, h2⟩ := hx i (by omega)
      obtain ⟨z, h3, _, h4⟩ := DataW.trod_int Try.underlying2 h2
      injection h3 with h3
      refine ⟨z, by rw [h1, h3], ?_⟩
      simpa [Lit.wf, F64, IntKind.min, IntKind.max, IntKind.signed, IntKind.bits] using h4)
    refine ⟨fun i => if i < n then Z i else 0, rfl, hl, by unfold maxLen at hmx; omega, fun i => ?_, ints_cells (fun i hi => by simp only [hi, if_true]; exact (hZ i hi).1), fun h => by cases h⟩
    simp only
    split
    · rename_i hi; exact (hZ i hi).2
    · unfold F64; omega
end

end Go.Proofs.Ytnpjclodcgejgaa
