/- What a mail that came in holds, its bytes with it. No condition. -/
import Derived.Test.YtfgcjgabknoamaaKnown28
import Derived.Deep.Slices
import Derived.OpenShut
namespace Go.Proofs.Ytfgcjgabknoamaa
set_option linter.unusedVariables false
set_option linter.unusedSimpArgs false
open Go.RowKit Go.Deep

section
variable {H : Type} {enc : TypeId × Value → H} {w : World} {base : Nat} {spare : Nat → Bool} {held : Bool}
theorem byt_cells {a : Addr} {n : Nat} {Z : Nat → Int} (h : ∀ i, i < n → w.cell? (a.add i) = some (.int .u8 (Z i))) : Byt w (some a) n Z := by
  intro i hi
  obtain ⟨b, o, sp⟩ := a
  have h00 := h 0 (by omega)
  rw [show (⟨b, o, sp⟩ : Addr).add 0 = ⟨b, o, sp⟩ from rfl] at h00
  unfold World.cell? at h00
  cases hb : w.heap[b]? with
  | none => simp [hb] at h00
  | some ob =>
    cases ob with
    | cells A t fr =>
      simp only [hb] at h00
      cases sp with
      | some s => simp at h00
      | none =>
        have hA := h i hi
        have : (⟨b, o, none⟩ : Addr).add i = ⟨b, o + i, none⟩ := by unfold Addr.add; split <;> simp_all
        rw [this, cellF hb] at hA
        exact ⟨b, o, A, t, fr, rfl, hb, hA⟩
    | _ => simp [hb] at h00
theorem byt_trod {fuel : Nat} {cs : List Value} {x : DataW H × List MemPlace} (h : DataW.trod enc Try.prog w 0 spare held fuel 22 cs = some x) :
    ∃ (a : Option Addr) (n cap : Nat) (Z : Nat → Int), cs = [.slice a n cap] ∧ n ≤ cap ∧ cap ≤ 9223372036854775807 ∧ (∀ i, 0 ≤ Z i ∧ Z i ≤ 255) ∧ Byt w a n Z ∧ (a = none → n = 0 ∧ cap = 0) := by
  have c1 : Try.prog.cellsOf 5 = 1 := by kernel_rfl
  rcases open_slice1 Try.underlying22 c1 h with ⟨hc, _⟩ | ⟨a', n, cap, m', f, V, D, Pl, hc, _, hl, hmx, hmm, _, hx⟩
  · exact ⟨none, 0, 0, fun _ => 0, hc, by omega, by omega, fun _ => ⟨Int.le_refl 0, by show (0 : Int) ≤ 255; omega⟩, fun i hi => by omega, fun _ => ⟨rfl, rfl⟩⟩
  · have hlm : n ≤ m' := by rw [hmm]; split <;> omega
    obtain ⟨Z, hZ⟩ := choose_lt (α := Int) (n := n) (p := fun i z => w.cell? (a'.add i) = some (.int .u8 z) ∧ 0 ≤ z ∧ z ≤ 255) (fun i hi => by
      obtain ⟨h1, h2⟩ := hx i (by omega)
      obtain ⟨z, h3, _, h4⟩ := DataW.trod_int Try.underlying5 h2
      injection h3 with h3
      refine ⟨z, by rw [h1, h3], ?_⟩
      simpa [Lit.wf, IntKind.min, IntKind.max, IntKind.signed, IntKind.bits] using h4)
    refine ⟨some a', n, cap, fun i => if i < n then Z i else 0, hc, hl, by unfold maxLen at hmx; omega, fun i => ?_, byt_cells (fun i hi => by simp only [hi, if_true]; exact (hZ i hi).1), fun h => by cases h⟩
    simp only
    split
    · rename_i hi; exact (hZ i hi).2
    · omega
theorem fields {fuel : Nat} {t : TypeId} {fs : Array Field} {cs : List Value} {x : DataW H × List MemPlace} (ht : Try.prog.underlying t = some (.struct fs)) (h : DataW.trod enc Try.prog w base spare held fuel t cs = some x) :
    cs.length = Try.prog.cellsOf t ∧ ∃ n, ∀ (i : Nat) (f : Field), fs[i]? = some f → ∃ y, DataW.trod enc Try.prog w base spare held n f.type ((cs.drop f.offset).take (Try.prog.cellsOf f.type)) = some y := by
  obtain ⟨xs, n, _, _, hl, hxl, hx⟩ := DataW.trod_struct ht h
  refine ⟨hl, n, fun i f hf => ?_⟩
  have hi : i < xs.length := by rw [hxl]; exact (Array.getElem?_eq_some_iff.1 hf).1
  exact ⟨xs[i], by rw [hx i f hf]; exact List.getElem?_eq_getElem hi⟩
theorem leaf64 {fuel o : Nat} {cs : List Value} {x : DataW H × List MemPlace} (h : DataW.trod enc Try.prog w base spare held fuel 2 ((cs.drop o).take 1) = some x ∨ DataW.trod enc Try.prog w base spare held fuel 3 ((cs.drop o).take 1) = some x) : ∃ n, cs[o]? = some (.int .i64 n) := by
  rcases h with h | h
  · obtain ⟨n, h1, _⟩ := DataW.trod_int Try.underlying2 h
    have h2 := congrArg (fun l => l[0]?) h1
    simp [List.getElem?_take, List.getElem?_drop] at h2
    exact ⟨n, h2⟩
  · obtain ⟨n, h1, _⟩ := DataW.trod_int Try.underlying3 h
    have h2 := congrArg (fun l => l[0]?) h1
    simp [List.getElem?_take, List.getElem?_drop] at h2
    exact ⟨n, h2⟩
theorem mail_trod {fuel : Nat} {cs : List Value} {x : DataW H × List MemPlace} (h : DataW.trod enc Try.prog w 0 spare held fuel 24 cs = some x) :
    ∃ (f t : Int) (a : Option Addr) (n c : Nat) (X : Nat → Int), cs.toArray = m3 f t (.slice a n c) ∧ n ≤ c ∧ c ≤ 9223372036854775807 ∧ (∀ i, 0 ≤ X i ∧ X i ≤ 255) ∧ Byt w a n X ∧ (a = none → n = 0 ∧ c = 0) := by
  obtain ⟨hl, n, hf⟩ := fields Try.underlying24 h
  have hc : Try.prog.cellsOf 24 = 3 := by kernel_rfl
  have c2 : Try.prog.cellsOf 3 = 1 := by kernel_rfl
  have c1 : Try.prog.cellsOf 22 = 1 := by kernel_rfl
  obtain ⟨_, y0⟩ := (show ∃ y, DataW.trod enc Try.prog w 0 spare held n 3 ((cs.drop 0).take (Try.prog.cellsOf 3)) = some y from hf 0 _ rfl)
  obtain ⟨_, y1⟩ := (show ∃ y, DataW.trod enc Try.prog w 0 spare held n 3 ((cs.drop 1).take (Try.prog.cellsOf 3)) = some y from hf 1 _ rfl)
  obtain ⟨_, y2⟩ := (show ∃ y, DataW.trod enc Try.prog w 0 spare held n 22 ((cs.drop 2).take (Try.prog.cellsOf 22)) = some y from hf 2 _ rfl)
  rw [c2] at y0 y1
  rw [c1] at y2
  rw [hc] at hl
  obtain ⟨f, h0⟩ := leaf64 (.inr y0)
  obtain ⟨t, h1⟩ := leaf64 (.inr y1)
  obtain ⟨a, m, c, X, e, e2⟩ := byt_trod y2
  have h2 : cs[2]? = some (.slice a m c) := by
    have h2 := congrArg (fun l => l[0]?) e
    simpa [List.getElem?_take, List.getElem?_drop] using h2
  refine ⟨f, t, a, m, c, X, ?_, e2⟩
  match cs, hl with
  | [v0, v1, v2], _ =>
    simp at h0 h1 h2
    subst h0 h1 h2
    rfl
theorem mail_of {r : Reach} {b : Nat} {v : Value} {d : DataW H} {p : List MemPlace} (hv : Value.okWide Try.prog w r b 24 v) (h : DataW.Trod enc Try.prog w 0 spare held 24 v d p) :
    ∃ (f t : Int) (a : Option Addr) (n c : Nat) (X : Nat → Int), v = .agg (m3 f t (.slice a n c)) ∧ n ≤ c ∧ c ≤ 9223372036854775807 ∧ (∀ i, 0 ≤ X i ∧ X i ≤ 255) ∧ Byt w a n X ∧ (a = none → n = 0 ∧ c = 0) := by
  obtain ⟨m, hm⟩ := h
  unfold Value.okWide at hv
  simp only [Try.underlying24] at hv
  obtain ⟨cs, rfl, _⟩ := hv
  obtain ⟨f, t, a, n, c, X, h1, h2⟩ := mail_trod hm
  simp only [Value.cells] at h1
  exact ⟨f, t, a, n, c, X, by simpa using h1, h2⟩
end
end Go.Proofs.Ytfgcjgabknoamaa
