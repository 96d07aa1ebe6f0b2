/- Slices of dues: what comes in. No condition. -/
import Derived.Test.YticdcdahehodkaaRowsG
import Derived.Test.YticdcdahehodkaaSl1
namespace Go.Proofs.Yticdcdahehodkaa
set_option linter.unusedVariables false
set_option linter.unusedSimpArgs false
open Go.RowKit Go.Deep

/-- a due's three cells -/
def dA (a c v : Int) : Array Value := #[.int .u32 a, .int .i64 c, .int .i64 v]
theorem dA_size (a c v : Int) : (dA a c v).size = 3 := rfl
theorem dA_all (a c v : Int) : (dA a c v).all (·.oneCell') = true := by simp [dA, Value.oneCell']
theorem dA_0 (a c v : Int) : (dA a c v)[0]? = some (.int .u32 a) := rfl
theorem dA_1 (a c v : Int) : (dA a c v)[1]? = some (.int .i64 c) := rfl
theorem dA_2 (a c v : Int) : (dA a c v)[2]? = some (.int .i64 v) := rfl
def IsDue (A : Array Value) : Prop := ∃ a c v : Int, A = dA a c v ∧ (0 ≤ a ∧ a ≤ 4294967295) ∧ F64 c ∧ F64 v
/-- n dues, by account, cash and variation -/
def Dues (w : World) (ad : Option Addr) (n : Nat) (A C V : Nat → Int) : Prop := RowsC w 3 ad n (fun i => dA (A i) (C i) (V i))
theorem Dues.kept {w w' : World} {ad : Option Addr} {n : Nat} {A C V : Nat → Int} (h : Dues w ad n A C V) (hb : Below w.heap.size w w') : Dues w' ad n A C V := RowsC.kept h hb
section
variable {H : Type} {enc : TypeId × Value → H} {w : World} {spare : Nat → Bool} {held : Bool}
theorem due_trod {fuel : Nat} {cs : List Value} {x : DataW H × List MemPlace} (h : DataW.trod enc Try.prog w 0 spare held fuel 39 cs = some x) : IsDue cs.toArray := by
  obtain ⟨hl, n, hf⟩ := fields Try.underlying39 h
  have hc : Try.prog.cellsOf 39 = 3 := by kernel_rfl
  have c2 : Try.prog.cellsOf 2 = 1 := by kernel_rfl
  have c3 : Try.prog.cellsOf 30 = 1 := by kernel_rfl
  obtain ⟨_, y0⟩ := hf 0 _ rfl
  obtain ⟨_, y1⟩ := hf 1 _ rfl
  obtain ⟨_, y2⟩ := hf 2 _ rfl
  have l0 : IsN cs.toArray .u32 0 := leaf Try.underlying30 c3 y0
  have l1 : IsN cs.toArray .i64 1 := leaf Try.underlying2 c2 y1
  have l2 : IsN cs.toArray .i64 2 := leaf Try.underlying2 c2 y2
  rw [hc] at hl
  obtain ⟨e0, b0, b0'⟩ := l0
  obtain ⟨e1, b1, b1'⟩ := l1
  obtain ⟨e2, b2, b2'⟩ := l2
  refine ⟨N cs.toArray 0, N cs.toArray 1, N cs.toArray 2, ?_, ⟨b0, b0'⟩, ⟨b1, b1'⟩, ⟨b2, b2'⟩⟩
  apply Array.ext_getElem?
  intro i
  unfold dA
  by_cases h0 : i = 0
  · subst h0; rw [e0]; rfl
  · by_cases h1 : i = 1
    · subst h1; rw [e1]; rfl
    · by_cases h2 : i = 2
      · subst h2; rw [e2]; rfl
      · rw [Array.getElem?_eq_none_iff.2 (by simp [hl]; omega), Array.getElem?_eq_none_iff.2 (by simp; omega)]
set_option maxRecDepth 100000 in
theorem dues_of {r : Reach} {b : Nat} {v : Value} {d : DataW H} {p : List MemPlace} (hv : Value.okWide Try.prog w r b 34 v) (h : DataW.Trod enc Try.prog w 0 spare held 34 v d p) :
    ∃ (a : Option Addr) (n cap : Nat) (A C V : Nat → Int), v = .slice a n cap ∧ n ≤ cap ∧ cap ≤ 9223372036854775807 ∧ (∀ i, (0 ≤ A i ∧ A i ≤ 4294967295) ∧ F64 (C i) ∧ F64 (V i)) ∧ Dues w a n A C V ∧ (a = none → n = 0 ∧ cap = 0) := by
  obtain ⟨a, n, cap, L, rfl, h1, h2, h3, h4, h5⟩ := rows_of (Is := IsDue) (z := dA 0 0 0) ⟨0, 0, 0, rfl, by omega, by unfold F64; omega, by unfold F64; omega⟩ Try.underlying34 (c := 3) (by kernel_rfl) (by decide) (fun _ _ _ h => due_trod h) hv h
  have e : ∀ i, L i = dA (N (L i) 0) (N (L i) 1) (N (L i) 2) := fun i => by
    obtain ⟨x, y, z, e, _⟩ := h3 i
    rw [e]; rfl
  refine ⟨a, n, cap, fun i => N (L i) 0, fun i => N (L i) 1, fun i => N (L i) 2, rfl, h1, h2, fun i => ?_, RowsC.congr h4 (fun i _ => e i), h5⟩
  obtain ⟨x, y, z, e, b1, b2, b3⟩ := h3 i
  simp only [e]
  exact ⟨b1, b2, b3⟩
end
/-- the cells of a due that is read -/
theorem Dues.at {w : World} {ad : Option Addr} {n i : Nat} {A C V : Nat → Int} (h : Dues w ad n A C V) (hi : i < n) : ∃ g off B t fr, ad = some (⟨g, off, none⟩ : Addr) ∧ w.heap[g]? = some (.cells B t fr) ∧ off + i * 3 + 3 ≤ B.size ∧ B.extract (off + i * 3) (off + i * 3 + 3) = dA (A i) (C i) (V i) ∧
    B[off + i * 3]? = some (.int .u32 (A i)) ∧ B[off + i * 3 + 1]? = some (.int .i64 (C i)) ∧ B[off + i * 3 + 2]? = some (.int .i64 (V i)) := by
  obtain ⟨g, off, B, t, fr, h1, h2, h3, h4⟩ := h i hi
  refine ⟨g, off, B, t, fr, h1, h2, h3, h4, ?_, ?_, ?_⟩
  · have := congrArg (fun C : Array Value => C[0]?) h4
    simp only [Array.getElem?_extract] at this
    rw [if_pos (by omega)] at this
    exact this
  · have := congrArg (fun C : Array Value => C[1]?) h4
    simp only [Array.getElem?_extract] at this
    rw [if_pos (by omega)] at this
    exact this
  · have := congrArg (fun C : Array Value => C[2]?) h4
    simp only [Array.getElem?_extract] at this
    rw [if_pos (by omega)] at this
    exact this
theorem info_due : ∃ i z, Try.prog.info? 39 = some i ∧ i.zero = some z ∧ i.size = 3 ∧ i.bytes ≤ 1000 ∧ z.cells.size = 3 := by
  have h : (Try.prog.info? 39).map (fun i => (i.size, decide (i.bytes ≤ 1000), i.zero.map (·.cells.size))) = some (3, true, some 3) := by kernel_rfl
  cases hi : Try.prog.info? 39 with
  | none => simp [hi] at h
  | some i =>
    simp [hi] at h
    obtain ⟨h1, h2, z, h3, h4⟩ := h
    exact ⟨i, z, rfl, h3, h1, h2, h4⟩
/-- a settled one's four cells -/
def sA (a c : Int) (d : Bool) (u : Int) : Array Value := #[.int .u32 a, .int .i64 c, .bool d, .int .i64 u]
theorem sA_size (a c : Int) (d : Bool) (u : Int) : (sA a c d u).size = 4 := rfl
theorem sA_all (a c : Int) (d : Bool) (u : Int) : (sA a c d u).all (·.oneCell') = true := by simp [sA, Value.oneCell']
/-- the row of those settled, in a block of its own -/
structure OW (w : World) (g n : Nat) (a c : Nat → Int) (d : Nat → Bool) (u : Nat → Int) : Prop where
  row : ∃ G, w.heap[g]? = some (.cells G 43 (0, 0)) ∧ G.size = n * 4 ∧ ∀ i, i < n → G[i * 4]? = some (.int .u32 (a i)) ∧ G[i * 4 + 1]? = some (.int .i64 (c i)) ∧ G[i * 4 + 2]? = some (.bool (d i)) ∧ G[i * 4 + 3]? = some (.int .i64 (u i))
theorem OW.kept {w w' : World} {g n : Nat} {a c : Nat → Int} {d : Nat → Bool} {u : Nat → Int} (h : OW w g n a c d u) (hb : Below w.heap.size w w') : OW w' g n a c d u := by
  obtain ⟨G, h1, h2⟩ := h.row; exact ⟨G, Yticdcdahehodkaa.kept hb h1, h2⟩
theorem OW.grown {w w' : World} {g n : Nat} {a c : Nat → Int} {d : Nat → Bool} {u : Nat → Int} {row : Option Nat} (h : OW w g n a c d u) (hb : w.grownBy w' row) (hne : some g ≠ row) : OW w' g n a c d u := by
  obtain ⟨G, h1, h2⟩ := h.row; exact ⟨G, by rw [hb.block g ((Array.getElem?_eq_some_iff.1 h1).1) hne]; exact h1, h2⟩
theorem OW.drew {w : World} {g n : Nat} {a c : Nat → Int} {d : Nat → Bool} {u : Nat → Int} (h : OW w g n a c d u) : OW w.drew g n a c d u := ⟨h.row⟩
theorem OW.lt {w : World} {g n : Nat} {a c : Nat → Int} {d : Nat → Bool} {u : Nat → Int} (h : OW w g n a c d u) : g < w.heap.size := by
  obtain ⟨G, h1, _⟩ := h.row; exact (Array.getElem?_eq_some_iff.1 h1).1
theorem OW.cells {w : World} {g n : Nat} {a c : Nat → Int} {d : Nat → Bool} {u : Nat → Int} (h : OW w g n a c d u) {i : Nat} (hi : i < n) : w.cell? ⟨g, i * 4, none⟩ = some (.int .u32 (a i)) ∧ w.cell? ⟨g, i * 4 + 1, none⟩ = some (.int .i64 (c i)) ∧ w.cell? ⟨g, i * 4 + 2, none⟩ = some (.bool (d i)) ∧ w.cell? ⟨g, i * 4 + 3, none⟩ = some (.int .i64 (u i)) ∧ ∀ j, w.frozen? ⟨g, j, none⟩ = false := by
  obtain ⟨G, h1, h2, h3⟩ := h.row
  obtain ⟨f1, f2, _⟩ := cells_of h1
  obtain ⟨e0, e1, e2, e3⟩ := h3 i hi
  exact ⟨(f1 _).trans e0, (f1 _).trans e1, (f1 _).trans e2, (f1 _).trans e3, f2⟩
def put {α : Type} (f : Nat → α) (i : Nat) (v : α) : Nat → α := fun x => if x = i then v else f x
theorem put_at {α : Type} (f : Nat → α) (i : Nat) (v : α) : put f i v i = v := by simp [put]
theorem put_ne {α : Type} (f : Nat → α) {i x : Nat} (v : α) (h : x ≠ i) : put f i v x = f x := by simp [put, h]
theorem OW.setc {w : World} {g n i : Nat} {a c : Nat → Int} {d : Nat → Bool} {u : Nat → Int} (h : OW w g n a c d u) (hi : i < n) (x : Int) : OW (w.setCell ⟨g, i * 4 + 1, none⟩ (.int .i64 x)) g n a (put c i x) d u := by
  obtain ⟨G, h1, h2, h3⟩ := h.row
  refine ⟨_, heap_set h1, by simp [h2], fun k hk => ?_⟩
  obtain ⟨e0, e1, e2, e3⟩ := h3 k hk
  refine ⟨by rw [Array.getElem?_setIfInBounds_ne (by omega)]; exact e0, ?_, by rw [Array.getElem?_setIfInBounds_ne (by omega)]; exact e2, by rw [Array.getElem?_setIfInBounds_ne (by omega)]; exact e3⟩
  by_cases e : k = i
  · subst e; rw [Array.getElem?_setIfInBounds_self_of_lt (by omega), put_at]
  · rw [Array.getElem?_setIfInBounds_ne (by omega), put_ne _ _ e]; exact e1
theorem OW.setd {w : World} {g n i : Nat} {a c : Nat → Int} {d : Nat → Bool} {u : Nat → Int} (h : OW w g n a c d u) (hi : i < n) (x : Bool) : OW (w.setCell ⟨g, i * 4 + 2, none⟩ (.bool x)) g n a c (put d i x) u := by
  obtain ⟨G, h1, h2, h3⟩ := h.row
  refine ⟨_, heap_set h1, by simp [h2], fun k hk => ?_⟩
  obtain ⟨e0, e1, e2, e3⟩ := h3 k hk
  refine ⟨by rw [Array.getElem?_setIfInBounds_ne (by omega)]; exact e0, by rw [Array.getElem?_setIfInBounds_ne (by omega)]; exact e1, ?_, by rw [Array.getElem?_setIfInBounds_ne (by omega)]; exact e3⟩
  by_cases e : k = i
  · subst e; rw [Array.getElem?_setIfInBounds_self_of_lt (by omega), put_at]
  · rw [Array.getElem?_setIfInBounds_ne (by omega), put_ne _ _ e]; exact e2
theorem OW.setu {w : World} {g n i : Nat} {a c : Nat → Int} {d : Nat → Bool} {u : Nat → Int} (h : OW w g n a c d u) (hi : i < n) (x : Int) : OW (w.setCell ⟨g, i * 4 + 3, none⟩ (.int .i64 x)) g n a c d (put u i x) := by
  obtain ⟨G, h1, h2, h3⟩ := h.row
  refine ⟨_, heap_set h1, by simp [h2], fun k hk => ?_⟩
  obtain ⟨e0, e1, e2, e3⟩ := h3 k hk
  refine ⟨by rw [Array.getElem?_setIfInBounds_ne (by omega)]; exact e0, by rw [Array.getElem?_setIfInBounds_ne (by omega)]; exact e1, by rw [Array.getElem?_setIfInBounds_ne (by omega)]; exact e2, ?_⟩
  by_cases e : k = i
  · subst e; rw [Array.getElem?_setIfInBounds_self_of_lt (by omega), put_at]
  · rw [Array.getElem?_setIfInBounds_ne (by omega), put_ne _ _ e]; exact e3
end Go.Proofs.Yticdcdahehodkaa
