/- Slices of specs, of numbers and of bools that came in. No condition. -/
import Derived.Test.YtobokknfpjjdeaaRowsG
import Derived.Test.YtobokknfpjjdeaaSpecIn
import Derived.Test.YtobokknfpjjdeaaOrdP
namespace Go.Proofs.Ytobokknfpjjdeaa
set_option linter.unusedVariables false
set_option linter.unusedSimpArgs false
open Go.RowKit Go.Deep

theorem z25_spec : IsSpec (Array.replicate 0 .nilFunc ++ kp 1 (-1)) := by simpa using kp_spec
/-- one cell, an u32 or a bool -/
def IsU (A : Array Value) : Prop := A.size = 1 ∧ IsN A .u32 0
def IsBo (A : Array Value) : Prop := A.size = 1 ∧ IsB A 0
section
variable {H : Type} {enc : TypeId × Value → H} {w : World} {spare : Nat → Bool} {held : Bool}
theorem u_trod {fuel : Nat} {cs : List Value} {x : DataW H × List MemPlace} (h : DataW.trod enc Try.prog w 0 spare held fuel 29 cs = some x) : IsU cs.toArray := by
  obtain ⟨n, h1, _, hw⟩ := DataW.trod_int Try.underlying29 h
  subst h1
  exact ⟨rfl, IsN_of rfl (by simpa [Lit.wf] using hw)⟩
theorem bo_trod {fuel : Nat} {cs : List Value} {x : DataW H × List MemPlace} (h : DataW.trod enc Try.prog w 0 spare held fuel 4 cs = some x) : IsBo cs.toArray := by
  obtain ⟨n, h1, _⟩ := DataW.trod_bool Try.underlying4 h
  subst h1
  exact ⟨rfl, IsB_of rfl⟩
set_option maxRecDepth 100000 in
theorem specs_of {r : Reach} {b : Nat} {v : Value} {d : DataW H} {p : List MemPlace} (hv : Value.okWide Try.prog w r b 53 v) (h : DataW.Trod enc Try.prog w 0 spare held 53 v d p) :
    ∃ (a : Option Addr) (n cap : Nat) (L : Nat → Array Value), v = .slice a n cap ∧ n ≤ cap ∧ cap ≤ 9223372036854775807 ∧ (∀ i, IsSpec (L i)) ∧ RowsC w 25 a n L ∧ (a = none → n = 0 ∧ cap = 0) :=
  rows_of kp_spec Try.underlying53 (by kernel_rfl) (by decide) (fun _ _ _ h => spec_trod h) hv h
set_option maxRecDepth 100000 in
theorem u32s_of {r : Reach} {b : Nat} {v : Value} {d : DataW H} {p : List MemPlace} (hv : Value.okWide Try.prog w r b 54 v) (h : DataW.Trod enc Try.prog w 0 spare held 54 v d p) :
    ∃ (a : Option Addr) (n cap : Nat) (L : Nat → Array Value), v = .slice a n cap ∧ n ≤ cap ∧ cap ≤ 9223372036854775807 ∧ (∀ i, IsU (L i)) ∧ RowsC w 1 a n L ∧ (a = none → n = 0 ∧ cap = 0) :=
  rows_of (Is := IsU) (z := #[.int .u32 0]) ⟨rfl, IsN_of rfl (by decide)⟩ Try.underlying54 (by kernel_rfl) (by decide) (fun _ _ _ h => u_trod h) hv h
set_option maxRecDepth 100000 in
theorem bools_of {r : Reach} {b : Nat} {v : Value} {d : DataW H} {p : List MemPlace} (hv : Value.okWide Try.prog w r b 55 v) (h : DataW.Trod enc Try.prog w 0 spare held 55 v d p) :
    ∃ (a : Option Addr) (n cap : Nat) (L : Nat → Array Value), v = .slice a n cap ∧ n ≤ cap ∧ cap ≤ 9223372036854775807 ∧ (∀ i, IsBo (L i)) ∧ RowsC w 1 a n L ∧ (a = none → n = 0 ∧ cap = 0) :=
  rows_of (Is := IsBo) (z := #[.bool false]) ⟨rfl, IsB_of rfl⟩ Try.underlying55 (by kernel_rfl) (by decide) (fun _ _ _ h => bo_trod h) hv h
end
/-- a cell of such a slice -/
theorem RowsC.cell1 {w : World} {a : Option Addr} {n i : Nat} {L : Nat → Array Value} (h : RowsC w 1 a n L) (hi : i < n) : ∃ g off, a = some (⟨g, off, none⟩ : Addr) ∧ w.cell? ⟨g, off + i, none⟩ = (L i)[0]? := by
  obtain ⟨g, off, A, t, fr, h1, h2, h3, h4⟩ := h i hi
  refine ⟨g, off, h1, ?_⟩
  rw [cellF h2, ← h4, Array.getElem?_extract, if_pos (by omega)]
  simp
/-- where gone contracts lie, and the rest -/
structure OE (w : World) (g b2 : Nat) (v0 vg : Value) (m : Nat) (G : Nat → Array Value) (wr : World) : Prop where
  hv : ∃ d, wr.heap[g]? = some (.cells #[.bool true, .int .u32 d, v0] 93 (0, 0))
  lo : ∀ b, v0.ownBlock = some b → b < b2
  hg : g < b2
  own : wr.ownsRow b2 65 27 vg m (flat G m)
  gc : ∀ t, IsCon (G t)
  be : Below w.heap.size w wr
  le : w.heap.size ≤ g
  sz : b2 ≤ wr.heap.size
theorem OE.kv {w wr w' : World} {g b2 m : Nat} {v0 vg : Value} {G : Nat → Array Value} (h : OE w g b2 v0 vg m G wr) (hk : Kv g wr w') (hb : Below g wr w') : OE w g b2 v0 vg m G w' := by
  obtain ⟨d, hd⟩ := h.hv
  obtain ⟨k1, d', k2⟩ := hk v0 d hd
  refine ⟨⟨d', k2⟩, h.lo, h.hg, ?_, h.gc, h.be.trans (hb.mono h.le), h.le, Nat.le_trans h.sz hb.size⟩
  obtain ⟨a1, a2⟩ := h.own
  refine ⟨a1, ?_⟩
  rcases a2 with a2 | ⟨gx, cap, cur, q1, q2, q3, q4⟩
  · exact .inl a2
  · refine .inr ⟨gx, cap, cur, q1, q2, (k1 gx (fun e => by have := h.hg; omega) (fun e => by have := h.lo gx e.symm; omega) (Array.getElem?_eq_some_iff.1 q3).1).trans q3, q4⟩
theorem OE.below {w wr w' : World} {g b2 m : Nat} {v0 vg : Value} {G : Nat → Array Value} (h : OE w g b2 v0 vg m G wr) (hb : Below wr.heap.size wr w') : OE w g b2 v0 vg m G w' := by
  obtain ⟨d, hd⟩ := h.hv
  exact ⟨⟨d, Ytobokknfpjjdeaa.kept hb hd⟩, h.lo, h.hg, own_below hb h.own, h.gc, below_then h.be hb, h.le, Nat.le_trans h.sz hb.size⟩
/-- the calendar stays where another row grows -/
theorem CalIs.grown {w wr w' : World} {g b2 m base k : Nat} {day : Int} {v0 vg : Value} {G K : Nat → Array Value} (h : CalIs wr g base k day K) (hE : OE w g b2 v0 vg m G wr) (hg : wr.grownBy w' vg.ownBlock) : CalIs w' g base k day K ∧ ∃ d, w'.heap[g]? = some (.cells #[.bool true, .int .u32 d, v0] 93 (0, 0)) := by
  obtain ⟨v, hr, hrow⟩ := h.row
  obtain ⟨d, hd⟩ := hE.hv
  have hv : v = v0 := by rw [hr] at hd; simp at hd; exact hd.2
  subst hv
  have low : ∀ b, vg.ownBlock = some b → b2 ≤ b := fun b hb => (hE.own.lt b hb).1
  have hgl := (cells_of hr).2.2
  have h1 : w'.heap[g]? = some (.cells #[.bool true, .int .u32 day, v] 93 (0, 0)) := (hg.block g hgl (fun e => by have := low g e.symm; have := hE.hg; omega)).trans hr
  refine ⟨⟨⟨v, h1, hrow.kept hg ?_⟩, h.con, h.srt, h.bg, h.hk, h.hd⟩, day, h1⟩
  cases hb : v.ownBlock with
  | none => exact .inl rfl
  | some b => exact .inr (fun e => by have := low b e.symm; have := hE.lo b hb; omega)
/-- a contract more that is gone -/
theorem OE.append {w wr w' : World} {g b2 m : Nat} {v0 vg v' : Value} {G : Nat → Array Value} {B : Array Value} (h : OE w g b2 v0 vg m G wr) (hg : wr.grownBy w' vg.ownBlock) (ho : w'.ownsRow b2 65 27 v' (m + 1) (flat G m ++ B.toList)) (hB : IsCon B)
    (hd : ∃ d, w'.heap[g]? = some (.cells #[.bool true, .int .u32 d, v0] 93 (0, 0))) : OE w g b2 v0 v' (m + 1) (snoc G m B) w' :=
  ⟨hd, h.lo, h.hg, by rw [flat_snoc]; exact ho, fun t => snoc_con h.gc hB t, h.be.grown hg h.be.size (fun j e => by have := (h.own.lt j e).1; have := h.hg; have := h.le; omega), h.le, Nat.le_trans h.sz hg.size⟩
/-- a cell of another block is written -/
theorem OE.cell {w wr : World} {g b2 m k base x i : Nat} {day : Int} {v0 vg u : Value} {G K : Nat → Array Value} (h : OE w g b2 v0 vg m G wr) (hC : CalIs wr g base k day K) (hx : b2 ≤ x) (hxg : some x ≠ vg.ownBlock) : OE w g b2 v0 vg m G (wr.setCell ⟨x, i, none⟩ u) ∧ CalIs (wr.setCell ⟨x, i, none⟩ u) g base k day K := by
  obtain ⟨d, hd⟩ := h.hv
  have hgx : g ≠ x := by have := h.hg; omega
  have hd' := heap_set_other (g := x) (i := i) (v := u) hd hgx
  obtain ⟨v, hr, hrow⟩ := hC.row
  have hv : v = v0 := by rw [hr] at hd; simp at hd; exact hd.2
  subst hv
  refine ⟨⟨⟨d, hd'⟩, h.lo, h.hg, ownsRow_setCell_other h.own (fun e => hxg e.symm) _, h.gc, below_set h.be (by have := h.hg; have := h.le; omega), h.le, ?_⟩, ⟨⟨v, heap_set_other hr hgx, ownsRow_setCell_other hrow (fun e => ?_) _⟩, hC.con, hC.srt, hC.bg, hC.hk, hC.hd⟩⟩
  · have := h.sz; simpa [World.setCell] using this
  · have := h.lo x e; omega
end Go.Proofs.Ytobokknfpjjdeaa
