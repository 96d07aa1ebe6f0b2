/- Add: an order that may be, of a new number, to a side that has room. Condition: the side is one. -/
import Derived.Test.YtmjfbilhalkegaaSideM
import Derived.Test.YtmjfbilhalkegaaInsO
import Derived.Test.YtmjfbilhalkegaaQuiet
import Derived.Test.YtmjfbilhalkegaaSmall
import Derived.Deep.RegionHeld3
namespace Go.Proofs.Ytmjfbilhalkegaa
set_option linter.unusedVariables false
set_option linter.unusedSimpArgs false
open Go.RowKit Go.Deep

/-- may the order be? -/
def okO (A : Array Value) : Bool := !decide (N A 0 = 0) && !decide (N A 1 = 0) && inB (N A 3) 1 10000000 && inB (N A 4) 1 1000000
theorem smay_yes (A : Array Value) (w : World) (h : IsOrd A) (hA : okO A = true) :
    Calls Try.prog 26 #[.agg A] w fun e w' => e = .returned (.bool true) ∧ Below w.heap.size w w' := by
  have hsz := h.size
  have a0 : A[0]? = some (.int .u64 (N A 0)) := h.n.1
  have a1 : A[1]? = some (.int .u32 (N A 1)) := h.a.1
  have a3 : A[3]? = some (.int .i64 (N A 3)) := h.p.1
  have a4 : A[4]? = some (.int .i64 (N A 4)) := h.l.1
  have Hsz := Lib.hid hsz
  simp only [okO, Bool.and_eq_true, Bool.not_eq_true', decide_eq_false_iff_not, inB_iff] at hA
  obtain ⟨⟨⟨q0, q1⟩, q3, q3'⟩, q4, q4'⟩ := hA
  clear hsz h
  generalize N A 0 = x0 at *
  generalize N A 1 = x1 at *
  generalize N A 3 = x3 at *
  generalize N A 4 = x4 at *
  have q0' : (x0 != 0) = true := by simp [q0]
  have q1' : (x1 != 0) = true := by simp [q1]
  go_enter Try.func26, Try.ntmps26
  go_wp2
  go_ret
  exact ⟨by first | rfl | (simp [*]; done) | (simp [*]; omega), below_new _ _⟩
/-- whatever is no row of orders, but g, stays -/
def Ko (g : Nat) (A B : World) : Prop := ∀ i o, (∀ c fr, o ≠ Obj.cells c 30 fr) → i ≠ g → A.heap[i]? = some o → B.heap[i]? = some o
theorem Ko.refl (g : Nat) (A : World) : Ko g A A := fun _ _ _ _ h => h
theorem Ko.trans {g : Nat} {A B C : World} (h1 : Ko g A B) (h2 : Ko g B C) : Ko g A C := fun i o ho hi h => h2 i o ho hi (h1 i o ho hi h)
theorem ko_below {g : Nat} {A B : World} (h : Below A.heap.size A B) : Ko g A B := fun i o _ _ h1 => Ytmjfbilhalkegaa.kept h h1
theorem Ko.cells {g : Nat} {A B : World} (h : Ko g A B) (i : Nat) (c : Array Value) (t : TypeId) (fr : Nat × Nat) (ht : t ≠ 30) (hi : i ≠ g) (hA : A.heap[i]? = some (.cells c t fr)) : B.heap[i]? = some (.cells c t fr) :=
  h i _ (fun _ _ e => ht (by injection e)) hi hA
theorem side_grown {w w1 w5 : World} {g base k i : Nat} {buy : Bool} {L : Nat → Array Value} {B : Array Value} {v v5 : Value} (hS : SideIs w g base k buy L) (hk : k < 1000) (hg : w.heap[g]? = some (.cells #[.bool true, .bool buy, v] 77 (0, 0)))
    (hB : Below w.heap.size w w1) (hord : IsOrd B) (hoq : w1.ownsRow base 30 5 v k (flat L k)) (hg5 : w1.grownBy w5 v.ownBlock) (ho5 : w5.ownsRow base 30 5 v5 (k + 1) (flat (ins L i B) (k + 1))) :
    w5.heap[g]? = some (.cells #[.bool true, .bool buy, v] 77 (0, 0)) ∧ SideIs (w5.setCell ⟨g, 2, none⟩ v5) g base (k + 1) buy (ins L i B) ∧ Below base w (w5.setCell ⟨g, 2, none⟩ v5) ∧ Ko g w (w5.setCell ⟨g, 2, none⟩ v5) := by
  have hg1 := Ytmjfbilhalkegaa.kept hB hg
  have hne : some g ≠ v.ownBlock := fun e => by
    obtain ⟨A9, fr9, h9⟩ := own_tag hoq g e.symm
    rw [hg1] at h9; injection h9 with h9; injection h9 with _ h9; exact absurd h9 (by decide)
  have hgw : g < w.heap.size := (Array.getElem?_eq_some_iff.1 hg).1
  have hgq5 := (hg5.block g (by have := hB.size; omega) hne).trans hg1
  have hbg := hS.bg
  refine ⟨hgq5, ⟨⟨v5, heap_set (i := 2) (v := v5) hgq5, ?_⟩, fun j => ?_, hbg, by omega⟩, ?_, fun i o ho hi hw => ?_⟩
  · refine ownsRow_setCell_other ho5 (fun e => ?_) _
    obtain ⟨A, fr, h⟩ := own_tag ho5 _ e
    rw [show w5.heap[(⟨g, 2, none⟩ : Addr).block]? = w5.heap[g]? from rfl, hgq5] at h
    injection h with h; injection h with _ h; exact absurd h (by decide)
  · unfold ins
    split
    · exact hS.ord j
    · split
      · exact hord
      · exact hS.ord _
  · exact below_set (((hB.mono (by omega)).grown hg5 (by have := hB.size; omega) (fun j e => (hoq.lt j e).1))) hbg
  · have hw1 := Ytmjfbilhalkegaa.kept hB hw
    have hlt := (Array.getElem?_eq_some_iff.1 hw1).1
    have h5 := (hg5.block i hlt (fun e => by
      obtain ⟨A9, fr9, h9⟩ := own_tag hoq i e.symm
      rw [hw1] at h9; exact ho A9 fr9 (Option.some.inj h9))).trans hw1
    exact (heap_setCell_other w5 ⟨g, 2, none⟩ i v5 hi).trans h5
end Go.Proofs.Ytmjfbilhalkegaa
