/- A side's row, written in place and shortened; Fill. Condition: the side is one. -/
import Derived.Test.YtmjfbilhalkegaaDelO
import Derived.Test.YtmjfbilhalkegaaLeaf
namespace Go.Proofs.Ytmjfbilhalkegaa
set_option linter.unusedVariables false
set_option linter.unusedSimpArgs false
open Go.RowKit

theorem flat_set {L : Nat → Array Value} {c : Nat} (hL : ∀ i, (L i).size = c) (u : Value) : ∀ n i j, i < n → j < c → (flat L n).set (i * c + j) u = flat (fun r => if r = i then (L r).setIfInBounds j u else L r) n
  | 0, i, j, hi, _ => by omega
  | n + 1, i, j, hi, hj => by
    have hl := flatc_len hL n
    rw [flat, flat]
    by_cases e : i = n
    · subst e
      rw [List.set_append_right _ _ (by omega), hl, show i * c + j - i * c = j by omega, if_pos rfl, flat_congr (L := fun r => if r = i then (L r).setIfInBounds j u else L r) (L' := L) i (fun r hr => by rw [if_neg (by omega)])]
      simp
    · have h1 := mul_in (n := n) (c := c) (i := i) (j := j) (by omega) hj
      rw [List.set_append_left _ _ (by omega), flat_set hL u n i j (by omega) hj, if_neg (Ne.symm e)]
/-- where the order at i lies -/
def SRow (w : World) (g k : Nat) (buy : Bool) (L : Nat → Array Value) (gb rc : Nat) (A : Array Value) : Prop :=
  w.heap[g]? = some (.cells #[.bool true, .bool buy, .slice (some ⟨gb, 0, none⟩) k rc] 77 (0, 0)) ∧ w.heap[gb]? = some (.cells A 30 (0, 0)) ∧ (∀ i, i < k → i * 5 + 5 ≤ A.size ∧ A.extract (i * 5) (i * 5 + 5) = L i)
theorem SideIs.at_row {w : World} {g base k : Nat} {buy : Bool} {L : Nat → Array Value} (h : SideIs w g base k buy L) (hk : 0 < k) : ∃ gb rc A, SRow w g k buy L gb rc A ∧ base ≤ gb ∧ A.size = rc * 5 ∧ k ≤ rc ∧ rc ≤ 9223372036854775807 ∧ A.toList.take (k * 5) = flat L k := by
  obtain ⟨v, hg, hrow⟩ := h.row
  obtain ⟨_, ⟨rfl, h0⟩ | ⟨gb, cap, cur, rfl, hbb, hgb, hn, hm, hc, ht⟩⟩ := id hrow
  · omega
  · refine ⟨gb, cap, cur, ⟨hg, hgb, fun i hi => ?_⟩, hbb, hc, hn, by unfold maxLen at hm; omega, ht⟩
    obtain ⟨ra, rc, he, hR, _⟩ := own_rows (c := 5) (fun i => (h.ord i).size) hrow
    cases he
    obtain ⟨g2, off, A, fr, ha, hgA, hs, hx⟩ := hR i hi
    cases ha
    rw [hgb] at hgA
    cases hgA
    rw [Nat.zero_add] at hs hx
    exact ⟨hs, hx⟩
theorem SRow.kept {w w' : World} {g k : Nat} {buy : Bool} {L : Nat → Array Value} {gb rc : Nat} {A : Array Value} (h : SRow w g k buy L gb rc A) (hb : Below w.heap.size w w') : SRow w' g k buy L gb rc A := ⟨Ytmjfbilhalkegaa.kept hb h.1, Ytmjfbilhalkegaa.kept hb h.2.1, h.2.2⟩
theorem SRow.cell {w : World} {g k : Nat} {buy : Bool} {L : Nat → Array Value} {gb rc : Nat} {A : Array Value} (h : SRow w g k buy L gb rc A) {i j : Nat} (hi : i < k) (hj : j < 5) : A[i * 5 + j]? = (L i)[j]? := by
  obtain ⟨h1, h2⟩ := h.2.2 i hi
  rw [← h2, Array.getElem?_extract, if_pos (by omega)]
theorem SRow.ne {w : World} {g k : Nat} {buy : Bool} {L : Nat → Array Value} {gb rc : Nat} {A : Array Value} (h : SRow w g k buy L gb rc A) : g ≠ gb := fun e => by
  have h1 := h.1; have h2 := h.2.1; rw [e, h2] at h1; injection h1 with h1; injection h1 with _ h1; exact absurd h1 (by decide)
/-- the same orders, but i has y left -/
def lo (L : Nat → Array Value) (i : Nat) (y : Int) : Nat → Array Value := fun r => if r = i then (L r).setIfInBounds 4 (.int .i64 y) else L r
theorem ord_lo {A : Array Value} {y : Int} (h : IsOrd A) (hy : F64 y) : IsOrd (A.setIfInBounds 4 (.int .i64 y)) := by
  have hs := h.size
  have m : ∀ {k : IntKind} {i : Nat}, i ≠ 4 → IsN A k i → IsN (A.setIfInBounds 4 (.int .i64 y)) k i := fun hi hN => hN.moved (by rw [Array.getElem?_setIfInBounds_ne (Ne.symm hi)])
  refine ⟨by simp [hs], m (by decide) h.n, m (by decide) h.a, ?_, m (by decide) h.p, IsN_of (by rw [Array.getElem?_setIfInBounds_self, if_pos (by omega)]) hy⟩
  have := h.b
  exact IsB_of (by rw [Array.getElem?_setIfInBounds_ne (by omega)]; exact this)
/-- every block but g and the row that g has stays -/
def Kf (g : Nat) (A B : World) : Prop := ∀ v b, A.heap[g]? = some (.cells #[.bool true, .bool b, v] 77 (0, 0)) → ∀ i, i ≠ g → some i ≠ v.ownBlock → i < A.heap.size → B.heap[i]? = A.heap[i]?
theorem Kf.of {g : Nat} {A B : World} {v : Value} {b : Bool} (hg : A.heap[g]? = some (.cells #[.bool true, .bool b, v] 77 (0, 0))) (h : ∀ i, i ≠ g → some i ≠ v.ownBlock → i < A.heap.size → B.heap[i]? = A.heap[i]?) : Kf g A B := fun v' b' h' => by
  rw [hg] at h'
  have e : v = v' := by simp at h'; exact h'.2
  subst e
  exact h
theorem Kf.new {w B : World} {g base k : Nat} {buy : Bool} {L : Nat → Array Value} {o : Obj} (h : SideIs w g base k buy L) (hk : Kf g (w.alloc o) B) : B.heap[w.heap.size]? = some o := by
  obtain ⟨v, hg, hrow⟩ := h.row
  have hlt := (cells_of hg).2.2
  refine (hk v buy (heap_up hg) w.heap.size (by omega) (fun e => ?_) (by simp)).trans (heap_alloc_new w o)
  obtain ⟨A, fr, h9⟩ := own_tag hrow _ e.symm
  have := (Array.getElem?_eq_some_iff.1 h9).1
  omega
theorem side_set {w w1 : World} {g base k i : Nat} {buy : Bool} {L : Nat → Array Value} {gb rc : Nat} {A : Array Value} {y : Int} (h : SideIs w g base k buy L) (hA : SRow w g k buy L gb rc A) (hbb : base ≤ gb) (hsz : A.size = rc * 5) (hkr : k ≤ rc) (hrc : rc ≤ 9223372036854775807) (htk : A.toList.take (k * 5) = flat L k)
    (hi : i < k) (hy : F64 y) (hb1 : Below w.heap.size w w1) : SideIs (w1.setCell ⟨gb, i * 5 + 4, none⟩ (.int .i64 y)) g base k buy (lo L i y) ∧ Below base w (w1.setCell ⟨gb, i * 5 + 4, none⟩ (.int .i64 y)) ∧ Ko g w (w1.setCell ⟨gb, i * 5 + 4, none⟩ (.int .i64 y)) ∧ Kf g w (w1.setCell ⟨gb, i * 5 + 4, none⟩ (.int .i64 y)) := by
  have hA1 := hA.kept hb1
  have hbw : base ≤ w.heap.size := by have := (Array.getElem?_eq_some_iff.1 hA.2.1).1; omega
  have hgb := hA.ne
  have hown : w1.ownsRow base 30 5 (.slice (some ⟨gb, 0, none⟩) k rc) k (flat L k) := ⟨flatc_len (fun i => (h.ord i).size) k, .inr ⟨gb, rc, A, rfl, hbb, hA1.2.1, hkr, by unfold maxLen; omega, hsz, htk⟩⟩
  refine ⟨⟨⟨_, heap_set_other hA1.1 hgb, ?_⟩, fun r => ?_, h.bg, h.hk⟩, below_set (hb1.mono hbw) hbb, fun j o ho hj hw => ?_, Kf.of hA.1 fun j hj hne hlt => ?_⟩
  · have hst := hown.stored (i * 5 + 4) (.int .i64 y)
    rw [flat_set (c := 5) (fun i => (h.ord i).size) _ k i 4 hi (by omega)] at hst
    exact hst.1
  · unfold lo
    split
    · exact ord_lo (h.ord r) hy
    · exact h.ord r
  · have hne : j ≠ gb := fun e => by
      subst e; rw [hA.2.1] at hw; exact ho _ _ (Option.some.inj hw).symm
    exact heap_set_other (Ytmjfbilhalkegaa.kept hb1 hw) hne
  · have hjb : j ≠ gb := fun e => hne (by rw [e]; rfl)
    rw [heap_setCell_other w1 ⟨gb, i * 5 + 4, none⟩ j _ hjb]
    exact hb1.block j hlt
theorem side_shrunk {w w1 w5 : World} {g base k i : Nat} {buy : Bool} {L : Nat → Array Value} {v v5 : Value} (hS : SideIs w g base k buy L) (hg : w.heap[g]? = some (.cells #[.bool true, .bool buy, v] 77 (0, 0)))
    (hB : Below w.heap.size w w1) (hoq : w1.ownsRow base 30 5 v k (flat L k)) (hoth : ∀ b, some b ≠ v.ownBlock → w5.heap[b]? = w1.heap[b]?) (hb5 : Below base w1 w5) (ho5 : w5.ownsRow base 30 5 v5 (k - 1) (flat (rem L i) (k - 1))) :
    w5.heap[g]? = some (.cells #[.bool true, .bool buy, v] 77 (0, 0)) ∧ SideIs (w5.setCell ⟨g, 2, none⟩ v5) g base (k - 1) buy (rem L i) ∧ Below base w (w5.setCell ⟨g, 2, none⟩ v5) ∧ Ko g w (w5.setCell ⟨g, 2, none⟩ v5) ∧ Kf g w (w5.setCell ⟨g, 2, none⟩ v5) := by
  have hg1 := Ytmjfbilhalkegaa.kept hB hg
  have hne : some g ≠ v.ownBlock := fun e => by
    obtain ⟨A9, fr9, h9⟩ := own_tag hoq g e.symm
    rw [hg1] at h9; injection h9 with h9; injection h9 with _ h9; exact absurd h9 (by decide)
  have hgw : g < w.heap.size := (Array.getElem?_eq_some_iff.1 hg).1
  have hgq5 := (hoth g hne).trans hg1
  have hbg := hS.bg
  have hk := hS.hk
  refine ⟨hgq5, ⟨⟨v5, heap_set (i := 2) (v := v5) hgq5, ?_⟩, fun j => ?_, hbg, by omega⟩, ?_, fun i o ho hi hw => ?_, Kf.of hg fun j hj hne hlt => ?_⟩
  · refine ownsRow_setCell_other ho5 (fun e => ?_) _
    obtain ⟨A, fr, h⟩ := own_tag ho5 _ e
    rw [show w5.heap[(⟨g, 2, none⟩ : Addr).block]? = w5.heap[g]? from rfl, hgq5] at h
    injection h with h; injection h with _ h; exact absurd h (by decide)
  · unfold rem
    split <;> exact hS.ord _
  · exact below_set ((hB.mono (by omega)).trans hb5) hbg
  · have hw1 := Ytmjfbilhalkegaa.kept hB hw
    have h5 := (hoth i (fun e => by
      obtain ⟨A9, fr9, h9⟩ := own_tag hoq i e.symm
      rw [hw1] at h9; exact ho A9 fr9 (Option.some.inj h9))).trans hw1
    exact (heap_setCell_other w5 ⟨g, 2, none⟩ i v5 hi).trans h5
  · exact ((heap_setCell_other w5 ⟨g, 2, none⟩ j v5 hj).trans (hoth j hne)).trans (hB.block j hlt)
end Go.Proofs.Ytmjfbilhalkegaa
