/- A book: its small methods. Condition: the book is one. -/
import Derived.Test.YtmjfbilhalkegaaBkS
import Derived.Lib.SmallJoins
namespace Go.Proofs.Ytmjfbilhalkegaa
set_option linter.unusedVariables false
set_option linter.unusedSimpArgs false
open Go.RowKit

/-- a book: its two sides, apart from each other -/
structure BookIs (w : World) (g base : Nat) (lb ls : List Od) : Prop where
  row : ∃ gb gs, w.heap[g]? = some (.cells #[.pointer (some ⟨gb, 0, none⟩), .pointer (some ⟨gs, 0, none⟩)] 56 (0, 0)) ∧ SL w gb base true lb ∧ SL w gs base false ls ∧ gb ≠ gs ∧
    ∀ vb vs, w.heap[gb]? = some (.cells #[.bool true, .bool true, vb] 77 (0, 0)) → w.heap[gs]? = some (.cells #[.bool true, .bool false, vs] 77 (0, 0)) → ∀ q, vb.ownBlock = some q → vs.ownBlock ≠ some q
  bg : base ≤ g
/-- two sides, apart from each other -/
structure Two (w : World) (gb gs base : Nat) (lb ls : List Od) : Prop where
  b : SL w gb base true lb
  s : SL w gs base false ls
  ne : gb ≠ gs
  ap : ∀ vb vs, w.heap[gb]? = some (.cells #[.bool true, .bool true, vb] 77 (0, 0)) → w.heap[gs]? = some (.cells #[.bool true, .bool false, vs] 77 (0, 0)) → ∀ q, vb.ownBlock = some q → vs.ownBlock ≠ some q
theorem side_inj {w : World} {g : Nat} {b b2 : Bool} {v v2 : Value} (h : w.heap[g]? = some (.cells #[.bool true, .bool b, v] 77 (0, 0))) (h2 : w.heap[g]? = some (.cells #[.bool true, .bool b2, v2] 77 (0, 0))) : b2 = b ∧ v2 = v := by
  rw [h] at h2
  simp at h2
  exact ⟨h2.1.symm, h2.2.symm⟩
theorem Two.kept {w w' : World} {gb gs base : Nat} {lb ls : List Od} (h : Two w gb gs base lb ls) (hb : Below w.heap.size w w') : Two w' gb gs base lb ls := by
  obtain ⟨vb, h1, _⟩ := h.b.s.row
  obtain ⟨vs, h2, _⟩ := h.s.s.row
  refine ⟨h.b.kept hb, h.s.kept hb, h.ne, fun v1 v2 e1 e2 => ?_⟩
  obtain ⟨_, rfl⟩ := side_inj (Ytmjfbilhalkegaa.kept hb h1) e1
  obtain ⟨_, rfl⟩ := side_inj (Ytmjfbilhalkegaa.kept hb h2) e2
  exact h.ap _ _ h1 h2
/-- the other side stays -/
theorem sl_stay {w w' : World} {g g2 base : Nat} {buy buy2 : Bool} {l l2 : List Od} (h : SL w g base buy l) (h2 : SL w g2 base buy2 l2) (hne : g ≠ g2) (ap : ∀ v v2, w.heap[g]? = some (.cells #[.bool true, .bool buy, v] 77 (0, 0)) → w.heap[g2]? = some (.cells #[.bool true, .bool buy2, v2] 77 (0, 0)) → ∀ q, v.ownBlock = some q → v2.ownBlock ≠ some q) (hk : Ks g w w') (hko : Ko g w w') :
    SL w' g2 base buy2 l2 ∧ ∀ v v2, w'.heap[g]? = some (.cells #[.bool true, .bool buy, v] 77 (0, 0)) → w'.heap[g2]? = some (.cells #[.bool true, .bool buy2, v2] 77 (0, 0)) → ∀ q, v.ownBlock = some q → v2.ownBlock ≠ some q := by
  obtain ⟨v, hg, hr⟩ := h.s.row
  obtain ⟨v2, hg2, hr2⟩ := h2.s.row
  obtain ⟨q1, v1, hg1, q2⟩ := hk v buy hg
  have hg2' := hko.cells g2 _ _ _ (by decide) (fun e => hne e.symm) hg2
  refine ⟨⟨⟨⟨v2, hg2', ?_⟩, h2.s.ord, h2.s.bg, h2.s.hk⟩, h2.ok⟩, fun a b e1 e2 q e3 e4 => ?_⟩
  · obtain ⟨a1, a2 | ⟨gx, cap, cur, p1, p2, p3, p4'⟩⟩ := hr2
    · exact ⟨a1, .inl a2⟩
    · refine ⟨a1, .inr ⟨gx, cap, cur, p1, p2, (q1 gx (fun e => ?_) (fun e => ap _ _ hg hg2 gx e.symm (by rw [p1]; rfl)) (Array.getElem?_eq_some_iff.1 p3).1).trans p3, p4'⟩⟩
      subst e
      rw [hg] at p3; injection p3 with p3; injection p3 with _ p3; exact absurd p3 (by decide)
  · obtain ⟨_, rfl⟩ := side_inj hg1 e1
    obtain ⟨_, rfl⟩ := side_inj hg2' e2
    rcases q2 with q2 | ⟨b2, q2, q3⟩
    · exact ap _ _ hg hg2 q (q2.symm.trans e3) e4
    · rw [e3] at q2
      cases q2
      have := (hr2.lt q e4).2
      omega
theorem Two.buy {w w' : World} {gb gs base : Nat} {lb ls lb' : List Od} (h : Two w gb gs base lb ls) (hk : SK gb base true lb' w w') : Two w' gb gs base lb' ls := by
  obtain ⟨q1, q2⟩ := sl_stay h.b h.s h.ne h.ap hk.ks hk.ko
  exact ⟨hk.s, q1, h.ne, q2⟩
theorem Two.sell {w w' : World} {gb gs base : Nat} {lb ls ls' : List Od} (h : Two w gb gs base lb ls) (hk : SK gs base false ls' w w') : Two w' gb gs base lb ls' := by
  obtain ⟨q1, q2⟩ := sl_stay h.s h.b (fun e => h.ne e.symm) (fun v v2 e1 e2 q e3 e4 => h.ap v2 v e2 e1 q e4 e3) hk.ks hk.ko
  exact ⟨q1, hk.s, h.ne, fun v1 v2 e1 e2 q e3 e4 => q2 v2 v1 e2 e1 q e4 e3⟩
/-- a book, with its sides' places -/
structure BkG (w : World) (g gb gs base : Nat) (lb ls : List Od) : Prop where
  row : w.heap[g]? = some (.cells #[.pointer (some ⟨gb, 0, none⟩), .pointer (some ⟨gs, 0, none⟩)] 56 (0, 0))
  two : Two w gb gs base lb ls
  bg : base ≤ g
theorem BkG.kept {w w' : World} {g gb gs base : Nat} {lb ls : List Od} (h : BkG w g gb gs base lb ls) (hb : Below w.heap.size w w') : BkG w' g gb gs base lb ls := ⟨Ytmjfbilhalkegaa.kept hb h.row, h.two.kept hb, h.bg⟩
theorem crs_any (o : Od) (p : Int) (w : World) : Calls Try.prog 41 #[.agg (oa o), .int .i64 p] w fun e w' => e = .returned (.bool (crs o p)) ∧ Below w.heap.size w w' := by
  have hb := below_new w (Obj.cells (oa o) 30)
  have h2 : (oa o)[2]? = some (.bool o.b) := rfl
  have h3 : (oa o)[3]? = some (.int .i64 o.p) := rfl
  have HC := Lib.hid (show crs o p = if o.b then decide (p ≤ o.p) else decide (o.p ≤ p) from rfl)
  generalize crs o p = r at *
  generalize oa o = A at *
  cases hb2 : o.b with
  | true =>
    rw [hb2] at h2 HC
    go_enter Try.func41, Try.ntmps41
    go_wp2
    go_ret
    exact ⟨by rw [HC.out]; rfl, hb⟩
  | false =>
    rw [hb2] at h2 HC
    go_enter Try.func41, Try.ntmps41
    go_wp2
    go_ret
    exact ⟨by rw [HC.out]; rfl, hb⟩
theorem bready_yes {w : World} {g gb gs base : Nat} {lb ls : List Od} (h : BkG w g gb gs base lb ls) : Calls Try.prog 25 #[.pointer (some ⟨g, 0, none⟩)] w fun e w' => e = .returned (.bool true) ∧ w = w' := by
  have hn : ∀ (w : World) (g : Nat), (binOp .neq 23 (.pointer (some ⟨g, 0, none⟩)) (.pointer none)).run Try.prog w = .ok (.bool true) w := fun _ _ => by kernel_rfl
  have hn2 : ∀ (w : World) (g : Nat), (binOp .neq 54 (.pointer (some ⟨g, 0, none⟩)) (.pointer none)).run Try.prog w = .ok (.bool true) w := fun _ _ => by kernel_rfl
  have cg := cellF h.row
  clear h
  go_enter Try.func25, Try.ntmps25
  go_wp2
  go_ret
  exact ⟨rfl, rfl⟩
theorem bsides_any {w : World} {g gb gs base : Nat} {lb ls : List Od} (buy : Bool) (h : BkG w g gb gs base lb ls) : Calls Try.prog 28 #[.pointer (some ⟨g, 0, none⟩), .bool buy] w fun e w' => e = .returned (.tuple #[.pointer (some ⟨if buy then gb else gs, 0, none⟩), .pointer (some ⟨if buy then gs else gb, 0, none⟩)]) ∧ Below w.heap.size w w' := by
  have HG := Lib.hid h.row
  clear h
  cases buy with
  | true =>
    simp only [if_true]
    go_enter Try.func28, Try.ntmps28
    go_wp2
    refine wp_region_below (by kernel_rfl) (by kernel_rfl) ?_
    repeat (first | ((with_reducible apply q_skip); (case hw => rfl); (try simp only [Act.put, List.setIfInBounds_toArray, List.set_cons_zero, List.set_cons_succ])) | ((with_reducible apply q_val); (case hw => rfl); (case hv => intro wq hbq; have hcr := cellF (Ytmjfbilhalkegaa.kept hbq HG.out); go_simp; try rfl); (try simp only [Act.put, List.setIfInBounds_toArray, List.set_cons_zero, List.set_cons_succ])))
    refine q_nil ?_
    intro w4 hb4
    go_wp2
    go_ret2
    exact ⟨rfl, hb4⟩
  | false =>
    simp only [Bool.false_eq_true, if_false]
    go_enter Try.func28, Try.ntmps28
    go_wp2
    refine wp_region_below (by kernel_rfl) (by kernel_rfl) ?_
    repeat (first | ((with_reducible apply q_skip); (case hw => rfl); (try simp only [Act.put, List.setIfInBounds_toArray, List.set_cons_zero, List.set_cons_succ])) | ((with_reducible apply q_val); (case hw => rfl); (case hv => intro wq hbq; have hcr := cellF (Ytmjfbilhalkegaa.kept hbq HG.out); go_simp; try rfl); (try simp only [Act.put, List.setIfInBounds_toArray, List.set_cons_zero, List.set_cons_succ])))
    refine q_nil ?_
    intro w4 hb4
    go_wp2
    go_ret2
    exact ⟨rfl, hb4⟩
/-- a new book -/
theorem bnew_any (w : World) : Calls Try.prog 9 #[] w fun e w' => ∃ g gb gs, e = .returned (.pointer (some ⟨g, 0, none⟩)) ∧ BkG w' g gb gs w.heap.size [] [] ∧ Below w.heap.size w w' := by
  go_enter Try.func9, Try.ntmps9
  go_wp2_with fail
  refine (new_side true w).mono ?_
  rintro e w1 ⟨rfl, hs1, hb1⟩
  go_wp2_with fail
  refine (new_side false w1).mono ?_
  rintro e w2 ⟨rfl, hs2, hb2⟩
  go_wp2_with (((with_reducible refine at_build 56 ?_); refine wpList_build_named rfl 56 _ rfl (#[.pointer (some ⟨w.heap.size, 0, none⟩), .pointer (some ⟨w1.heap.size, 0, none⟩)]) (by kernel_rfl) ?_))
  go_ret
  have hbn := below_new w2 (Obj.cells #[.pointer (some ⟨w.heap.size, 0, none⟩), .pointer (some ⟨w1.heap.size, 0, none⟩)] 56)
  have hs := hb1.size
  have hs' := hb2.size
  have e0 : oa od0 = zo := rfl
  have h1 : SL w2 w.heap.size w.heap.size true [] := ⟨(hs1.kept hb2).congr (fun i => oa_ord (od_ok (l := []) (fun o h => by cases h) i)) (fun i hi => by omega), fun o h => by cases h⟩
  have h2 : SL w2 w1.heap.size w.heap.size false [] := by
    obtain ⟨v, hg, hr⟩ := hs2.row
    exact ⟨⟨⟨v, hg, Go.Joins.ownsRow_le hr hs⟩, fun i => oa_ord (od_ok (l := []) (fun o h => by cases h) i), hs, by simp⟩, fun o h => by cases h⟩
  have hne : w.heap.size ≠ w1.heap.size := by
    obtain ⟨v, hg, _⟩ := hs1.row
    have := (Array.getElem?_eq_some_iff.1 hg).1
    omega
  refine ⟨_, w.heap.size, w1.heap.size, rfl, ⟨heap_alloc_new _ _, Two.kept ⟨h1, h2, hne, fun vb vs e1 e2 q e3 e4 => ?_⟩ hbn, by omega⟩, below_alloc (below_then hb1 hb2) _⟩
  obtain ⟨v1, hg1, hr1⟩ := hs1.row
  obtain ⟨v2, hg2, hr2⟩ := hs2.row
  obtain ⟨_, rfl⟩ := side_inj (Ytmjfbilhalkegaa.kept hb2 hg1) e1
  obtain ⟨_, rfl⟩ := side_inj hg2 e2
  have a1 := (hr1.lt q e3).2
  have a2 := (hr2.lt q e4).1
  omega
end Go.Proofs.Ytmjfbilhalkegaa
