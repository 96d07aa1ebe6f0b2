/- Texts that UncLaw07 stands on, one behind the other, part 12. Conditions: each theorem names its own. -/
import Derived.Test.YtmjfbilhalkegaaMgUncLaw0711
import Derived.RangeFuncWrites
/-! A book: Cancel and Get, walked. Condition: the book is one. -/
namespace Go.Proofs.Ytmjfbilhalkegaa
set_option linter.unusedVariables false
set_option linter.unusedSimpArgs false
open Go.RowKit Go.Deep

theorem kb_swap {n g1 g2 : Nat} {b : Bool} {w w' : World} (h : Kb n g1 g2 b w w') : Kb n g2 g1 (!b) w w' := fun q o hq ho e1 e2 n1 n2 => by
  rw [Bool.not_not] at n2
  obtain ⟨a1, a2, a3⟩ := h q o hq ho e2 e1 n2 n1
  exact ⟨a1, a3, by rw [Bool.not_not]; exact a2⟩
/-- what a call of a book leaves -/
structure BkS (w w' : World) (g gb gs base : Nat) (lb ls : List Od) : Prop where
  bk : BkG w' g gb gs base lb ls
  be : Below base w w'
  fr : Kb w.heap.size gb gs true w w'
theorem Two.tx {w : World} {gb gs base : Nat} {lb ls : List Od} (h : Two w gb gs base lb ls) : TwX w gb gs base true lb ls := ⟨h.b, h.s, h.ne, h.ap⟩
theorem TwX.tw {w : World} {gb gs base : Nat} {lb ls : List Od} (h : TwX w gb gs base true lb ls) : Two w gb gs base lb ls := ⟨h.s1, h.s2, h.ne, h.ap⟩
theorem BkG.low {w : World} {g gb gs base : Nat} {lb ls : List Od} (h : BkG w g gb gs base lb ls) : base ≤ w.heap.size := by
  have := (Array.getElem?_eq_some_iff.1 h.row).1
  have := h.bg
  omega
theorem bks_same {w w' : World} {g gb gs base : Nat} {lb ls : List Od} (h : BkG w g gb gs base lb ls) (hb : Below w.heap.size w w') : BkS w w' g gb gs base lb ls := ⟨h.kept hb, hb.mono h.low, kb_below h.two.tx hb⟩
theorem BkS.trans {w w' w2 : World} {g gb gs base : Nat} {lb ls lb2 ls2 : List Od} (h : BkS w w' g gb gs base lb ls) (hs : w.heap.size ≤ w'.heap.size) (h2 : BkS w' w2 g gb gs base lb2 ls2) : BkS w w2 g gb gs base lb2 ls2 :=
  ⟨h2.bk, h.be.trans h2.be, h.fr.trans (kb_less h2.fr hs)⟩
theorem bks_buy {w w' : World} {g gb gs base : Nat} {lb ls l : List Od} (h : BkG w g gb gs base lb ls) (hk : SK gb base true l w w') : BkS w w' g gb gs base l ls := by
  obtain ⟨v, e, _⟩ := h.two.b.s.row
  have hne : g ≠ gb := fun e2 => by
    have hr := h.row
    subst e2; rw [e] at hr; injection hr with hr; injection hr with _ hr; exact absurd hr (by decide)
  exact ⟨⟨hk.ko.cells g _ _ _ (by decide) hne h.row, (h.two.tx.st1 hk).tw, h.bg⟩, hk.be, kb_side1 h.two.tx hk⟩
theorem bks_sell {w w' : World} {g gb gs base : Nat} {lb ls l : List Od} (h : BkG w g gb gs base lb ls) (hk : SK gs base false l w w') : BkS w w' g gb gs base lb l := by
  obtain ⟨v, e, _⟩ := h.two.s.s.row
  have hne : g ≠ gs := fun e2 => by
    have hr := h.row
    subst e2; rw [e] at hr; injection hr with hr; injection hr with _ hr; exact absurd hr (by decide)
  exact ⟨⟨hk.ko.cells g _ _ _ (by decide) hne h.row, (h.two.tx.st2 hk).tw, h.bg⟩, hk.be, kb_side h.two.tx hk⟩
theorem bks_plc {w w' : World} {e : Ending} {g gb gs base : Nat} {o : Od} {r : Bool} {lb ls : List Od} (h : BkG w g gb gs base lb ls)
    (hp : Plc w w' e g #[.pointer (some ⟨gb, 0, none⟩), .pointer (some ⟨gs, 0, none⟩)] (if o.b then gb else gs) (if o.b then gs else gb) base o r (if o.b then lb else ls) (if o.b then ls else lb)) :
    BkS w w' g gb gs base (if o.b then rst r o (meet o o.q (if o.b then ls else lb)).left (if o.b then lb else ls) else (meet o o.q (if o.b then ls else lb)).rest) (if o.b then (meet o o.q (if o.b then ls else lb)).rest else rst r o (meet o o.q (if o.b then ls else lb)).left (if o.b then lb else ls)) := by
  refine ⟨⟨hp.bk, hp.two.two, h.bg⟩, hp.be, ?_⟩
  have := hp.fr
  cases hb : o.b with
  | true => rw [hb] at this; exact this
  | false => rw [hb] at this; exact kb_swap this
theorem box_off {w3 w4 : World} {g gb gs base q n : Nat} {lb ls : List Od} (h : BkG w3 g gb gs base lb ls) (n1 : Nb gb q true w3) (n2 : Nb gs q false w3) (e1 : q ≠ gb) (e2 : q ≠ gs) (e3 : q ≠ g) (ho : ∀ i, i ≠ q → w4.heap[i]? = w3.heap[i]?) (hn : n ≤ q) :
    BkG w4 g gb gs base lb ls ∧ Kb n gb gs true w3 w4 := by
  have f1 : ∀ o, w3.heap[gb]? = some o → w4.heap[gb]? = some o := fun o e => (ho gb (fun x => e1 x.symm)).trans e
  have f2 : ∀ o, w3.heap[gs]? = some o → w4.heap[gs]? = some o := fun o e => (ho gs (fun x => e2 x.symm)).trans e
  obtain ⟨vb, h1, _⟩ := h.two.b.s.row
  obtain ⟨vs, h2, _⟩ := h.two.s.s.row
  refine ⟨⟨(ho g (fun x => e3 x.symm)).trans h.row, ⟨(sl_off h.two.b n1 e1 ho).1, (sl_off h.two.s n2 e2 ho).1, h.two.ne, fun v1 v2 a1 a2 => ?_⟩, h.bg⟩, kb_rows h.two.tx f1 f2 (fun i o hi e => (ho i (by omega)).trans e)⟩
  obtain ⟨_, rfl⟩ := side_inj (f1 _ h1) a1
  obtain ⟨_, rfl⟩ := side_inj (f2 _ h2) a2
  exact h.two.ap _ _ h1 h2
/-- a result's own block, that lay open all the time, is written last -/
theorem fin_box {w W2 w3 : World} {g gb gs base : Nat} {lb ls lb2 ls2 : List Od} {o0 : Obj} (h : BkG w g gb gs base lb ls) (hB : Below w.heap.size w W2) (hr2 : W2.heap[w.heap.size]? = some o0) (hs : BkS W2 w3 g gb gs base lb2 ls2) :
    w3.heap[w.heap.size]? = some o0 ∧ ∀ w4 : World, (∀ k, k ≠ w.heap.size → w4.heap[k]? = w3.heap[k]?) → (∀ B, B ≤ w.heap.size → Below B w3 w4) → BkS w w4 g gb gs base lb2 ls2 := by
  obtain ⟨vb, h1, _⟩ := h.two.b.s.row
  obtain ⟨vs, h2, _⟩ := h.two.s.s.row
  have l1 := (Array.getElem?_eq_some_iff.1 h1).1
  have l2 := (Array.getElem?_eq_some_iff.1 h2).1
  have l3 := (Array.getElem?_eq_some_iff.1 h.row).1
  obtain ⟨a1, a2, a3⟩ := hs.fr w.heap.size o0 (Array.getElem?_eq_some_iff.1 hr2).1 hr2 (by omega) (by omega) (nb_new h.two.b (Nat.le_refl _) hB) (nb_new h.two.s (Nat.le_refl _) hB)
  refine ⟨a1, fun w4 ho hb => ?_⟩
  obtain ⟨b1, b2⟩ := box_off (n := w.heap.size) hs.bk a2 a3 (by omega) (by omega) (by omega) ho (Nat.le_refl _)
  exact ⟨b1, ((hB.mono h.low).trans hs.be).trans (hb _ h.low), ((kb_below h.two.tx hB).trans (kb_less hs.fr hB.size)).trans b2⟩
set_option maxRecDepth 100000 in
set_option maxHeartbeats 4000000 in
theorem cancel_n {w : World} {g gb gs base : Nat} {lb ls : List Od} (n : Int) (h : BkG w g gb gs base lb ls) (h1 : gt n lb = none) (h2 : gt n ls = none) :
    Calls Try.prog 17 #[.pointer (some ⟨g, 0, none⟩), .int .u64 n] w fun e w' => e = .returned (.tuple #[.agg zo, .int .i64 7]) ∧ Below w.heap.size w w' := by
  have HFN := Lib.hid (fn_n (gb := gb) (gs := gs) h1 h2)
  obtain ⟨FO, hFO⟩ : ∃ FO, FO = zo := ⟨_, rfl⟩
  rw [← hFO] at HFN
  have HFZ := Lib.hid (show FO.size = 5 from by rw [hFO]; rfl)
  have HFA := Lib.hid (show FO.all (·.oneCell') = true from by rw [hFO]; exact zo_all)
  clear hFO h1 h2
  have hb0 := below_new w (Obj.cells zo 30)
  have hr0 := heap_alloc_new w (Obj.cells zo 30)
  have HH1 := Lib.hid (h.kept hb0)
  have HZ := Lib.hid zo_size
  have HZA := Lib.hid zo_all
  have HTW := Lib.hid h.two
  have HLOW := Lib.hid h.low
  have HH := Lib.hid h
  have HB0 := Lib.hid hb0
  clear h
  go_enter Try.func17, Try.ntmps17
  go_wp2_with (first | ((with_reducible refine at_alloc 30 ?_); refine wpList_alloc_named rfl 30 rfl (zo) (by kernel_rfl) ?_) | (go_at_call 25; (with_reducible refine ((bready_yes HH1.out)).mono ?_); rintro e w1' ⟨rfl, rfl⟩) | (go_at_call 27; (with_reducible refine ((find_any n HH1.out)).mono ?_); rintro e w2 ⟨rfl, hb2⟩; rw [HFN.out.1, HFN.out.2]; have hb12 := below_alloc hb2 (Obj.cells FO 30); have hr2 := Ytmjfbilhalkegaa.kept hb12 hr0; have HX9 := Lib.hid (heap_alloc_new w2 (Obj.cells FO 30)); have HH2 := Lib.hid (HH1.out.kept hb12)) | ((with_reducible refine at_store 30 ?_); refine wpList_store_new rfl 30 _ _ rfl FO _ _ _ rfl (by simp) rfl (by rw [HFZ.out]; kernel_rfl) (by rw [HFZ.out]; rfl) HFA.out ?_) | ((with_reducible refine at_build 30 ?_); refine wpList_build_named rfl 30 _ rfl zo (by kernel_rfl) ?_) | ((with_reducible refine at_store 30 ?_); refine wpList_store_over rfl 30 _ _ rfl (w.heap.size) (zo) rfl rfl _ _ (hr2) (by rw [HZ.out]; kernel_rfl) (rfl) (HZA.out) ?_; intro w3 hg3 hs3 ho3 hb3))
  exact post_cell_tmp (g := w.heap.size) (t := 30) (v := .int .i64 7) rfl rfl rfl rfl hg3 Try.underlying30 rfl (by kernel_rfl) ⟨rfl, (below_then HB0.out hb12).trans (hb3 _ (Nat.le_refl _))⟩
set_option maxRecDepth 100000 in
set_option maxHeartbeats 4000000 in
theorem cancel_b {w : World} {g gb gs base : Nat} {lb ls : List Od} {o : Od} (n : Int) (h : BkG w g gb gs base lb ls) (hg : gt n lb = some o) :
    Calls Try.prog 17 #[.pointer (some ⟨g, 0, none⟩), .int .u64 n] w fun e w' => e = .returned (.tuple #[.agg (oa o), .int .i64 0]) ∧ BkS w w' g gb gs base (del n lb) ls := by
  have HFN := Lib.hid (fn_b (gb := gb) (gs := gs) (ls := ls) hg)
  have hall := (oa_ord (h.two.b.ok o (gt_mem hg))).all
  have hgr := hg
  have HGR := Lib.hid hgr
  clear hgr
  have hb0 := below_new w (Obj.cells zo 30)
  have hr0 := heap_alloc_new w (Obj.cells zo 30)
  have HH1 := Lib.hid (h.kept hb0)
  have HZ := Lib.hid zo_size
  have HZA := Lib.hid zo_all
  have HTW := Lib.hid h.two
  have HLOW := Lib.hid h.low
  have HH := Lib.hid h
  have HB0 := Lib.hid hb0
  clear h
  have HFZ := Lib.hid (show (oa o).size = 5 from rfl)
  have HFA := Lib.hid hall
  have HG := Lib.hid hg
  generalize hFO : oa o = FO at *
  have HFO := Lib.hid hFO
  clear hFO hall hg
  go_enter Try.func17, Try.ntmps17
  go_wp2_with (first | ((with_reducible refine at_alloc 30 ?_); refine wpList_alloc_named rfl 30 rfl (zo) (by kernel_rfl) ?_) | (go_at_call 25; (with_reducible refine ((bready_yes HH1.out)).mono ?_); rintro e w1' ⟨rfl, rfl⟩) | (go_at_call 27; (with_reducible refine ((find_any n HH1.out)).mono ?_); rintro e w2 ⟨rfl, hb2⟩; rw [HFN.out.1, HFN.out.2]; have hb12 := below_alloc hb2 (Obj.cells FO 30); have hr2 := Ytmjfbilhalkegaa.kept hb12 hr0; have HX9 := Lib.hid (heap_alloc_new w2 (Obj.cells FO 30)); have HH2 := Lib.hid (HH1.out.kept hb12)) | ((with_reducible refine at_store 30 ?_); refine wpList_store_new rfl 30 _ _ rfl FO _ _ _ rfl (by simp) rfl (by rw [HFZ.out]; kernel_rfl) (by rw [HFZ.out]; rfl) HFA.out ?_) | (go_at_call 33; (with_reducible refine ((drop_in n HH2.out.two.b HGR.out)).mono ?_); rintro e w3 ⟨rfl, hsk⟩; rw [HFO.out]; have HFB := Lib.hid (fin_box HH.out (below_then HB0.out hb12) hr2 (bks_buy HH2.out hsk)); have hr3 := HFB.out.1; clear hsk) | ((with_reducible refine at_store 30 ?_); refine wpList_store_over rfl 30 _ _ rfl (w.heap.size) (FO) rfl rfl _ _ (hr3) (by rw [HFZ.out]; kernel_rfl) (by rw [HFZ.out]; rfl) (HFA.out) ?_; intro w4 hg4 hs4 ho4 hb4))
  exact post_cell_tmp (g := w.heap.size) (t := 30) (v := .int .i64 0) rfl rfl rfl rfl hg4 Try.underlying30 rfl (by rw [HFZ.out]; kernel_rfl) ⟨rfl, HFB.out.2 _ ho4 hb4⟩
set_option maxRecDepth 100000 in
set_option maxHeartbeats 4000000 in
theorem cancel_s {w : World} {g gb gs base : Nat} {lb ls : List Od} {o : Od} (n : Int) (h : BkG w g gb gs base lb ls) (h1 : gt n lb = none) (hg : gt n ls = some o) :
    Calls Try.prog 17 #[.pointer (some ⟨g, 0, none⟩), .int .u64 n] w fun e w' => e = .returned (.tuple #[.agg (oa o), .int .i64 0]) ∧ BkS w w' g gb gs base lb (del n ls) := by
  have HFN := Lib.hid (fn_s (gb := gb) (gs := gs) h1 hg)
  have hall := (oa_ord (h.two.s.ok o (gt_mem hg))).all
  have hgr := hg
  have HGR := Lib.hid hgr
  clear hgr h1
  have hb0 := below_new w (Obj.cells zo 30)
  have hr0 := heap_alloc_new w (Obj.cells zo 30)
  have HH1 := Lib.hid (h.kept hb0)
  have HZ := Lib.hid zo_size
  have HZA := Lib.hid zo_all
  have HTW := Lib.hid h.two
  have HLOW := Lib.hid h.low
  have HH := Lib.hid h
  have HB0 := Lib.hid hb0
  clear h
  have HFZ := Lib.hid (show (oa o).size = 5 from rfl)
  have HFA := Lib.hid hall
  have HG := Lib.hid hg
  generalize hFO : oa o = FO at *
  have HFO := Lib.hid hFO
  clear hFO hall hg
  go_enter Try.func17, Try.ntmps17
  go_wp2_with (first | ((with_reducible refine at_alloc 30 ?_); refine wpList_alloc_named rfl 30 rfl (zo) (by kernel_rfl) ?_) | (go_at_call 25; (with_reducible refine ((bready_yes HH1.out)).mono ?_); rintro e w1' ⟨rfl, rfl⟩) | (go_at_call 27; (with_reducible refine ((find_any n HH1.out)).mono ?_); rintro e w2 ⟨rfl, hb2⟩; rw [HFN.out.1, HFN.out.2]; have hb12 := below_alloc hb2 (Obj.cells FO 30); have hr2 := Ytmjfbilhalkegaa.kept hb12 hr0; have HX9 := Lib.hid (heap_alloc_new w2 (Obj.cells FO 30)); have HH2 := Lib.hid (HH1.out.kept hb12)) | ((with_reducible refine at_store 30 ?_); refine wpList_store_new rfl 30 _ _ rfl FO _ _ _ rfl (by simp) rfl (by rw [HFZ.out]; kernel_rfl) (by rw [HFZ.out]; rfl) HFA.out ?_) | (go_at_call 33; (with_reducible refine ((drop_in n HH2.out.two.s HGR.out)).mono ?_); rintro e w3 ⟨rfl, hsk⟩; rw [HFO.out]; have HFB := Lib.hid (fin_box HH.out (below_then HB0.out hb12) hr2 (bks_sell HH2.out hsk)); have hr3 := HFB.out.1; clear hsk) | ((with_reducible refine at_store 30 ?_); refine wpList_store_over rfl 30 _ _ rfl (w.heap.size) (FO) rfl rfl _ _ (hr3) (by rw [HFZ.out]; kernel_rfl) (by rw [HFZ.out]; rfl) (HFA.out) ?_; intro w4 hg4 hs4 ho4 hb4))
  exact post_cell_tmp (g := w.heap.size) (t := 30) (v := .int .i64 0) rfl rfl rfl rfl hg4 Try.underlying30 rfl (by rw [HFZ.out]; kernel_rfl) ⟨rfl, HFB.out.2 _ ho4 hb4⟩
end Go.Proofs.Ytmjfbilhalkegaa
/-! A side, and a book: Copy, walked. Condition: the side is one, the book is one. -/
namespace Go.Proofs.Ytmjfbilhalkegaa
set_option linter.unusedVariables false
set_option linter.unusedSimpArgs false
open Go.RowKit Go.Deep

set_option maxRecDepth 100000 in
set_option maxHeartbeats 4000000 in
theorem scopy_in {w : World} {g base : Nat} {buy : Bool} {l : List Od} (h : SL w g base buy l) :
    Calls Try.prog 34 #[.pointer (some ⟨g, 0, none⟩)] w fun e w' => ∃ g2, e = .returned (.pointer (some ⟨g2, 0, none⟩)) ∧ SL w' g2 w.heap.size buy l ∧ Below w.heap.size w w' := by
  have cr := sready_yes h.s
  obtain ⟨v, hg, hrow⟩ := h.s.row
  have HL := Lib.hid h
  obtain ⟨ra, rc, rfl, hR, _, _, hz⟩ := own_rows (c := 5) (fun i => (h.s.ord i).size) hrow
  have HR := Lib.hid hR
  have HZ := Lib.hid hz
  have HG := Lib.hid hg
  clear h hrow hR hz hg
  go_enter Try.func34, Try.ntmps34
  go_wp2_with ((go_at_call 39; (with_reducible refine (cr).mono ?_); rintro e w1 ⟨rfl, rfl⟩))
  refine wp_region_held (S := fun wt => wt.heap[g]? = some (.cells #[.bool true, .bool buy, .slice ra l.length rc] 77 (0, 0))) (by kernel_rfl) ?_
  change wpAnyH _ _ _ _ _ _ _ _ (World.drew _)
  have hBq : Below w.heap.size w (World.drew w) := Below.drew (Below.refl _ _)
  have HS : (World.drew w).heap[g]? = some (.cells #[.bool true, .bool buy, .slice ra l.length rc] 77 (0, 0)) := HG.out
  obtain ⟨wq, hwq⟩ : ∃ wq, wq = World.drew w := ⟨_, rfl⟩
  rw [← hwq] at hBq HS ⊢
  clear hwq
  (refine wpAnyH_take (i := 0) (v := ?_) rfl (by kernel_rfl) (by kernel_rfl) (by kernel_rfl) (fun _ _ _ h => h) (Or.inl ⟨by rfl, ?ht_0⟩) HS ?_); (case ht_0 => (intro wt hS; go_simp; try with_reducible rfl)); (try simp only [Act.put, List.getElem_toArray, List.getElem_cons_zero, List.getElem_cons_succ, List.setIfInBounds_toArray, List.set_cons_zero, List.set_cons_succ]); (refine wpAnyH_take (i := 1) (v := ?_) rfl (by kernel_rfl) (by kernel_rfl) (by kernel_rfl) (fun _ _ _ h => h) (Or.inl ⟨by rfl, ?ht_1⟩) HS ?_); (case ht_1 => (intro wt hS; go_simp; try with_reducible rfl)); (try simp only [Act.put, List.getElem_toArray, List.getElem_cons_zero, List.getElem_cons_succ, List.setIfInBounds_toArray, List.set_cons_zero, List.set_cons_succ]); (refine wpAnyH_take (i := 2) (v := ?_) rfl (by kernel_rfl) (by kernel_rfl) (by kernel_rfl) (fun _ _ _ h => h) (Or.inl ⟨by rfl, ?ht_2⟩) HS ?_); (case ht_2 => (intro wt hS; go_simp; try with_reducible rfl)); (try simp only [Act.put, List.getElem_toArray, List.getElem_cons_zero, List.getElem_cons_succ, List.setIfInBounds_toArray, List.set_cons_zero, List.set_cons_succ])
  (refine wpAnyH_take (i := 3) (v := ?_) rfl (by kernel_rfl) (by kernel_rfl) (by kernel_rfl) (fun _ _ _ h => h) (Or.inl ⟨by rfl, ?ht_3⟩) HS ?_); (case ht_3 => (intro wt hS; have cg := cellF hS; go_simp; try with_reducible rfl)); (try simp only [Act.put, List.getElem_toArray, List.getElem_cons_zero, List.getElem_cons_succ, List.setIfInBounds_toArray, List.set_cons_zero, List.set_cons_succ])
  (refine wpAnyH_take (i := 4) (v := ?_) rfl (by kernel_rfl) (by kernel_rfl) (by kernel_rfl) (fun _ _ _ h => h) (Or.inl ⟨by rfl, ?ht_4⟩) HS ?_); (case ht_4 => (intro wt hS; go_simp; try with_reducible rfl)); (try simp only [Act.put, List.getElem_toArray, List.getElem_cons_zero, List.getElem_cons_succ, List.setIfInBounds_toArray, List.set_cons_zero, List.set_cons_succ]); (refine wpAnyH_take (i := 5) (v := ?_) rfl (by kernel_rfl) (by kernel_rfl) (by kernel_rfl) (fun _ _ _ h => h) (Or.inl ⟨by rfl, ?ht_5⟩) HS ?_); (case ht_5 => (intro wt hS; go_simp; try with_reducible rfl)); (try simp only [Act.put, List.getElem_toArray, List.getElem_cons_zero, List.getElem_cons_succ, List.setIfInBounds_toArray, List.set_cons_zero, List.set_cons_succ]); (refine wpAnyH_take (i := 6) (v := ?_) rfl (by kernel_rfl) (by kernel_rfl) (by kernel_rfl) (fun _ _ _ h => h) (Or.inl ⟨by rfl, ?ht_6⟩) HS ?_); (case ht_6 => (intro wt hS; go_simp; try with_reducible rfl)); (try simp only [Act.put, List.getElem_toArray, List.getElem_cons_zero, List.getElem_cons_succ, List.setIfInBounds_toArray, List.set_cons_zero, List.set_cons_succ])
  (refine wpAnyH_take (i := 7) (v := ?_) rfl (by kernel_rfl) (by kernel_rfl) (by kernel_rfl) (fun _ _ _ h => h) (Or.inl ⟨by rfl, ?ht_7⟩) HS ?_); (case ht_7 => (intro wt hS; have cg := cellF hS; go_simp; try with_reducible rfl)); (try simp only [Act.put, List.getElem_toArray, List.getElem_cons_zero, List.getElem_cons_succ, List.setIfInBounds_toArray, List.set_cons_zero, List.set_cons_succ])
  (refine wpAnyH_ready (rs := [8]) (by kernel_rfl) (by decide) ?_); (refine AllReadyH.cons rfl (fun K' hK => ?_) AllReadyH.nil); (rw [if_pos (by rfl)])
  refine op_call 46 #[.slice ra l.length rc] (by go_simp) (fun v' w1 => w1.ownsRow wq.heap.size 30 5 v' l.length (flat (fun i => oa (od l i)) l.length) ∧ Below wq.heap.size wq w1) ((sclone_any ra rc l.length _ wq HL.out.s.ord (rowsT_kept HR.out hBq) HL.out.s.hk HZ.out).mono (fun e w1 h => by obtain ⟨v', h1, h2, h3⟩ := h; exact ⟨v', h1, h2, h3⟩)) ?_
  rintro v' w3 ⟨ho3, hb3⟩
  obtain ⟨a3, c3, rfl⟩ := own_formB ho3
  refine hK.out _ _ (Ytmjfbilhalkegaa.kept hb3 HS) (fun HS => ?_)
  clear hK K'
  (try simp only [Act.put, List.getElem_toArray, List.getElem_cons_zero, List.getElem_cons_succ, List.setIfInBounds_toArray, List.set_cons_zero, List.set_cons_succ])
  (refine wpAnyH_take (i := 9) (v := .agg #[.bool true, .bool buy, .slice a3 l.length c3]) rfl (by kernel_rfl) (by kernel_rfl) (by kernel_rfl) (fun _ _ _ h => h) (Or.inl ⟨by rfl, ?ht_9⟩) HS ?_); (case ht_9 => (intro wt hS; exact exec_build 77 _ rfl _ (by kernel_rfl))); (try simp only [Act.put, List.getElem_toArray, List.getElem_cons_zero, List.getElem_cons_succ, List.setIfInBounds_toArray, List.set_cons_zero, List.set_cons_succ])
  (refine wpAnyH_ready (rs := [10]) (by kernel_rfl) (by decide) ?_); (refine AllReadyH.cons rfl (fun K' hK => ?_) AllReadyH.nil); (rw [if_pos (by rfl)])
  go_simp
  refine hK.out _ _ (heap_up HS) (fun HS => ?_)
  clear hK K'
  (refine wpAnyH_take (i := 11) (v := ?_) rfl (by kernel_rfl) (by kernel_rfl) (by kernel_rfl) (fun _ _ _ h => h) (Or.inl ⟨by rfl, ?ht_11⟩) HS ?_); (case ht_11 => (intro wt hS; go_simp; try with_reducible rfl)); (try simp only [Act.put, List.getElem_toArray, List.getElem_cons_zero, List.getElem_cons_succ, List.setIfInBounds_toArray, List.set_cons_zero, List.set_cons_succ])
  refine wpAnyH_done (by kernel_rfl) ?_ _
  go_wp2
  go_ret
  have hs := hBq.size
  have hs3 := hb3.size
  refine ⟨_, rfl, ⟨⟨⟨_, heap_alloc_new _ _, Go.Joins.ownsRow_le (ho3.alloc _) hs⟩, HL.out.s.ord, by omega, HL.out.s.hk⟩, HL.out.ok⟩, below_alloc (below_then hBq hb3) _⟩
/-- two sides that were made one behind the other are apart -/
theorem two_new {w wq w3 w4 : World} {gb2 gs2 : Nat} {lb ls : List Od} (h1 : SL w3 gb2 wq.heap.size true lb) (hb3 : Below wq.heap.size wq w3) (h2 : SL w4 gs2 w3.heap.size false ls) (hb4 : Below w3.heap.size w3 w4) (hs : w.heap.size ≤ wq.heap.size) : Two w4 gb2 gs2 w.heap.size lb ls := by
  obtain ⟨v1, e1, r1⟩ := h1.s.row
  obtain ⟨v2, e2, r2⟩ := h2.s.row
  have l1 := (Array.getElem?_eq_some_iff.1 e1).1
  have l2 := h2.s.bg
  have l3 := h1.s.bg
  have e1' := Ytmjfbilhalkegaa.kept hb4 e1
  refine ⟨⟨⟨⟨v1, e1', Go.Joins.ownsRow_le (own_below hb4 r1) hs⟩, h1.s.ord, by omega, h1.s.hk⟩, h1.ok⟩, ⟨⟨⟨v2, e2, Go.Joins.ownsRow_le r2 (by have := hb3.size; omega)⟩, h2.s.ord, by have := hb3.size; omega, h2.s.hk⟩, h2.ok⟩, by omega, fun a b q1 q2 q q3 q4 => ?_⟩
  obtain ⟨_, rfl⟩ := side_inj e1' q1
  obtain ⟨_, rfl⟩ := side_inj e2 q2
  have a1 := (r1.lt q q3).2
  have a2 := (r2.lt q q4).1
  omega
set_option maxRecDepth 100000 in
set_option maxHeartbeats 4000000 in
theorem bcopy_in {w : World} {g gb gs base : Nat} {lb ls : List Od} (h : BkG w g gb gs base lb ls) :
    Calls Try.prog 18 #[.pointer (some ⟨g, 0, none⟩)] w fun e w' => ∃ g2 gb2 gs2, e = .returned (.pointer (some ⟨g2, 0, none⟩)) ∧ BkG w' g2 gb2 gs2 w.heap.size lb ls ∧ Below w.heap.size w w' := by
  have HH := Lib.hid h
  clear h
  go_enter Try.func18, Try.ntmps18
  go_wp2_with ((go_at_call 25; (with_reducible refine ((bready_yes HH.out)).mono ?_); rintro e w1 ⟨rfl, rfl⟩))
  refine wp_region_held (S := fun wt => wt.heap[g]? = some (.cells #[.pointer (some ⟨gb, 0, none⟩), .pointer (some ⟨gs, 0, none⟩)] 56 (0, 0))) (by kernel_rfl) ?_
  change wpAnyH _ _ _ _ _ _ _ _ (World.drew _)
  have hBq : Below w.heap.size w (World.drew w) := Below.drew (Below.refl _ _)
  have HS : (World.drew w).heap[g]? = some (.cells #[.pointer (some ⟨gb, 0, none⟩), .pointer (some ⟨gs, 0, none⟩)] 56 (0, 0)) := HH.out.row
  obtain ⟨wq, hwq⟩ : ∃ wq, wq = World.drew w := ⟨_, rfl⟩
  rw [← hwq] at hBq HS ⊢
  clear hwq
  (refine wpAnyH_take (i := 0) (v := ?_) rfl (by kernel_rfl) (by kernel_rfl) (by kernel_rfl) (fun _ _ _ h => h) (Or.inl ⟨by rfl, ?ht_0⟩) HS ?_); (case ht_0 => (intro wt hS; go_simp; try with_reducible rfl)); (try simp only [Act.put, List.getElem_toArray, List.getElem_cons_zero, List.getElem_cons_succ, List.setIfInBounds_toArray, List.set_cons_zero, List.set_cons_succ]); (refine wpAnyH_take (i := 1) (v := ?_) rfl (by kernel_rfl) (by kernel_rfl) (by kernel_rfl) (fun _ _ _ h => h) (Or.inl ⟨by rfl, ?ht_1⟩) HS ?_); (case ht_1 => (intro wt hS; go_simp; try with_reducible rfl)); (try simp only [Act.put, List.getElem_toArray, List.getElem_cons_zero, List.getElem_cons_succ, List.setIfInBounds_toArray, List.set_cons_zero, List.set_cons_succ]); (refine wpAnyH_take (i := 2) (v := ?_) rfl (by kernel_rfl) (by kernel_rfl) (by kernel_rfl) (fun _ _ _ h => h) (Or.inl ⟨by rfl, ?ht_2⟩) HS ?_); (case ht_2 => (intro wt hS; go_simp; try with_reducible rfl)); (try simp only [Act.put, List.getElem_toArray, List.getElem_cons_zero, List.getElem_cons_succ, List.setIfInBounds_toArray, List.set_cons_zero, List.set_cons_succ])
  (refine wpAnyH_take (i := 3) (v := ?_) rfl (by kernel_rfl) (by kernel_rfl) (by kernel_rfl) (fun _ _ _ h => h) (Or.inl ⟨by rfl, ?ht_3⟩) HS ?_); (case ht_3 => (intro wt hS; have cg := cellF hS; go_simp; try with_reducible rfl)); (try simp only [Act.put, List.getElem_toArray, List.getElem_cons_zero, List.getElem_cons_succ, List.setIfInBounds_toArray, List.set_cons_zero, List.set_cons_succ])
  (refine wpAnyH_take (i := 5) (v := ?_) rfl (by kernel_rfl) (by kernel_rfl) (by kernel_rfl) (fun _ _ _ h => h) (Or.inl ⟨by rfl, ?ht_5⟩) HS ?_); (case ht_5 => (intro wt hS; go_simp; try with_reducible rfl)); (try simp only [Act.put, List.getElem_toArray, List.getElem_cons_zero, List.getElem_cons_succ, List.setIfInBounds_toArray, List.set_cons_zero, List.set_cons_succ]); (refine wpAnyH_take (i := 6) (v := ?_) rfl (by kernel_rfl) (by kernel_rfl) (by kernel_rfl) (fun _ _ _ h => h) (Or.inl ⟨by rfl, ?ht_6⟩) HS ?_); (case ht_6 => (intro wt hS; go_simp; try with_reducible rfl)); (try simp only [Act.put, List.getElem_toArray, List.getElem_cons_zero, List.getElem_cons_succ, List.setIfInBounds_toArray, List.set_cons_zero, List.set_cons_succ]); (refine wpAnyH_take (i := 7) (v := ?_) rfl (by kernel_rfl) (by kernel_rfl) (by kernel_rfl) (fun _ _ _ h => h) (Or.inl ⟨by rfl, ?ht_7⟩) HS ?_); (case ht_7 => (intro wt hS; go_simp; try with_reducible rfl)); (try simp only [Act.put, List.getElem_toArray, List.getElem_cons_zero, List.getElem_cons_succ, List.setIfInBounds_toArray, List.set_cons_zero, List.set_cons_succ])
  (refine wpAnyH_take (i := 8) (v := ?_) rfl (by kernel_rfl) (by kernel_rfl) (by kernel_rfl) (fun _ _ _ h => h) (Or.inl ⟨by rfl, ?ht_8⟩) HS ?_); (case ht_8 => (intro wt hS; have cg := cellF hS; go_simp; try with_reducible rfl)); (try simp only [Act.put, List.getElem_toArray, List.getElem_cons_zero, List.getElem_cons_succ, List.setIfInBounds_toArray, List.set_cons_zero, List.set_cons_succ])
  (refine wpAnyH_ready (rs := [4]) (by kernel_rfl) (by decide) ?_); (refine AllReadyH.cons rfl (fun K' hK => ?_) AllReadyH.nil); (rw [if_pos (by rfl)])
  refine op_call 34 #[.pointer (some ⟨gb, 0, none⟩)] (by go_simp) (fun v' w1 => ∃ g2, v' = .pointer (some ⟨g2, 0, none⟩) ∧ SL w1 g2 wq.heap.size true lb ∧ Below wq.heap.size wq w1) ((scopy_in (HH.out.kept hBq).two.b).mono (fun e w1 h => by obtain ⟨g2, h1, h2, h3⟩ := h; exact ⟨_, h1, g2, rfl, h2, h3⟩)) ?_
  rintro v' w3 ⟨gb2, rfl, hs3, hb3⟩
  refine hK.out _ _ (Ytmjfbilhalkegaa.kept hb3 HS) (fun HS => ?_)
  clear hK K'
  (try simp only [Act.put, List.getElem_toArray, List.getElem_cons_zero, List.getElem_cons_succ, List.setIfInBounds_toArray, List.set_cons_zero, List.set_cons_succ])
  (refine wpAnyH_ready (rs := [9]) (by kernel_rfl) (by decide) ?_); (refine AllReadyH.cons rfl (fun K' hK => ?_) AllReadyH.nil); (rw [if_pos (by rfl)])
  refine op_call 34 #[.pointer (some ⟨gs, 0, none⟩)] (by go_simp) (fun v' w1 => ∃ g2, v' = .pointer (some ⟨g2, 0, none⟩) ∧ SL w1 g2 w3.heap.size false ls ∧ Below w3.heap.size w3 w1) ((scopy_in (HH.out.kept (below_then hBq hb3)).two.s).mono (fun e w1 h => by obtain ⟨g2, h1, h2, h3⟩ := h; exact ⟨_, h1, g2, rfl, h2, h3⟩)) ?_
  rintro v' w4 ⟨gs2, rfl, hs4, hb4⟩
  refine hK.out _ _ (Ytmjfbilhalkegaa.kept hb4 HS) (fun HS => ?_)
  clear hK K'
  (try simp only [Act.put, List.getElem_toArray, List.getElem_cons_zero, List.getElem_cons_succ, List.setIfInBounds_toArray, List.set_cons_zero, List.set_cons_succ])
  (refine wpAnyH_take (i := 10) (v := .agg #[.pointer (some ⟨gb2, 0, none⟩), .pointer (some ⟨gs2, 0, none⟩)]) rfl (by kernel_rfl) (by kernel_rfl) (by kernel_rfl) (fun _ _ _ h => h) (Or.inl ⟨by rfl, ?ht_10⟩) HS ?_); (case ht_10 => (intro wt hS; exact exec_build 56 _ rfl _ (by kernel_rfl))); (try simp only [Act.put, List.getElem_toArray, List.getElem_cons_zero, List.getElem_cons_succ, List.setIfInBounds_toArray, List.set_cons_zero, List.set_cons_succ])
  (refine wpAnyH_ready (rs := [11]) (by kernel_rfl) (by decide) ?_); (refine AllReadyH.cons rfl (fun K' hK => ?_) AllReadyH.nil); (rw [if_pos (by rfl)])
  go_simp
  refine hK.out _ _ (heap_up HS) (fun HS => ?_)
  clear hK K'
  (refine wpAnyH_take (i := 12) (v := ?_) rfl (by kernel_rfl) (by kernel_rfl) (by kernel_rfl) (fun _ _ _ h => h) (Or.inl ⟨by rfl, ?ht_12⟩) HS ?_); (case ht_12 => (intro wt hS; go_simp; try with_reducible rfl)); (try simp only [Act.put, List.getElem_toArray, List.getElem_cons_zero, List.getElem_cons_succ, List.setIfInBounds_toArray, List.set_cons_zero, List.set_cons_succ])
  refine wpAnyH_done (by kernel_rfl) ?_ _
  go_wp2
  go_ret
  have hT := two_new (w := w) hs3 hb3 hs4 hb4 hBq.size
  have hz := hBq.size
  have hz3 := hb3.size
  have hz4 := hb4.size
  exact ⟨_, gb2, gs2, rfl, ⟨heap_alloc_new _ _, hT.kept (below_new w4 _), by omega⟩, below_alloc (below_then hBq (below_then hb3 hb4)) _⟩
end Go.Proofs.Ytmjfbilhalkegaa
/-! A book that is not there, or was not made, refuses: each method. No condition. -/
namespace Go.Proofs.Ytmjfbilhalkegaa
set_option linter.unusedVariables false
set_option linter.unusedSimpArgs false
open Go.RowKit Go.Shelf

/-- no book, or one that was not made -/
def NoB (w : World) (p : Option Addr) : Prop := p = none ∨ ∃ g, p = some ⟨g, 0, none⟩ ∧ w.heap[g]? = some (.cells #[.pointer none, .pointer none] 56 (0, 0))
theorem NoB.kept {w w' : World} {p : Option Addr} (h : NoB w p) (hb : Below w.heap.size w w') : NoB w' p := by
  rcases h with h | ⟨g, h, hg⟩
  · exact .inl h
  · exact .inr ⟨g, h, Ytmjfbilhalkegaa.kept hb hg⟩
theorem bready_no {w : World} {p : Option Addr} (h : NoB w p) : Calls Try.prog 25 #[.pointer p] w fun e w' => e = .returned (.bool false) ∧ w = w' := by
  have hn : ∀ (w : World) (g : Nat), (binOp .neq 23 (.pointer (some ⟨g, 0, none⟩)) (.pointer none)).run Try.prog w = .ok (.bool true) w := fun _ _ => by kernel_rfl
  have hn1 : ∀ (w : World), (binOp .neq 23 (.pointer none) (.pointer none)).run Try.prog w = .ok (.bool false) w := fun _ => by kernel_rfl
  have hn2 : ∀ (w : World), (binOp .neq 54 (.pointer none) (.pointer none)).run Try.prog w = .ok (.bool false) w := fun _ => by kernel_rfl
  rcases h with rfl | ⟨g, rfl, hg⟩
  · go_enter Try.func25, Try.ntmps25
    go_wp2
    go_ret
    exact ⟨rfl, rfl⟩
  · have cg := cellF hg
    go_enter Try.func25, Try.ntmps25
    go_wp2
    go_ret
    exact ⟨rfl, rfl⟩
theorem bget_no {w : World} {p : Option Addr} (n : Int) (h : NoB w p) : Calls Try.prog 19 #[.pointer p, .int .u64 n] w fun e w' => e = .returned (.tuple #[.agg zo, .int .i64 1]) ∧ Below w.heap.size w w' := by
  have HZ := Lib.hid zo_size
  have HA := Lib.hid zo_all
  have hb := below_new w (Obj.cells zo 30)
  have hc := heap_alloc_new w (Obj.cells zo 30)
  have h1 := h.kept hb
  go_enter Try.func19, Try.ntmps19
  go_wp2_with (first | ((with_reducible refine at_alloc 30 ?_); refine wpList_alloc_named rfl 30 rfl (zo) (by kernel_rfl) ?_) | (go_at_call 25; (with_reducible refine (bready_no h1).mono ?_); rintro e w1 ⟨rfl, rfl⟩) | ((with_reducible refine at_build 30 ?_); refine wpList_build_named rfl 30 _ rfl zo (by kernel_rfl) ?_) | ((with_reducible refine at_store 30 ?_); refine wpList_store_over rfl 30 _ _ rfl (w.heap.size) (zo) rfl rfl _ _ (hc) (by rw [HZ.out]; kernel_rfl) (rfl) (HA.out) ?_; intro w3 hg3 hs3 ho3 hb3))
  exact post_cell_tmp (g := w.heap.size) (t := 30) (v := .int .i64 1) rfl rfl rfl rfl hg3 Try.underlying30 rfl (by rw [HZ.out]; kernel_rfl) ⟨rfl, hb.trans (hb3 _ (Nat.le_refl _))⟩
theorem bcancel_no {w : World} {p : Option Addr} (n : Int) (h : NoB w p) : Calls Try.prog 17 #[.pointer p, .int .u64 n] w fun e w' => e = .returned (.tuple #[.agg zo, .int .i64 1]) ∧ Below w.heap.size w w' := by
  have HZ := Lib.hid zo_size
  have HA := Lib.hid zo_all
  have hb := below_new w (Obj.cells zo 30)
  have hc := heap_alloc_new w (Obj.cells zo 30)
  have h1 := h.kept hb
  go_enter Try.func17, Try.ntmps17
  go_wp2_with (first | ((with_reducible refine at_alloc 30 ?_); refine wpList_alloc_named rfl 30 rfl (zo) (by kernel_rfl) ?_) | (go_at_call 25; (with_reducible refine (bready_no h1).mono ?_); rintro e w1 ⟨rfl, rfl⟩) | ((with_reducible refine at_build 30 ?_); refine wpList_build_named rfl 30 _ rfl zo (by kernel_rfl) ?_) | ((with_reducible refine at_store 30 ?_); refine wpList_store_over rfl 30 _ _ rfl (w.heap.size) (zo) rfl rfl _ _ (hc) (by rw [HZ.out]; kernel_rfl) (rfl) (HA.out) ?_; intro w3 hg3 hs3 ho3 hb3))
  exact post_cell_tmp (g := w.heap.size) (t := 30) (v := .int .i64 1) rfl rfl rfl rfl hg3 Try.underlying30 rfl (by rw [HZ.out]; kernel_rfl) ⟨rfl, hb.trans (hb3 _ (Nat.le_refl _))⟩
theorem breplace_no {w : World} {p : Option Addr} (n x y : Int) (h : NoB w p) : Calls Try.prog 16 #[.pointer p, .int .u64 n, .int .i64 x, .int .i64 y] w fun e w' => e = .returned (.tuple #[.agg pl0, .int .i64 1]) ∧ Below w.heap.size w w' := by
  have HZ := Lib.hid (show pl0.size = 4 from rfl)
  have HA := Lib.hid (show pl0.all (·.oneCell') = true from pl_all)
  have hb := below_new w (Obj.cells pl0 41)
  have hc := heap_alloc_new w (Obj.cells pl0 41)
  have h1 := h.kept hb
  go_enter Try.func16, Try.ntmps16
  go_wp2_with (first | ((with_reducible refine at_alloc 41 ?_); refine wpList_alloc_named rfl 41 rfl pl0 (by kernel_rfl) ?_) | (go_at_call 25; (with_reducible refine (bready_no h1).mono ?_); rintro e w1 ⟨rfl, rfl⟩) | ((with_reducible refine at_build 41 ?_); refine wpList_build_named rfl 41 _ rfl pl0 (by kernel_rfl) ?_) | ((with_reducible refine at_store 41 ?_); refine wpList_store_over rfl 41 _ _ rfl (w.heap.size) (pl0) rfl rfl _ _ (hc) (by rw [HZ.out]; kernel_rfl) (rfl) (HA.out) ?_; intro w3 hg3 hs3 ho3 hb3))
  exact post_cell_tmp (g := w.heap.size) (t := 41) (v := .int .i64 1) rfl rfl rfl rfl hg3 Try.underlying41 rfl (by rw [HZ.out]; kernel_rfl) ⟨rfl, hb.trans (hb3 _ (Nat.le_refl _))⟩
theorem bplace_no {w : World} {p : Option Addr} {B : Array Value} (k : Int) (hB : B.size = 5) (h : NoB w p) : Calls Try.prog 14 #[.pointer p, .agg B, .int .u8 k] w fun e w' => e = .returned (.tuple #[.agg pl0, .int .i64 1]) ∧ Below w.heap.size w w' := by
  have HZ := Lib.hid (show pl0.size = 4 from rfl)
  have HA := Lib.hid (show pl0.all (·.oneCell') = true from pl_all)
  have hb := below_alloc (below_new w (Obj.cells B 30)) (Obj.cells pl0 41)
  have hc : ((w.alloc (Obj.cells B 30)).alloc (Obj.cells pl0 41)).heap[w.heap.size + 1]? = some (.cells pl0 41 (0, 0)) := by repeat (first | exact heap_new (by simp; done) | refine heap_up ?_)
  have h1 := h.kept hb
  go_enter Try.func14, Try.ntmps14
  go_wp2_with (first | ((with_reducible refine at_alloc 41 ?_); refine wpList_alloc_named rfl 41 rfl pl0 (by kernel_rfl) ?_) | (go_at_call 25; (with_reducible refine (bready_no h1).mono ?_); rintro e w1 ⟨rfl, rfl⟩) | ((with_reducible refine at_build 41 ?_); refine wpList_build_named rfl 41 _ rfl pl0 (by kernel_rfl) ?_) | ((with_reducible refine at_store 41 ?_); refine wpList_store_over rfl 41 _ _ rfl (w.heap.size + 1) (pl0) rfl rfl _ _ (hc) (by rw [HZ.out]; kernel_rfl) (rfl) (HA.out) ?_; intro w3 hg3 hs3 ho3 hb3))
  exact post_cell_tmp (g := w.heap.size + 1) (t := 41) (v := .int .i64 1) rfl rfl rfl rfl hg3 Try.underlying41 rfl (by rw [HZ.out]; kernel_rfl) ⟨rfl, hb.trans (hb3 _ (by omega))⟩
theorem bcopy_no {w : World} {p : Option Addr} (h : NoB w p) : Calls Try.prog 18 #[.pointer p] w fun e w' => e = .returned (.pointer none) ∧ w = w' := by
  go_enter Try.func18, Try.ntmps18
  go_wp2_with ((go_at_call 25; (with_reducible refine (bready_no h).mono ?_); rintro e w1 ⟨rfl, rfl⟩))
  go_ret
  exact ⟨rfl, rfl⟩
theorem ball_any {w : World} (p : Option Addr) : Calls Try.prog 24 #[.pointer p] w fun e w' => e = .returned (.func (.func 35) #[] #[.pointer (some ⟨w.heap.size, 0, none⟩)]) ∧ w' = w.alloc (Obj.cells #[.pointer p] 23) := by
  have hmf : ∀ (fn : Fn) (first cap : Array Value) (w : World), (Instr.makeFunc fn first cap).run Try.prog w = .ok (.func fn first cap) w := fun _ _ _ _ => rfl
  go_enter Try.func24, Try.ntmps24
  go_wp2
  go_ret
  exact ⟨rfl, rfl⟩
theorem ball1_no {W : World} {gb l : Nat} {p : Option Addr} (hb : W.heap[gb]? = some (.cells #[.pointer p] 23 (0, 0))) (h : NoB W p) :
    Calls Try.prog 35 #[.func (.yield l) #[] #[], .pointer (some ⟨gb, 0, none⟩)] W fun e W' => (∃ v, e = .returned v) ∧ Below W.heap.size W W' := by
  have cb := cellF (heap_up (o := Obj.cells #[.func (.yield l) #[] #[]] 66) hb)
  have h1 := h.kept (below_new W (Obj.cells #[.func (.yield l) #[] #[]] 66))
  have hbn := below_new W (Obj.cells #[.func (.yield l) #[] #[]] 66)
  refine calls_marks Try.func35 rfl ?_
  simp only [Try.ntmps35, List.size_toArray, List.length_cons, List.length_nil, Nat.reduceAdd, Nat.reduceSub, Array.replicate_succ, Array.replicate_zero, List.push_toArray, List.append_toArray, List.nil_append, List.cons_append]
  go_wp2_with ((go_at_call 25; (with_reducible refine (bready_no h1).mono ?_); rintro e w1 ⟨rfl, rfl⟩))
  exact leaves_nil (results_none rfl _ _ _) ⟨⟨_, rfl⟩, hbn⟩
/-- a range over a function whose rounds never come, and that makes memory -/
theorem range_noneB {P : Program} {g : Operand} {ps : Array Tmp} {assign body : Code} {Q : Exit → Act → World → Prop} {a : Act} {w : World} {gf : Nat} {lb : Array Value} (hg : a.eval g = .func (.func gf) #[] lb) (eg : ∀ args w, (callFunc gf args).run P w = .ok (.enter gf args) w)
    (hit : ∀ l W, Below w.heap.size w W → Calls P gf (#[.func (.yield l) #[] #[]] ++ lb) W fun e W' => (∃ v, e = .returned v) ∧ Below W.heap.size W W')
    (hdone : ∀ D W, w.heap.size ≤ D → Below w.heap.size w W → W.heap[D]? = some (.deferred (some [])) → Q .normal { a with defers := { target := .collected D, args := #[] } :: a.defers } W) :
    (Code.rangeFunc g ps assign body).wp P Q a w := by
  refine (wpIn_wide (n := 9)).1 ?_
  refine wpIn_rangeFunc_ownF (α := Empty) (F := Fence.wide) rfl (by omega) hg trivial eg (encs := fun x => x.elim) (Kp := fun _ _ => True) (S := fun _ => True) (Sp := fun _ => False) (N := 0) (w0 := w) ?_ (fun _ _ => trivial) (fun _ _ _ _ _ _ _ _ => trivial) (Below.refl _ _) (fun x => x.elim)
    (fun _ W => Below w.heap.size w W) (fun _ _ _ => False) (ownFrom_below (Nat.le_refl _) (Nat.le_refl _)) (fun _ _ _ _ _ h => h.elim) (Below.refl _ _) (fun x => x.elim) (fun _ x => x.elim) (fun _ _ x => x.elim)
    (fun D xs W h1 _ h2 h3 => hdone D W h1 h2 h3) (fun D c pre W _ h => h.elim)
  intro l J Jx W hW hJ hJx hY h0
  refine callsIn_wide.2 ((hit l W hW).mono fun e W' ⟨h1, h2⟩ => ?_)
  exact ⟨h1, .inl ⟨[], trivial, hJ _ _ _ _ h0 (grownBy_of_below h2) (fun _ e => by cases e)⟩⟩
end Go.Proofs.Ytmjfbilhalkegaa
/-! A range over a function whose rounds come, and grow a row of their own. No condition. -/
namespace Go.Proofs.Ytmjfbilhalkegaa
set_option linter.unusedVariables false
set_option linter.unusedSimpArgs false
open Go.RowKit Go.Shelf

/-- every block of cells from s on stays, but for block r -/
def KnR (s : Nat) (r : Option Nat) (A B : World) : Prop := ∀ i c t fr, s ≤ i → some i ≠ r → A.heap[i]? = some (.cells c t fr) → B.heap[i]? = some (.cells c t fr)
theorem Kn.toR {s : Nat} {r : Option Nat} {A B : World} (h : Kn s A B) : KnR s r A B := fun i c t fr hi _ h1 => h i c t fr hi h1
theorem KnR.trans {s : Nat} {r : Option Nat} {A B C : World} (h1 : KnR s r A B) (h2 : KnR s r B C) : KnR s r A C := fun i c t fr hi hr h => h2 i c t fr hi hr (h1 i c t fr hi hr h)
theorem knR_grown {s : Nat} {r : Option Nat} {A B : World} (h : A.grownBy B r) : KnR s r A B := fun i c t fr _ hr h1 => (h.block i (Array.getElem?_eq_some_iff.1 h1).1 hr).trans h1
/-- a row that grows: the same block, or a new one -/
def RowTo (W : World) (r r' : Option Nat) : Prop := r' = r ∨ ∃ i, r' = some i ∧ W.heap.size ≤ i
/-- the iterator gf yields encs 0, encs 1, .. up to k, unless it is stopped -/
def SeqR (P : Program) (gf : Nat) (lb : Array Value) (encs : Nat → Array Value) (k s : Nat) (w : World) : Prop :=
  ∀ (l : Nat) (J : Nat × Option Nat → World → Prop) (Jx : Nat → World → Prop) (W : World), Below w.heap.size w W → AbidesFrom W.heap.size J → AbidesFrom W.heap.size Jx →
    (∀ j r W1, j < k → J (j, r) W1 → YieldAt Fence.wide 7 P l (encs j) W1 fun e W' => (e = .returned (.bool true) ∧ W1.heap.size ≤ W'.heap.size ∧ ∃ r', J (j + 1, r') W' ∧ KnR s r W1 W' ∧ RowTo W1 r r') ∨ (e = .returned (.bool false) ∧ Jx (j + 1) W')) →
    J (0, none) W → CallsIn Fence.wide 8 P gf (#[.func (.yield l) #[] #[]] ++ lb) W fun e W' => (∃ v, e = .returned v) ∧ ((∃ r, J (k, r) W') ∨ ∃ j, j ≤ k ∧ Jx j W')

/-- how a round may end -/
def rndPostR (s : Nat) (I : Nat × Option Nat → World → Prop) (Ix : Code → Nat → World → Prop) (j : Nat) (r : Option Nat) (W : World) : Exit → Act → World → Prop
  | .normal, _, W' => KeepsOthers W W' ∧ ∃ r', KnR s r W W' ∧ RowTo W r r' ∧ I (j + 1, r') W'
  | .ret, _, W' => KeepsOthers W W' ∧ Ix .ret (j + 1) W'
  | .exit id, _, W' => KeepsOthers W W' ∧ Ix (.exit id) (j + 1) W'
  | .goto t, _, W' => KeepsOthers W W' ∧ Ix (.goto t) (j + 1) W'
  | .panic _, _, _ => False
  | .outgrown, _, _ => False

theorem range_roundsR {P : Program} {g : Operand} {ps : Array Tmp} {assign body : Code} {Q : Exit → Act → World → Prop} {a : Act} {w : World} {gf : Nat} {lb : Array Value} {encs : Nat → Array Value} {k : Nat}
    (hg : a.eval g = .func (.func gf) #[] lb) (eg : ∀ args w, (callFunc gf args).run P w = .ok (.enter gf args) w) (hps : ∀ x, (encs x).size = ps.size) (hit : SeqR P gf lb encs k w.heap.size w)
    (I : Nat × Option Nat → World → Prop) (Ix : Code → Nat → World → Prop) (hI : OwnFrom w.heap.size I) (hIx : ∀ c, OwnFrom w.heap.size (Ix c)) (h0 : I (0, none) w)
    (up : Nat → World → World) (hup : ∀ (j : Nat) (W : World), W.grownBy (up j W) none) (a₁ : Nat → World → Act)
    (hassign : ∀ l j W (K : Act → World → Prop), j < k → K (a₁ j W) (up j W) → assign.wpIn (Fence.wide.inRound l) 7 P (Exit.then K (fun _ _ _ => False)) { tmps := (ps.zip (encs j)).foldl (fun t (p, v) => t.setIfInBounds p v) a.tmps, defers := [] } W)
    (hbody : ∀ (l j : Nat) (r : Option Nat) (W0 W : World), j < k → I (j, r) W → w.heap.size ≤ W0.heap.size → (∀ (i : Nat) c t fr, (up j W0).heap[i]? = some (Obj.cells c t fr) → W.heap[i]? = some (Obj.cells c t fr)) → W.heap.size = (up j W0).heap.size → body.wpIn (Fence.wide.inRound l) 7 P (rndPostR w.heap.size I Ix j r W) (a₁ j W0) W)
    (hdone : ∀ D r W, w.heap.size ≤ D → I (k, r) W → W.heap[D]? = some (.deferred (some [])) → Q .normal { a with defers := { target := .collected D, args := #[] } :: a.defers } W)
    (hstop : ∀ D c j W, w.heap.size ≤ D → j ≤ k → Ix c j W → W.heap[D]? = some (.deferred (some [])) → c.wp P Q { a with defers := { target := .collected D, args := #[] } :: a.defers } W) :
    (Code.rangeFunc g ps assign body).wp P Q a w := by
  refine (wpIn_wide (n := 9)).1 (wpIn_rangeFunc fun fn _ => ?_)
  obtain ⟨R, hR⟩ : ∃ R : LoopState → Option Code → Loop, R = fun st pe => { state := st, pending := pe, fn, tmps := a.tmps, params := ps, assign, body, defers := w.heap.size } := ⟨_, rfl⟩
  have r1 : ∀ st pe, (R st pe).state = st := fun _ _ => by rw [hR]
  have r2 : ∀ st pe st' pe', { R st pe with state := st', pending := pe' } = R st' pe' := fun _ _ _ _ => by rw [hR]
  have r3 : ∀ st pe st', { R st pe with state := st' } = R st' pe := fun _ _ _ => by rw [hR]
  obtain ⟨W1, hW1⟩ : ∃ W1, W1 = (w.alloc (.deferred (some []))).alloc (.loop (R .ready none)) := ⟨_, rfl⟩
  have hsz : W1.heap.size = w.heap.size + 2 := by rw [hW1]; simp
  have hbk : Books w.heap.size (R .ready none) W1 := by
    rw [hW1]
    refine ⟨?_, (Below.heap_alloc _ _ _ (by simp)).trans (World.alloc_heap_new w _)⟩
    have := World.alloc_heap_new (w.alloc (.deferred (some []))) (.loop (R .ready none))
    rwa [World.size_alloc] at this
  have hI1 : I (0, none) W1 := by rw [hW1]; exact hI.alloc _ (hI.alloc _ h0)
  have hb1 : Below w.heap.size w W1 := by rw [hW1]; exact (((Below.refl _ w).alloc (Nat.le_refl _) _).alloc (by simp) _)
  have turn : ∀ {A : World} {row : Option Nat}, (∀ i, row = some i → W1.heap.size ≤ i ∧ ∃ o : Obj, A.heap[i]? = some o ∧ o.isWalk = true) → ∀ i, row = some i → w.heap.size ≤ i ∧ ∃ o : Obj, A.heap[i]? = some o ∧ o.isCells = false := fun h i e => by
    obtain ⟨h1, o, h2, h3⟩ := h i e
    exact ⟨by omega, o, h2, Obj.not_cells_of_walk h3⟩
  refine ⟨w.heap.size + 1, [{ target := .collected w.heap.size, args := #[] }], W1, { target := .fn (.func gf) lb, args := #[.func (.yield (w.heap.size + 1)) #[] #[]] }, W1, gf,
    #[.func (.yield (w.heap.size + 1)) #[] #[]] ++ lb, W1, ?_, ?_, fun _ _ => trivial, ?_, by simp, ?_⟩
  · rw [hW1, hR]; exact run_enterLoop_outer _ _ _ _ _
  · simp only [resolve, hg]
    simp [go_sem]
  · simp [invoke, go_sem, eg]
  refine (hit (w.heap.size + 1) (fun j W => I j W ∧ Books w.heap.size (R .ready none) W) (fun j W => ∃ c, Ix c j W ∧ Books w.heap.size (R .done (some c)) W) W1 hb1
    (fun j A B row h hg' hr => ⟨hI j A B row h.1 hg' (turn (A := A) hr), h.2.grown hg' (fun i e => by have := (hr i e).1; omega)⟩)
    (fun j A B row ⟨c, h1, h2⟩ hg' hr => ⟨c, hIx c j A B row h1 hg' (turn (A := A) hr), h2.grown hg' (fun i e => by have := (hr i e).1; omega)⟩)
    (fun j r W hj ⟨hi, hb⟩ => ?_) ⟨hI1, hbk⟩).mono ?_
  · have hy := run_yield (P := P) (args := encs j) hb.1 (by rw [hR]; exact hps j)
    rw [hR] at hy
    have hgu := hup j W
    have hbu := hb.grown (row := none) hgu (fun i e => by cases e)
    have hiu := hI (j, r) W _ none hi hgu (fun i e => by cases e)
    have hlt := (Array.getElem?_eq_some_iff.1 hb.1).1
    refine ⟨fn, _, assign, body, hy, roundIn_of_wpIn trivial (hassign _ j W _ hj ⟨_, run_beginRound hbu.1 (r1 _ _), ?_⟩)⟩
    rw [r3]
    have hk1 : KnR w.heap.size r W ((up j W).putObj (w.heap.size + 1) (.loop (R .busy none))) :=
      KnR.trans (Kn.toR (fun i c t fr _ h => (hgu.block i (Array.getElem?_eq_some_iff.1 h).1 (by simp)).trans h)) (Kn.toR (kn_put _ _ _ _ hbu.1 rfl))
    have hiv := hI.putObj (.loop (R .busy none)) hiu (by omega) hbu.1 rfl
    have hbv := hbu.put (R .busy none)
    have fin : ∀ (c : Option Code) (W3 : World), KeepsOthers ((up j W).putObj (w.heap.size + 1) (.loop (R .busy none))) W3 →
        (Instr.endRound (w.heap.size + 1) c).run P W3 = .ok (.bool c.isNone) (W3.putObj (w.heap.size + 1) (.loop (R (if c.isNone then .ready else .done) c))) ∧ Books w.heap.size (R .busy none) W3 := fun c W3 hk => by
      have h3 := hbv.keep hk
      have := run_endRound (P := P) c h3.1
      rw [r2] at this
      exact ⟨this, h3⟩
    refine wpIn_mono (hbody _ j r W _ hj hiv (by omega) (fun i c t fr h => put_other hbu.1 h (fun e => by subst e; rw [hbu.1] at h; cases h)) (by simp)) ?_
    have out : ∀ (c : Code) (W3 : World), KeepsOthers ((up j W).putObj (w.heap.size + 1) (.loop (R .busy none))) W3 → Ix c (j + 1) W3 → ∃ v w', (Instr.endRound (w.heap.size + 1) (some c)).run P W3 = .ok v w' ∧
        ((Ending.returned v = .returned (.bool true) ∧ W.heap.size ≤ w'.heap.size ∧ ∃ r', (I (j + 1, r') w' ∧ Books w.heap.size (R .ready none) w') ∧ KnR w.heap.size r W w' ∧ RowTo W r r') ∨ (Ending.returned v = .returned (.bool false) ∧ ∃ c', Ix c' (j + 1) w' ∧ Books w.heap.size (R .done (some c')) w')) := fun c W3 hk hx => by
      obtain ⟨hr, h3⟩ := fin (some c) W3 hk
      exact ⟨_, _, hr, .inr ⟨rfl, c, (hIx c).putObj _ hx (by omega) h3.1 rfl, h3.put _⟩⟩
    rintro e a3 W3 hp
    cases e with
    | normal =>
      obtain ⟨hk, r', hkn, hrt, hi3⟩ := hp
      obtain ⟨hr, h3⟩ := fin none W3 hk
      exact ⟨_, _, hr, .inl ⟨rfl, by have h1 := hgu.size; have h2 := hk.size; simp at h2 ⊢; omega, r', ⟨hI.putObj _ hi3 (by omega) h3.1 rfl, h3.put _⟩, (hk1.trans hkn).trans (Kn.toR (kn_put _ _ _ _ h3.1 rfl)), by
        rcases hrt with e | ⟨i, e, hi⟩
        · exact .inl e
        · exact .inr ⟨i, e, by have h1 := hgu.size; simp at hi; omega⟩⟩⟩
    | ret => exact out .ret W3 hp.1 hp.2
    | exit id => exact out (.exit id) W3 hp.1 hp.2
    | goto t => exact out (.goto t) W3 hp.1 hp.2
    | panic ch => exact hp.elim
    | outgrown => exact hp.elim
  · rintro e W2 ⟨⟨v, rfl⟩, ⟨r, hi, hb⟩ | ⟨j, hj, c, hx, hb⟩⟩
    · refine ⟨none, _, ?_, hdone _ r _ (Nat.le_refl _) (hI.putObj (.loop (R .exhausted none)) hi (by omega) hb.1 rfl) (hb.put (R .exhausted none)).2⟩
      have := run_endLoop (P := P) hb.1 (by rw [r1]; simp)
      rw [r3] at this
      rw [this, hR]
    · refine ⟨some c, _, ?_, wpIn_wide.2 (hstop _ c j _ (Nat.le_refl _) hj ((hIx c).putObj (.loop (R .exhausted (some c))) hx (by omega) hb.1 rfl) (hb.put (R .exhausted (some c))).2)⟩
      have := run_endLoop (P := P) hb.1 (by rw [r1]; simp)
      rw [r3] at this
      rw [this, hR]
end Go.Proofs.Ytmjfbilhalkegaa
/-! A range over a function whose rounds come, and grow a row of their own; the iterator may run ranges of its own. No condition. -/
namespace Go.Proofs.Ytmjfbilhalkegaa
set_option linter.unusedVariables false
set_option linter.unusedSimpArgs false
open Go.RowKit Go.Shelf

theorem Books.keepF {s : Nat} {r : Loop} {W W' : World} (h : Books s r W) (hk : KeepsFrom s W W') : Books s r W' := ⟨hk.same _ _ (by omega) h.1 rfl, hk.same _ _ (Nat.le_refl _) h.2 rfl⟩
/-- a row that grows: the same block, or a new one -/
def RowTo2 (W W' : World) (r r' : Option Nat) : Prop := r' = r ∨ ∃ i, r' = some i ∧ W.heap.size ≤ i ∧ i < W'.heap.size
/-- the iterator gf yields encs 0, encs 1, .. up to k, unless it is stopped -/
def SeqO (P : Program) (gf : Nat) (lb : Array Value) (encs : Nat → Array Value) (k s : Nat) (w : World) : Prop :=
  ∀ (l : Nat) (J : Nat × Option Nat → World → Prop) (Jx : Nat → World → Prop) (W : World), Below w.heap.size w W → OwnFrom W.heap.size J → OwnFrom W.heap.size Jx →
    (∀ j r W1, j < k → J (j, r) W1 → YieldAt Fence.wide 7 P l (encs j) W1 fun e W' => KeepsFrom W.heap.size W1 W' ∧ ((e = .returned (.bool true) ∧ ∃ r', J (j + 1, r') W' ∧ KnR s r W1 W' ∧ RowTo2 W1 W' r r') ∨ (e = .returned (.bool false) ∧ Jx (j + 1) W'))) →
    J (0, none) W → CallsIn Fence.wide 8 P gf (#[.func (.yield l) #[] #[]] ++ lb) W fun e W' => (∃ v, e = .returned v) ∧ ((∃ r, J (k, r) W') ∨ ∃ j, j ≤ k ∧ Jx j W')

/-- how a round may end -/
def rndPostO (s : Nat) (I : Nat × Option Nat → World → Prop) (Ix : Code → Nat → World → Prop) (j : Nat) (r : Option Nat) (W : World) : Exit → Act → World → Prop
  | .normal, _, W' => KeepsFrom s W W' ∧ ∃ r', KnR s r W W' ∧ RowTo2 W W' r r' ∧ I (j + 1, r') W'
  | .ret, _, W' => KeepsFrom s W W' ∧ Ix .ret (j + 1) W'
  | .exit id, _, W' => KeepsFrom s W W' ∧ Ix (.exit id) (j + 1) W'
  | .goto t, _, W' => KeepsFrom s W W' ∧ Ix (.goto t) (j + 1) W'
  | .panic _, _, _ => False
  | .outgrown, _, _ => False

theorem range_roundsO {P : Program} {g : Operand} {ps : Array Tmp} {assign body : Code} {Q : Exit → Act → World → Prop} {a : Act} {w : World} {gf : Nat} {lb : Array Value} {encs : Nat → Array Value} {k : Nat}
    (hg : a.eval g = .func (.func gf) #[] lb) (eg : ∀ args w, (callFunc gf args).run P w = .ok (.enter gf args) w) (hps : ∀ x, (encs x).size = ps.size) (hit : SeqO P gf lb encs k w.heap.size w)
    (I : Nat × Option Nat → World → Prop) (Ix : Code → Nat → World → Prop) (hI : OwnFrom w.heap.size I) (hIx : ∀ c, OwnFrom w.heap.size (Ix c)) (h0 : I (0, none) w)
    (up : Nat → World → World) (hup : ∀ (j : Nat) (W : World), W.grownBy (up j W) none) (a₁ : Nat → World → Act)
    (hassign : ∀ l j W (K : Act → World → Prop), j < k → K (a₁ j W) (up j W) → assign.wpIn (Fence.wide.inRound l) 7 P (Exit.then K (fun _ _ _ => False)) { tmps := (ps.zip (encs j)).foldl (fun t (p, v) => t.setIfInBounds p v) a.tmps, defers := [] } W)
    (hbody : ∀ (l j : Nat) (r : Option Nat) (W0 W : World), j < k → I (j, r) W → w.heap.size ≤ W0.heap.size → (∀ (i : Nat) c t fr, (up j W0).heap[i]? = some (Obj.cells c t fr) → W.heap[i]? = some (Obj.cells c t fr)) → W.heap.size = (up j W0).heap.size → body.wpIn (Fence.wide.inRound l) 7 P (rndPostO w.heap.size I Ix j r W) (a₁ j W0) W)
    (hdone : ∀ D r W, w.heap.size ≤ D → I (k, r) W → W.heap[D]? = some (.deferred (some [])) → Q .normal { a with defers := { target := .collected D, args := #[] } :: a.defers } W)
    (hstop : ∀ D c j W, w.heap.size ≤ D → j ≤ k → Ix c j W → W.heap[D]? = some (.deferred (some [])) → c.wp P Q { a with defers := { target := .collected D, args := #[] } :: a.defers } W) :
    (Code.rangeFunc g ps assign body).wp P Q a w := by
  refine (wpIn_wide (n := 9)).1 (wpIn_rangeFunc fun fn _ => ?_)
  obtain ⟨R, hR⟩ : ∃ R : LoopState → Option Code → Loop, R = fun st pe => { state := st, pending := pe, fn, tmps := a.tmps, params := ps, assign, body, defers := w.heap.size } := ⟨_, rfl⟩
  have r1 : ∀ st pe, (R st pe).state = st := fun _ _ => by rw [hR]
  have r2 : ∀ st pe st' pe', { R st pe with state := st', pending := pe' } = R st' pe' := fun _ _ _ _ => by rw [hR]
  have r3 : ∀ st pe st', { R st pe with state := st' } = R st' pe := fun _ _ _ => by rw [hR]
  obtain ⟨W1, hW1⟩ : ∃ W1, W1 = (w.alloc (.deferred (some []))).alloc (.loop (R .ready none)) := ⟨_, rfl⟩
  have hsz : W1.heap.size = w.heap.size + 2 := by rw [hW1]; simp
  have hbk : Books w.heap.size (R .ready none) W1 := by
    rw [hW1]
    refine ⟨?_, (Below.heap_alloc _ _ _ (by simp)).trans (World.alloc_heap_new w _)⟩
    have := World.alloc_heap_new (w.alloc (.deferred (some []))) (.loop (R .ready none))
    rwa [World.size_alloc] at this
  have hI1 : I (0, none) W1 := by rw [hW1]; exact hI.alloc _ (hI.alloc _ h0)
  have hb1 : Below w.heap.size w W1 := by rw [hW1]; exact (((Below.refl _ w).alloc (Nat.le_refl _) _).alloc (by simp) _)
  have turn : ∀ {A : World} {row : Option Nat}, (∀ i, row = some i → W1.heap.size ≤ i ∧ ∃ o : Obj, A.heap[i]? = some o ∧ o.isCells = false) → ∀ i, row = some i → w.heap.size ≤ i ∧ ∃ o : Obj, A.heap[i]? = some o ∧ o.isCells = false := fun h i e => by
    obtain ⟨h1, o, h2, h3⟩ := h i e
    exact ⟨by omega, o, h2, h3⟩
  refine ⟨w.heap.size + 1, [{ target := .collected w.heap.size, args := #[] }], W1, { target := .fn (.func gf) lb, args := #[.func (.yield (w.heap.size + 1)) #[] #[]] }, W1, gf,
    #[.func (.yield (w.heap.size + 1)) #[] #[]] ++ lb, W1, ?_, ?_, fun _ _ => trivial, ?_, by simp, ?_⟩
  · rw [hW1, hR]; exact run_enterLoop_outer _ _ _ _ _
  · simp only [resolve, hg]
    simp [go_sem]
  · simp [invoke, go_sem, eg]
  refine (hit (w.heap.size + 1) (fun j W => I j W ∧ Books w.heap.size (R .ready none) W) (fun j W => ∃ c, Ix c j W ∧ Books w.heap.size (R .done (some c)) W) W1 hb1
    (fun j A B row h hg' hr => ⟨hI j A B row h.1 hg' (turn (A := A) hr), h.2.grown hg' (fun i e => by have := (hr i e).1; omega)⟩)
    (fun j A B row ⟨c, h1, h2⟩ hg' hr => ⟨c, hIx c j A B row h1 hg' (turn (A := A) hr), h2.grown hg' (fun i e => by have := (hr i e).1; omega)⟩)
    (fun j r W hj ⟨hi, hb⟩ => ?_) ⟨hI1, hbk⟩).mono ?_
  · have hy := run_yield (P := P) (args := encs j) hb.1 (by rw [hR]; exact hps j)
    rw [hR] at hy
    have hgu := hup j W
    have hbu := hb.grown (row := none) hgu (fun i e => by cases e)
    have hiu := hI (j, r) W _ none hi hgu (fun i e => by cases e)
    have hlt := (Array.getElem?_eq_some_iff.1 hb.1).1
    refine ⟨fn, _, assign, body, hy, roundIn_of_wpIn trivial (hassign _ j W _ hj ⟨_, run_beginRound hbu.1 (r1 _ _), ?_⟩)⟩
    rw [r3]
    have hk1 : KnR w.heap.size r W ((up j W).putObj (w.heap.size + 1) (.loop (R .busy none))) :=
      KnR.trans (Kn.toR (fun i c t fr _ h => (hgu.block i (Array.getElem?_eq_some_iff.1 h).1 (by simp)).trans h)) (Kn.toR (kn_put _ _ _ _ hbu.1 rfl))
    have hiv := hI.putObj (.loop (R .busy none)) hiu (by omega) hbu.1 rfl
    have hbv := hbu.put (R .busy none)
    have fin : ∀ (c : Option Code) (W3 : World), KeepsFrom w.heap.size ((up j W).putObj (w.heap.size + 1) (.loop (R .busy none))) W3 →
        (Instr.endRound (w.heap.size + 1) c).run P W3 = .ok (.bool c.isNone) (W3.putObj (w.heap.size + 1) (.loop (R (if c.isNone then .ready else .done) c))) ∧ Books w.heap.size (R .busy none) W3 := fun c W3 hk => by
      have h3 := hbv.keepF hk
      have := run_endRound (P := P) c h3.1
      rw [r2] at this
      exact ⟨this, h3⟩
    have kfb : ∀ (W3 : World) (o9 : Obj), KeepsFrom w.heap.size ((up j W).putObj (w.heap.size + 1) (.loop (R .busy none))) W3 → Books w.heap.size (R .busy none) W3 → KeepsFrom W1.heap.size W (W3.putObj (w.heap.size + 1) o9) := fun W3 o9 hk h3 => by
      have hu := hgu.size
      have h2 := hk.size
      refine ⟨by simp at h2 ⊢; omega, fun q o hq ho hc => ?_⟩
      have e1 : (up j W).heap[q]? = some o := (hgu.block q (Array.getElem?_eq_some_iff.1 ho).1 (by simp)).trans ho
      have e2 := put_other (o' := .loop (R .busy none)) hbu.1 e1 (by omega)
      exact put_other h3.1 (hk.same q o (by omega) e2 hc) (by omega)
    have kf : ∀ (c : Code) (W3 : World), KeepsFrom w.heap.size ((up j W).putObj (w.heap.size + 1) (.loop (R .busy none))) W3 → Books w.heap.size (R .busy none) W3 → KeepsFrom W1.heap.size W (W3.putObj (w.heap.size + 1) (.loop (R .done (some c)))) := fun c W3 hk h3 => kfb W3 _ hk h3
    have kf0 : ∀ (W3 : World), KeepsFrom w.heap.size ((up j W).putObj (w.heap.size + 1) (.loop (R .busy none))) W3 → Books w.heap.size (R .busy none) W3 → KeepsFrom W1.heap.size W (W3.putObj (w.heap.size + 1) (.loop (R .ready none))) := fun W3 hk h3 => kfb W3 _ hk h3
    refine wpIn_mono (hbody _ j r W _ hj hiv (by omega) (fun i c t fr h => put_other hbu.1 h (fun e => by subst e; rw [hbu.1] at h; cases h)) (by simp)) ?_
    have out : ∀ (c : Code) (W3 : World), KeepsFrom w.heap.size ((up j W).putObj (w.heap.size + 1) (.loop (R .busy none))) W3 → Ix c (j + 1) W3 → ∃ v w', (Instr.endRound (w.heap.size + 1) (some c)).run P W3 = .ok v w' ∧
        (KeepsFrom W1.heap.size W w' ∧ ((Ending.returned v = .returned (.bool true) ∧ ∃ r', (I (j + 1, r') w' ∧ Books w.heap.size (R .ready none) w') ∧ KnR w.heap.size r W w' ∧ RowTo2 W w' r r') ∨ (Ending.returned v = .returned (.bool false) ∧ ∃ c', Ix c' (j + 1) w' ∧ Books w.heap.size (R .done (some c')) w'))) := fun c W3 hk hx => by
      obtain ⟨hr, h3⟩ := fin (some c) W3 hk
      exact ⟨_, _, hr, kf c W3 hk h3, .inr ⟨rfl, c, (hIx c).putObj _ hx (by omega) h3.1 rfl, h3.put _⟩⟩
    rintro e a3 W3 hp
    cases e with
    | normal =>
      obtain ⟨hk, r', hkn, hrt, hi3⟩ := hp
      obtain ⟨hr, h3⟩ := fin none W3 hk
      exact ⟨_, _, hr, kf0 W3 hk h3, .inl ⟨rfl, r', ⟨hI.putObj _ hi3 (by omega) h3.1 rfl, h3.put _⟩, (hk1.trans hkn).trans (Kn.toR (kn_put _ _ _ _ h3.1 rfl)), by
        rcases hrt with e | ⟨i, e, hi, hi2⟩
        · exact .inl e
        · exact .inr ⟨i, e, by have h1 := hgu.size; simp at hi; omega, by simpa using hi2⟩⟩⟩
    | ret => exact out .ret W3 hp.1 hp.2
    | exit id => exact out (.exit id) W3 hp.1 hp.2
    | goto t => exact out (.goto t) W3 hp.1 hp.2
    | panic ch => exact hp.elim
    | outgrown => exact hp.elim
  · rintro e W2 ⟨⟨v, rfl⟩, ⟨r, hi, hb⟩ | ⟨j, hj, c, hx, hb⟩⟩
    · refine ⟨none, _, ?_, hdone _ r _ (Nat.le_refl _) (hI.putObj (.loop (R .exhausted none)) hi (by omega) hb.1 rfl) (hb.put (R .exhausted none)).2⟩
      have := run_endLoop (P := P) hb.1 (by rw [r1]; simp)
      rw [r3] at this
      rw [this, hR]
    · refine ⟨some c, _, ?_, wpIn_wide.2 (hstop _ c j _ (Nat.le_refl _) hj ((hIx c).putObj (.loop (R .exhausted (some c))) hx (by omega) hb.1 rfl) (hb.put (R .exhausted (some c))).2)⟩
      have := run_endLoop (P := P) hb.1 (by rw [r1]; simp)
      rw [r3] at this
      rw [this, hR]
end Go.Proofs.Ytmjfbilhalkegaa
