/- Texts that UncLaw07 stands on, one behind the other, part 11. Conditions: each theorem names its own. -/
import Derived.Test.YtmjfbilhalkegaaMgUncLaw0710
/-! A book: an order is placed, walked. Condition: the book is one, the order may come. -/
namespace Go.Proofs.Ytmjfbilhalkegaa
set_option linter.unusedVariables false
set_option linter.unusedSimpArgs false
open Go.RowKit Go.Deep

/-- what comes of an order that is placed: the errno, or 0 -/
def rstK (k : Int) : Bool := decide (k = 1) || decide (k = 4)
def pcode (o : Od) (k : Int) (lb ls l1 l2 : List Od) : Int :=
  if okO (oa o) = false then 2
  else if k < 1 ∨ 4 < k then 2
  else if gt o.n lb ≠ none ∨ gt o.n ls ≠ none then 8
  else if k = 3 ∧ rch (!o.b) o.p o.a l2 < o.q then 70
  else if k = 4 ∧ 0 < rch (!o.b) o.p o.a l2 then 71
  else if rstK k = true ∧ rch (!o.b) o.p o.a l2 < o.q ∧ 100 ≤ l1.length then 9
  else 0
/-- what the call leaves -/
structure Plc (w w' : World) (e : Ending) (g : Nat) (AB : Array Value) (g1 g2 base : Nat) (o : Od) (r : Bool) (l1 l2 : List Od) : Prop where
  ex : ∃ vt vg : Value, e = .returned (.tuple #[.agg #[vt, vg, .int .i64 (meet o o.q l2).filled, .int .i64 (lft r (meet o o.q l2).left)], .int .i64 0]) ∧
    w'.ownsRow w.heap.size 46 4 vt (meet o o.q l2).tr.length (flat (fun i => ta (trs (meet o o.q l2).tr i)) (meet o o.q l2).tr.length) ∧ w'.ownsRow w.heap.size 27 1 vg (meet o o.q l2).gone.length ((meet o o.q l2).gone.map (Value.int .u64))
  two : TwX w' g1 g2 base o.b (rst r o (meet o o.q l2).left l1) (meet o o.q l2).rest
  bk : w'.heap[g]? = some (.cells AB 56 (0, 0))
  be : Below base w w'
  fr : Kb w.heap.size g1 g2 o.b w w'
structure Rm (r : Bool) (o : Od) (l1 l2 : List Od) : Prop where
  out : r = true → 0 < (meet o o.q l2).left → l1.length < 100
theorem kb_less {n n2 g1 g2 : Nat} {b : Bool} {w w' : World} (h : Kb n g1 g2 b w w') (hn : n2 ≤ n) : Kb n2 g1 g2 b w w' := fun q o hq => h q o (by omega)
theorem okk {r : Int} {q : Int} {n : Nat} (h : r < q → n < 100) : (decide (r < q) && decide (100 ≤ (n : Int))) = false := by
  by_cases h1 : r < q
  · have := h h1
    simp; omega
  · simp [h1]
set_option maxRecDepth 100000 in
set_option maxHeartbeats 4000000 in
theorem place_bad {w : World} {g gb gs base : Nat} {lb ls : List Od} (o : Od) (k : Int) (h : BkG w g gb gs base lb ls) (ho : OkO o) (hbad : okO (oa o) = false ∨ k < 1 ∨ 4 < k) :
    Calls Try.prog 14 #[.pointer (some ⟨g, 0, none⟩), .agg (oa o), .int .u8 k] w fun e w' => e = .returned (.tuple #[.agg pl0, .int .i64 2]) ∧ Below w.heap.size w w' := by
  have hgl := (Array.getElem?_eq_some_iff.1 h.row).1
  have hlow : base ≤ w.heap.size := by have := h.bg; omega
  have hb2 := below_alloc (below_new w (Obj.cells (oa o) 30)) (Obj.cells pl0 41)
  have hbx := heap_up (o := Obj.cells pl0 41) (heap_alloc_new w (Obj.cells (oa o) 30))
  have hpx : ((w.alloc (Obj.cells (oa o) 30)).alloc (Obj.cells pl0 41)).heap[w.heap.size + 1]? = some (.cells pl0 41 (0, 0)) := by
    have := heap_alloc_new (w.alloc (Obj.cells (oa o) 30)) (Obj.cells pl0 41)
    simpa using this
  have HH2 := Lib.hid (h.kept hb2)
  have HBO := Lib.hid (show (oa o).size = 5 from rfl)
  have HBX := Lib.hid (extract_all HBO.out)
  have HPS := Lib.hid (show pl0.size = 4 from rfl)
  have HPA := Lib.hid (show pl0.all (·.oneCell') = true from pl_all)
  have HTW := Lib.hid h.two
  have HOO := Lib.hid ho
  have o0 : (oa o)[0]? = some (.int .u64 o.n) := rfl
  have o1 : (oa o)[1]? = some (.int .u32 o.a) := rfl
  have o2 : (oa o)[2]? = some (.bool o.b) := rfl
  have o3 : (oa o)[3]? = some (.int .i64 o.p) := rfl
  have o4 : (oa o)[4]? = some (.int .i64 o.q) := rfl
  clear h ho
  go_enter Try.func14, Try.ntmps14
  go_wp2_with ((with_reducible refine at_alloc 41 ?_); refine wpList_alloc_named rfl 41 rfl pl0 (by kernel_rfl) ?_)
  (try simp only [Act.put, World.size_alloc, List.getElem_toArray, List.getElem_cons_zero, List.getElem_cons_succ, List.setIfInBounds_toArray, List.set_cons_zero, List.set_cons_succ])
  obtain ⟨w2, hw2⟩ : ∃ w2, w2 = (w.alloc (Obj.cells (oa o) 30)).alloc (Obj.cells pl0 41) := ⟨_, rfl⟩
  have hs2 : w.heap.size + 1 < w2.heap.size := by rw [hw2]; simp
  rw [← hw2] at hb2 hbx hpx HH2 ⊢
  clear hw2
  have HB2 := Lib.hid hb2
  have HPX := Lib.hid hpx
  clear hb2 hpx
  by_cases hok : okO (oa o) = true
  · have HOK := Lib.hid hok
    by_cases hk1 : k < 1
    · clear hbad hok
      go_wp2_with (first | (go_at_call 25; (with_reducible refine ((bready_yes HH2.out)).mono ?_); rintro e w2' ⟨rfl, rfl⟩) | ((with_reducible refine at_load 30 ?_); refine wpList_load_part rfl 30 _ rfl (w.heap.size) (0) rfl _ (oa o) _ _ 5 (hbx) Try.underlying30 rfl (by kernel_rfl) (by rw [HBO.out]; omega) (oa o) (HBX.out) ?_) | (go_at_call 26; (with_reducible refine ((may_any _ HOO.out)).mono ?_); rintro e w3 ⟨rfl, hb3⟩; rw [HOK.out]; have hbx3 := Ytmjfbilhalkegaa.kept hb3 hbx; have cbx3 := cellF hbx3) | ((with_reducible refine at_build 41 ?_); refine wpList_build_named rfl 41 _ rfl pl0 (by kernel_rfl) ?_) | ((with_reducible refine at_store 41 ?_); refine wpList_store_over rfl 41 _ _ rfl (w.heap.size + 1) (pl0) rfl rfl _ _ ((Ytmjfbilhalkegaa.kept hb3 HPX.out)) (by rw [HPS.out]; kernel_rfl) (rfl) (HPA.out) ?_; intro w6 hg6 hs6 ho6 hb6))
      exact post_cell_tmp (g := w.heap.size + 1) (t := 41) (v := .int .i64 2) rfl rfl rfl rfl hg6 Try.underlying41 rfl (by kernel_rfl) ⟨rfl, (below_then HB2.out hb3).trans (hb6 _ (by omega))⟩
    · have hk4 : 4 < k := by
        rcases hbad with h | h | h
        · rw [hok] at h; cases h
        · omega
        · exact h
      clear hbad hok
      go_wp2_with (first | (go_at_call 25; (with_reducible refine ((bready_yes HH2.out)).mono ?_); rintro e w2' ⟨rfl, rfl⟩) | ((with_reducible refine at_load 30 ?_); refine wpList_load_part rfl 30 _ rfl (w.heap.size) (0) rfl _ (oa o) _ _ 5 (hbx) Try.underlying30 rfl (by kernel_rfl) (by rw [HBO.out]; omega) (oa o) (HBX.out) ?_) | (go_at_call 26; (with_reducible refine ((may_any _ HOO.out)).mono ?_); rintro e w3 ⟨rfl, hb3⟩; rw [HOK.out]; have hbx3 := Ytmjfbilhalkegaa.kept hb3 hbx; have cbx3 := cellF hbx3) | ((with_reducible refine at_build 41 ?_); refine wpList_build_named rfl 41 _ rfl pl0 (by kernel_rfl) ?_) | ((with_reducible refine at_store 41 ?_); refine wpList_store_over rfl 41 _ _ rfl (w.heap.size + 1) (pl0) rfl rfl _ _ ((Ytmjfbilhalkegaa.kept hb3 HPX.out)) (by rw [HPS.out]; kernel_rfl) (rfl) (HPA.out) ?_; intro w6 hg6 hs6 ho6 hb6))
      exact post_cell_tmp (g := w.heap.size + 1) (t := 41) (v := .int .i64 2) rfl rfl rfl rfl hg6 Try.underlying41 rfl (by kernel_rfl) ⟨rfl, (below_then HB2.out hb3).trans (hb6 _ (by omega))⟩
  · rw [Bool.not_eq_true] at hok
    have HOK := Lib.hid hok
    clear hbad hok
    go_wp2_with (first | (go_at_call 25; (with_reducible refine ((bready_yes HH2.out)).mono ?_); rintro e w2' ⟨rfl, rfl⟩) | ((with_reducible refine at_load 30 ?_); refine wpList_load_part rfl 30 _ rfl (w.heap.size) (0) rfl _ (oa o) _ _ 5 (hbx) Try.underlying30 rfl (by kernel_rfl) (by rw [HBO.out]; omega) (oa o) (HBX.out) ?_) | (go_at_call 26; (with_reducible refine ((may_any _ HOO.out)).mono ?_); rintro e w3 ⟨rfl, hb3⟩; rw [HOK.out]; have hbx3 := Ytmjfbilhalkegaa.kept hb3 hbx; have cbx3 := cellF hbx3) | ((with_reducible refine at_build 41 ?_); refine wpList_build_named rfl 41 _ rfl pl0 (by kernel_rfl) ?_) | ((with_reducible refine at_store 41 ?_); refine wpList_store_over rfl 41 _ _ rfl (w.heap.size + 1) (pl0) rfl rfl _ _ ((Ytmjfbilhalkegaa.kept hb3 HPX.out)) (by rw [HPS.out]; kernel_rfl) (rfl) (HPA.out) ?_; intro w6 hg6 hs6 ho6 hb6))
    exact post_cell_tmp (g := w.heap.size + 1) (t := 41) (v := .int .i64 2) rfl rfl rfl rfl hg6 Try.underlying41 rfl (by kernel_rfl) ⟨rfl, (below_then HB2.out hb3).trans (hb6 _ (by omega))⟩
set_option maxRecDepth 100000 in
set_option maxHeartbeats 4000000 in
theorem place_twice {w : World} {g gb gs base : Nat} {lb ls : List Od} (o : Od) (k : Int) (h : BkG w g gb gs base lb ls) (ho : OkO o) (hok : okO (oa o) = true) (hk : 1 ≤ k ∧ k ≤ 4) (ht : gt o.n lb ≠ none ∨ gt o.n ls ≠ none) :
    Calls Try.prog 14 #[.pointer (some ⟨g, 0, none⟩), .agg (oa o), .int .u8 k] w fun e w' => e = .returned (.tuple #[.agg pl0, .int .i64 8]) ∧ Below w.heap.size w w' := by
  have hfo : ∃ (FO : Array Value) (gx : Nat), (fnO o.n lb ls = FO ∧ fnP o.n lb ls gb gs = .pointer (some ⟨gx, 0, none⟩)) ∧ FO.size = 5 ∧ FO.all (·.oneCell') = true := by
    cases h1 : gt o.n lb with
    | some x => exact ⟨_, _, fn_b h1, rfl, (oa_ord (h.two.b.ok x (gt_mem h1))).all⟩
    | none => cases h2 : gt o.n ls with
      | some x => exact ⟨_, _, fn_s h1 h2, rfl, (oa_ord (h.two.s.ok x (gt_mem h2))).all⟩
      | none => rcases ht with ht | ht
                · exact absurd h1 ht
                · exact absurd h2 ht
  obtain ⟨FO, gx, hfn, hfs, hfa⟩ := hfo
  have HFN := Lib.hid hfn
  have HFZ := Lib.hid hfs
  have HFA := Lib.hid hfa
  clear hfn hfs hfa ht
  have hgl := (Array.getElem?_eq_some_iff.1 h.row).1
  have hlow : base ≤ w.heap.size := by have := h.bg; omega
  have hb2 := below_alloc (below_new w (Obj.cells (oa o) 30)) (Obj.cells pl0 41)
  have hbx := heap_up (o := Obj.cells pl0 41) (heap_alloc_new w (Obj.cells (oa o) 30))
  have hpx : ((w.alloc (Obj.cells (oa o) 30)).alloc (Obj.cells pl0 41)).heap[w.heap.size + 1]? = some (.cells pl0 41 (0, 0)) := by
    have := heap_alloc_new (w.alloc (Obj.cells (oa o) 30)) (Obj.cells pl0 41)
    simpa using this
  have HH2 := Lib.hid (h.kept hb2)
  have HBO := Lib.hid (show (oa o).size = 5 from rfl)
  have HBX := Lib.hid (extract_all HBO.out)
  have HPS := Lib.hid (show pl0.size = 4 from rfl)
  have HPA := Lib.hid (show pl0.all (·.oneCell') = true from pl_all)
  have HTW := Lib.hid h.two
  have HOO := Lib.hid ho
  have o0 : (oa o)[0]? = some (.int .u64 o.n) := rfl
  have o1 : (oa o)[1]? = some (.int .u32 o.a) := rfl
  have o2 : (oa o)[2]? = some (.bool o.b) := rfl
  have o3 : (oa o)[3]? = some (.int .i64 o.p) := rfl
  have o4 : (oa o)[4]? = some (.int .i64 o.q) := rfl
  clear h ho
  go_enter Try.func14, Try.ntmps14
  go_wp2_with ((with_reducible refine at_alloc 41 ?_); refine wpList_alloc_named rfl 41 rfl pl0 (by kernel_rfl) ?_)
  (try simp only [Act.put, World.size_alloc, List.getElem_toArray, List.getElem_cons_zero, List.getElem_cons_succ, List.setIfInBounds_toArray, List.set_cons_zero, List.set_cons_succ])
  obtain ⟨w2, hw2⟩ : ∃ w2, w2 = (w.alloc (Obj.cells (oa o) 30)).alloc (Obj.cells pl0 41) := ⟨_, rfl⟩
  have hs2 : w.heap.size + 1 < w2.heap.size := by rw [hw2]; simp
  rw [← hw2] at hb2 hbx hpx HH2 ⊢
  clear hw2
  have HB2 := Lib.hid hb2
  have HPX := Lib.hid hpx
  clear hb2 hpx
  have HOK := Lib.hid hok
  have hk1 : ¬ k < 1 := by omega
  have hk4 : ¬ 4 < k := by omega
  clear hok hk
  go_wp2_with (first | (go_at_call 25; (with_reducible refine ((bready_yes HH2.out)).mono ?_); rintro e w2' ⟨rfl, rfl⟩) | ((with_reducible refine at_load 30 ?_); refine wpList_load_part rfl 30 _ rfl (w.heap.size) (0) rfl _ (oa o) _ _ 5 (hbx) Try.underlying30 rfl (by kernel_rfl) (by rw [HBO.out]; omega) (oa o) (HBX.out) ?_) | (go_at_call 26; (with_reducible refine ((may_any _ HOO.out)).mono ?_); rintro e w3 ⟨rfl, hb3⟩; rw [HOK.out]; have hbx3 := Ytmjfbilhalkegaa.kept hb3 hbx; have cbx3 := cellF hbx3) | (go_at_call 27; (with_reducible refine ((find_any o.n (HH2.out.kept hb3))).mono ?_); rintro e w4 ⟨rfl, hb4⟩; rw [HFN.out.1, HFN.out.2]; have hb34 := below_alloc (below_then hb3 hb4) (Obj.cells FO 30); have hbx5 := Ytmjfbilhalkegaa.kept hb34 hbx; have cbx5 := cellF hbx5) | ((with_reducible refine at_alloc 30 ?_); refine wpList_alloc_named rfl 30 rfl (zo) (by kernel_rfl) ?_) | ((with_reducible refine at_store 30 ?_); refine wpList_store_new rfl 30 _ _ rfl FO _ _ _ rfl (by simp) rfl (by rw [HFZ.out]; kernel_rfl) (by rw [HFZ.out]; rfl) HFA.out ?_) | ((with_reducible refine at_build 41 ?_); refine wpList_build_named rfl 41 _ rfl pl0 (by kernel_rfl) ?_) | ((with_reducible refine at_store 41 ?_); refine wpList_store_over rfl 41 _ _ rfl (w.heap.size + 1) (pl0) rfl rfl _ _ ((Ytmjfbilhalkegaa.kept hb34 HPX.out)) (by rw [HPS.out]; kernel_rfl) (rfl) (HPA.out) ?_; intro w8 hg8 hs8 ho8 hb8))
  exact post_cell_tmp (g := w.heap.size + 1) (t := 41) rfl rfl rfl rfl hg8 Try.underlying41 rfl (by kernel_rfl) ⟨rfl, (below_then HB2.out hb34).trans (hb8 _ (by omega))⟩
set_option maxRecDepth 100000 in
set_option maxHeartbeats 4000000 in
theorem place_ok1 {w : World} {g gb gs base : Nat} {lb ls l1 l2 : List Od} {g1 g2 : Nat} (o : Od) (h : BkG w g gb gs base lb ls) (hg1 : g1 = if o.b then gb else gs) (hg2 : g2 = if o.b then gs else gb) (hl1 : l1 = if o.b then lb else ls) (hl2 : l2 = if o.b then ls else lb)
    (ho : OkO o) (hok : okO (oa o) = true) (hgd : Good l2) (hn1 : gt o.n lb = none) (hn2 : gt o.n ls = none) (hc : rch (!o.b) o.p o.a l2 < o.q → l1.length < 100) :
    Calls Try.prog 14 #[.pointer (some ⟨g, 0, none⟩), .agg (oa o), .int .u8 1] w fun e w' => Plc w w' e g #[.pointer (some ⟨gb, 0, none⟩), .pointer (some ⟨gs, 0, none⟩)] g1 g2 base o true l1 l2 := by
  have HFN := Lib.hid (fn_n (gb := gb) (gs := gs) hn1 hn2)
  have HFZ := Lib.hid zo_size
  have HFA := Lib.hid zo_all
  obtain ⟨FO, hFO⟩ : ∃ FO, FO = zo := ⟨_, rfl⟩
  rw [← hFO] at HFN HFZ HFA
  clear hFO
  have htx := h.two.x o.b
  rw [← hg1, ← hg2, ← hl1, ← hl2] at htx
  have HTX := Lib.hid htx
  have HG1 := Lib.hid hg1
  have HG2 := Lib.hid hg2
  have HL1 := Lib.hid hl1
  have HL2 := Lib.hid hl2
  have HGD := Lib.hid hgd
  have HGE := Lib.hid (show ∀ x, x ∈ l2 → okO (oa x) = true from hgd)
  have HGT := Lib.hid (show gt o.n l1 = none from by rw [hl1]; split <;> assumption)
  have HN1 := Lib.hid (show w.heap.size + 1 ≠ g1 from by obtain ⟨v, e, _⟩ := htx.s1.s.row; have := (Array.getElem?_eq_some_iff.1 e).1; omega)
  have HN2 := Lib.hid (show w.heap.size + 1 ≠ g2 from by obtain ⟨v, e, _⟩ := htx.s2.s.row; have := (Array.getElem?_eq_some_iff.1 e).1; omega)
  have HML := Lib.hid (meet_left (o := o) (l := l2) (left := o.q) (by have := okO_q hok; omega) hgd)
  obtain ⟨R, hR⟩ : ∃ R, R = rch (!o.b) o.p o.a l2 := ⟨_, rfl⟩
  rw [← hR] at HML
  (try rw [← hR] at hc)
  have HRR := Lib.hid hR
  clear hn1 hn2 htx hg1 hg2 hl1 hl2 hgd hR
  have HROOM : Rm true o l1 l2 := ⟨fun _ h1 => hc (by rw [HML.out] at h1; omega)⟩
  have hgl := (Array.getElem?_eq_some_iff.1 h.row).1
  have hlow : base ≤ w.heap.size := by have := h.bg; omega
  have hb2 := below_alloc (below_new w (Obj.cells (oa o) 30)) (Obj.cells pl0 41)
  have hbx := heap_up (o := Obj.cells pl0 41) (heap_alloc_new w (Obj.cells (oa o) 30))
  have hpx : ((w.alloc (Obj.cells (oa o) 30)).alloc (Obj.cells pl0 41)).heap[w.heap.size + 1]? = some (.cells pl0 41 (0, 0)) := by
    have := heap_alloc_new (w.alloc (Obj.cells (oa o) 30)) (Obj.cells pl0 41)
    simpa using this
  have HH2 := Lib.hid (h.kept hb2)
  have HBO := Lib.hid (show (oa o).size = 5 from rfl)
  have HBX := Lib.hid (extract_all HBO.out)
  have HPS := Lib.hid (show pl0.size = 4 from rfl)
  have HPA := Lib.hid (show pl0.all (·.oneCell') = true from pl_all)
  have HTW := Lib.hid h.two
  have HOO := Lib.hid ho
  have o0 : (oa o)[0]? = some (.int .u64 o.n) := rfl
  have o1 : (oa o)[1]? = some (.int .u32 o.a) := rfl
  have o2 : (oa o)[2]? = some (.bool o.b) := rfl
  have o3 : (oa o)[3]? = some (.int .i64 o.p) := rfl
  have o4 : (oa o)[4]? = some (.int .i64 o.q) := rfl
  clear h ho
  go_enter Try.func14, Try.ntmps14
  go_wp2_with ((with_reducible refine at_alloc 41 ?_); refine wpList_alloc_named rfl 41 rfl pl0 (by kernel_rfl) ?_)
  (try simp only [Act.put, World.size_alloc, List.getElem_toArray, List.getElem_cons_zero, List.getElem_cons_succ, List.setIfInBounds_toArray, List.set_cons_zero, List.set_cons_succ])
  obtain ⟨w2, hw2⟩ : ∃ w2, w2 = (w.alloc (Obj.cells (oa o) 30)).alloc (Obj.cells pl0 41) := ⟨_, rfl⟩
  have hs2 : w.heap.size + 1 < w2.heap.size := by rw [hw2]; simp
  rw [← hw2] at hb2 hbx hpx HH2 ⊢
  clear hw2
  have HB2 := Lib.hid hb2
  have HPX := Lib.hid hpx
  clear hb2 hpx
  have HOK := Lib.hid hok
  clear hok
  by_cases hRq : R < o.q
  · have hlen : ¬ (100 ≤ (l1.length : Int)) := by have := hc hRq; omega
    clear hc
    go_wp2_with (first | (go_at_call 25; (with_reducible refine ((bready_yes HH2.out)).mono ?_); rintro e w2' ⟨rfl, rfl⟩) | ((with_reducible refine at_load 30 ?_); refine wpList_load_part rfl 30 _ rfl (w.heap.size) (0) rfl _ (oa o) _ _ 5 (hbx) Try.underlying30 rfl (by kernel_rfl) (by rw [HBO.out]; omega) (oa o) (HBX.out) ?_) | (go_at_call 26; (with_reducible refine ((may_any _ HOO.out)).mono ?_); rintro e w3 ⟨rfl, hb3⟩; rw [HOK.out]; have hbx3 := Ytmjfbilhalkegaa.kept hb3 hbx; have cbx3 := cellF hbx3) | (go_at_call 27; (with_reducible refine ((find_any o.n (HH2.out.kept hb3))).mono ?_); rintro e w4 ⟨rfl, hb4⟩; rw [HFN.out.1, HFN.out.2]; have hb34 := below_alloc (below_then hb3 hb4) (Obj.cells FO 30); have hbx5 := Ytmjfbilhalkegaa.kept hb34 hbx; have cbx5 := cellF hbx5) | ((with_reducible refine at_alloc 30 ?_); refine wpList_alloc_named rfl 30 rfl (zo) (by kernel_rfl) ?_) | ((with_reducible refine at_store 30 ?_); refine wpList_store_new rfl 30 _ _ rfl FO _ _ _ rfl (by simp) rfl (by rw [HFZ.out]; kernel_rfl) (by rw [HFZ.out]; rfl) HFA.out ?_) | (go_at_call 28; (with_reducible refine ((bsides_any o.b (HH2.out.kept hb34))).mono ?_); rintro e w6 ⟨rfl, hb6⟩; rw [← HG1.out, ← HG2.out]; have hb26 := below_then hb34 hb6; have hbx6 := Ytmjfbilhalkegaa.kept hb26 hbx; have cbx6 := cellF hbx6; have HX6 := Lib.hid (HTX.out.kept (below_then HB2.out hb26))) | (go_at_call 29; (with_reducible refine ((reach_any o.p o.a HX6.out.s2 HGD.out)).mono ?_); rintro e w7 ⟨rfl, hb7⟩; rw [← HRR.out]; have hb27 := below_then hb26 hb7; have hbx7 := Ytmjfbilhalkegaa.kept hb27 hbx; have cbx7 := cellF hbx7; have HX7 := Lib.hid (HX6.out.kept hb7)) | (go_at_call 30; (with_reducible refine ((len_any HX7.out.s1)).mono ?_); rintro e w7' ⟨rfl, rfl⟩) | ((with_reducible refine at_load 30 ?_); refine wpList_load_part rfl 30 _ rfl (w.heap.size) (0) rfl _ (oa o) _ _ 5 (hbx7) Try.underlying30 rfl (by kernel_rfl) (by rw [HBO.out]; omega) (oa o) (HBX.out) ?_) | (go_at_call 31; (with_reducible refine ((come_any o _ (HH2.out.kept hb27) HG1.out HG2.out HL1.out HL2.out HOO.out HOK.out HGE.out HGT.out HROOM.out)).mono ?_); rintro e w8 ⟨vt, vg, rfl, htx, hbk, hrt, hrg, hbe, hfr⟩; obtain ⟨av, ac, rfl⟩ := own_formB hrt; obtain ⟨bv, bc, rfl⟩ := own_formB hrg; have HWW := Lib.hid (below_then HB2.out hb27); have hp7 := Ytmjfbilhalkegaa.kept hb27 HPX.out; have hp8 := (hfr (w.heap.size + 1) _ (by have := HWW.out.size; have := (Array.getElem?_eq_some_iff.1 hp7).1; omega) hp7 HN1.out HN2.out (nb_new HTX.out.s1 (by omega) HWW.out) (nb_new HTX.out.s2 (by omega) HWW.out)).1; have HME := Lib.hid (show meet o o.q l2 = meet o o.q l2 from rfl)) | ((with_reducible refine at_store 41 ?_); refine wpList_store_over rfl 41 _ _ rfl (w.heap.size + 1) (_) rfl rfl _ _ (hp8) (by kernel_rfl) (rfl) (pl_all) ?_; intro w9 hg9 hs9 ho9 hb9))
    refine post_cell_tmp (g := w.heap.size + 1) (t := 41) (v := .int .i64 0) rfl rfl rfl rfl hg9 Try.underlying41 rfl (by kernel_rfl) ?_
    have hk9 := off_kt hp8 (by decide) (by decide) ho9
    exact ⟨⟨_, _, rfl, own_sameT (Go.Joins.ownsRow_le hrt HWW.out.size) (fun q A _ hq => off_ty hp8 ho9 hq (by decide)), own_sameT (Go.Joins.ownsRow_le hrg HWW.out.size) (fun q A _ hq => off_ty hp8 ho9 hq (by decide))⟩, htx.kt hk9, off_ty hp8 ho9 hbk (by decide), ((HWW.out.mono hlow).trans hbe).trans (hb9 _ (by omega)),
      ((kb_below HTX.out HWW.out).trans (kb_less hfr HWW.out.size)).trans (kb_rows htx (fun q e => by
        obtain ⟨v1, e1, _⟩ := htx.s1.s.row
        rw [e1] at e; cases e
        exact off_ty hp8 ho9 e1 (by decide)) (fun q e => by
        obtain ⟨v1, e1, _⟩ := htx.s2.s.row
        rw [e1] at e; cases e
        exact off_ty hp8 ho9 e1 (by decide)) (fun q e hq h9 => (ho9 _ (by omega)).trans h9))⟩
  · clear hc
    go_wp2_with (first | (go_at_call 25; (with_reducible refine ((bready_yes HH2.out)).mono ?_); rintro e w2' ⟨rfl, rfl⟩) | ((with_reducible refine at_load 30 ?_); refine wpList_load_part rfl 30 _ rfl (w.heap.size) (0) rfl _ (oa o) _ _ 5 (hbx) Try.underlying30 rfl (by kernel_rfl) (by rw [HBO.out]; omega) (oa o) (HBX.out) ?_) | (go_at_call 26; (with_reducible refine ((may_any _ HOO.out)).mono ?_); rintro e w3 ⟨rfl, hb3⟩; rw [HOK.out]; have hbx3 := Ytmjfbilhalkegaa.kept hb3 hbx; have cbx3 := cellF hbx3) | (go_at_call 27; (with_reducible refine ((find_any o.n (HH2.out.kept hb3))).mono ?_); rintro e w4 ⟨rfl, hb4⟩; rw [HFN.out.1, HFN.out.2]; have hb34 := below_alloc (below_then hb3 hb4) (Obj.cells FO 30); have hbx5 := Ytmjfbilhalkegaa.kept hb34 hbx; have cbx5 := cellF hbx5) | ((with_reducible refine at_alloc 30 ?_); refine wpList_alloc_named rfl 30 rfl (zo) (by kernel_rfl) ?_) | ((with_reducible refine at_store 30 ?_); refine wpList_store_new rfl 30 _ _ rfl FO _ _ _ rfl (by simp) rfl (by rw [HFZ.out]; kernel_rfl) (by rw [HFZ.out]; rfl) HFA.out ?_) | (go_at_call 28; (with_reducible refine ((bsides_any o.b (HH2.out.kept hb34))).mono ?_); rintro e w6 ⟨rfl, hb6⟩; rw [← HG1.out, ← HG2.out]; have hb26 := below_then hb34 hb6; have hbx6 := Ytmjfbilhalkegaa.kept hb26 hbx; have cbx6 := cellF hbx6; have HX6 := Lib.hid (HTX.out.kept (below_then HB2.out hb26))) | (go_at_call 29; (with_reducible refine ((reach_any o.p o.a HX6.out.s2 HGD.out)).mono ?_); rintro e w7 ⟨rfl, hb7⟩; rw [← HRR.out]; have hb27 := below_then hb26 hb7; have hbx7 := Ytmjfbilhalkegaa.kept hb27 hbx; have cbx7 := cellF hbx7; have HX7 := Lib.hid (HX6.out.kept hb7)) | (go_at_call 30; (with_reducible refine ((len_any HX7.out.s1)).mono ?_); rintro e w7' ⟨rfl, rfl⟩) | ((with_reducible refine at_load 30 ?_); refine wpList_load_part rfl 30 _ rfl (w.heap.size) (0) rfl _ (oa o) _ _ 5 (hbx7) Try.underlying30 rfl (by kernel_rfl) (by rw [HBO.out]; omega) (oa o) (HBX.out) ?_) | (go_at_call 31; (with_reducible refine ((come_any o _ (HH2.out.kept hb27) HG1.out HG2.out HL1.out HL2.out HOO.out HOK.out HGE.out HGT.out HROOM.out)).mono ?_); rintro e w8 ⟨vt, vg, rfl, htx, hbk, hrt, hrg, hbe, hfr⟩; obtain ⟨av, ac, rfl⟩ := own_formB hrt; obtain ⟨bv, bc, rfl⟩ := own_formB hrg; have HWW := Lib.hid (below_then HB2.out hb27); have hp7 := Ytmjfbilhalkegaa.kept hb27 HPX.out; have hp8 := (hfr (w.heap.size + 1) _ (by have := HWW.out.size; have := (Array.getElem?_eq_some_iff.1 hp7).1; omega) hp7 HN1.out HN2.out (nb_new HTX.out.s1 (by omega) HWW.out) (nb_new HTX.out.s2 (by omega) HWW.out)).1; have HME := Lib.hid (show meet o o.q l2 = meet o o.q l2 from rfl)) | ((with_reducible refine at_store 41 ?_); refine wpList_store_over rfl 41 _ _ rfl (w.heap.size + 1) (_) rfl rfl _ _ (hp8) (by kernel_rfl) (rfl) (pl_all) ?_; intro w9 hg9 hs9 ho9 hb9))
    refine post_cell_tmp (g := w.heap.size + 1) (t := 41) (v := .int .i64 0) rfl rfl rfl rfl hg9 Try.underlying41 rfl (by kernel_rfl) ?_
    have hk9 := off_kt hp8 (by decide) (by decide) ho9
    exact ⟨⟨_, _, rfl, own_sameT (Go.Joins.ownsRow_le hrt HWW.out.size) (fun q A _ hq => off_ty hp8 ho9 hq (by decide)), own_sameT (Go.Joins.ownsRow_le hrg HWW.out.size) (fun q A _ hq => off_ty hp8 ho9 hq (by decide))⟩, htx.kt hk9, off_ty hp8 ho9 hbk (by decide), ((HWW.out.mono hlow).trans hbe).trans (hb9 _ (by omega)),
      ((kb_below HTX.out HWW.out).trans (kb_less hfr HWW.out.size)).trans (kb_rows htx (fun q e => by
        obtain ⟨v1, e1, _⟩ := htx.s1.s.row
        rw [e1] at e; cases e
        exact off_ty hp8 ho9 e1 (by decide)) (fun q e => by
        obtain ⟨v1, e1, _⟩ := htx.s2.s.row
        rw [e1] at e; cases e
        exact off_ty hp8 ho9 e1 (by decide)) (fun q e hq h9 => (ho9 _ (by omega)).trans h9))⟩
set_option maxRecDepth 100000 in
set_option maxHeartbeats 4000000 in
theorem place_ok2 {w : World} {g gb gs base : Nat} {lb ls l1 l2 : List Od} {g1 g2 : Nat} (o : Od) (h : BkG w g gb gs base lb ls) (hg1 : g1 = if o.b then gb else gs) (hg2 : g2 = if o.b then gs else gb) (hl1 : l1 = if o.b then lb else ls) (hl2 : l2 = if o.b then ls else lb)
    (ho : OkO o) (hok : okO (oa o) = true) (hgd : Good l2) (hn1 : gt o.n lb = none) (hn2 : gt o.n ls = none) (hc : True) :
    Calls Try.prog 14 #[.pointer (some ⟨g, 0, none⟩), .agg (oa o), .int .u8 2] w fun e w' => Plc w w' e g #[.pointer (some ⟨gb, 0, none⟩), .pointer (some ⟨gs, 0, none⟩)] g1 g2 base o false l1 l2 := by
  have HFN := Lib.hid (fn_n (gb := gb) (gs := gs) hn1 hn2)
  have HFZ := Lib.hid zo_size
  have HFA := Lib.hid zo_all
  obtain ⟨FO, hFO⟩ : ∃ FO, FO = zo := ⟨_, rfl⟩
  rw [← hFO] at HFN HFZ HFA
  clear hFO
  have htx := h.two.x o.b
  rw [← hg1, ← hg2, ← hl1, ← hl2] at htx
  have HTX := Lib.hid htx
  have HG1 := Lib.hid hg1
  have HG2 := Lib.hid hg2
  have HL1 := Lib.hid hl1
  have HL2 := Lib.hid hl2
  have HGD := Lib.hid hgd
  have HGE := Lib.hid (show ∀ x, x ∈ l2 → okO (oa x) = true from hgd)
  have HGT := Lib.hid (show gt o.n l1 = none from by rw [hl1]; split <;> assumption)
  have HN1 := Lib.hid (show w.heap.size + 1 ≠ g1 from by obtain ⟨v, e, _⟩ := htx.s1.s.row; have := (Array.getElem?_eq_some_iff.1 e).1; omega)
  have HN2 := Lib.hid (show w.heap.size + 1 ≠ g2 from by obtain ⟨v, e, _⟩ := htx.s2.s.row; have := (Array.getElem?_eq_some_iff.1 e).1; omega)
  have HML := Lib.hid (meet_left (o := o) (l := l2) (left := o.q) (by have := okO_q hok; omega) hgd)
  obtain ⟨R, hR⟩ : ∃ R, R = rch (!o.b) o.p o.a l2 := ⟨_, rfl⟩
  rw [← hR] at HML
  (try rw [← hR] at hc)
  have HRR := Lib.hid hR
  clear hn1 hn2 htx hg1 hg2 hl1 hl2 hgd hR
  have HROOM : Rm false o l1 l2 := ⟨fun h1 => by cases h1⟩
  have hgl := (Array.getElem?_eq_some_iff.1 h.row).1
  have hlow : base ≤ w.heap.size := by have := h.bg; omega
  have hb2 := below_alloc (below_new w (Obj.cells (oa o) 30)) (Obj.cells pl0 41)
  have hbx := heap_up (o := Obj.cells pl0 41) (heap_alloc_new w (Obj.cells (oa o) 30))
  have hpx : ((w.alloc (Obj.cells (oa o) 30)).alloc (Obj.cells pl0 41)).heap[w.heap.size + 1]? = some (.cells pl0 41 (0, 0)) := by
    have := heap_alloc_new (w.alloc (Obj.cells (oa o) 30)) (Obj.cells pl0 41)
    simpa using this
  have HH2 := Lib.hid (h.kept hb2)
  have HBO := Lib.hid (show (oa o).size = 5 from rfl)
  have HBX := Lib.hid (extract_all HBO.out)
  have HPS := Lib.hid (show pl0.size = 4 from rfl)
  have HPA := Lib.hid (show pl0.all (·.oneCell') = true from pl_all)
  have HTW := Lib.hid h.two
  have HOO := Lib.hid ho
  have o0 : (oa o)[0]? = some (.int .u64 o.n) := rfl
  have o1 : (oa o)[1]? = some (.int .u32 o.a) := rfl
  have o2 : (oa o)[2]? = some (.bool o.b) := rfl
  have o3 : (oa o)[3]? = some (.int .i64 o.p) := rfl
  have o4 : (oa o)[4]? = some (.int .i64 o.q) := rfl
  clear h ho
  go_enter Try.func14, Try.ntmps14
  go_wp2_with ((with_reducible refine at_alloc 41 ?_); refine wpList_alloc_named rfl 41 rfl pl0 (by kernel_rfl) ?_)
  (try simp only [Act.put, World.size_alloc, List.getElem_toArray, List.getElem_cons_zero, List.getElem_cons_succ, List.setIfInBounds_toArray, List.set_cons_zero, List.set_cons_succ])
  obtain ⟨w2, hw2⟩ : ∃ w2, w2 = (w.alloc (Obj.cells (oa o) 30)).alloc (Obj.cells pl0 41) := ⟨_, rfl⟩
  have hs2 : w.heap.size + 1 < w2.heap.size := by rw [hw2]; simp
  rw [← hw2] at hb2 hbx hpx HH2 ⊢
  clear hw2
  have HB2 := Lib.hid hb2
  have HPX := Lib.hid hpx
  clear hb2 hpx
  have HOK := Lib.hid hok
  clear hok hc
  go_wp2_with (first | (go_at_call 25; (with_reducible refine ((bready_yes HH2.out)).mono ?_); rintro e w2' ⟨rfl, rfl⟩) | ((with_reducible refine at_load 30 ?_); refine wpList_load_part rfl 30 _ rfl (w.heap.size) (0) rfl _ (oa o) _ _ 5 (hbx) Try.underlying30 rfl (by kernel_rfl) (by rw [HBO.out]; omega) (oa o) (HBX.out) ?_) | (go_at_call 26; (with_reducible refine ((may_any _ HOO.out)).mono ?_); rintro e w3 ⟨rfl, hb3⟩; rw [HOK.out]; have hbx3 := Ytmjfbilhalkegaa.kept hb3 hbx; have cbx3 := cellF hbx3) | (go_at_call 27; (with_reducible refine ((find_any o.n (HH2.out.kept hb3))).mono ?_); rintro e w4 ⟨rfl, hb4⟩; rw [HFN.out.1, HFN.out.2]; have hb34 := below_alloc (below_then hb3 hb4) (Obj.cells FO 30); have hbx5 := Ytmjfbilhalkegaa.kept hb34 hbx; have cbx5 := cellF hbx5) | ((with_reducible refine at_alloc 30 ?_); refine wpList_alloc_named rfl 30 rfl (zo) (by kernel_rfl) ?_) | ((with_reducible refine at_store 30 ?_); refine wpList_store_new rfl 30 _ _ rfl FO _ _ _ rfl (by simp) rfl (by rw [HFZ.out]; kernel_rfl) (by rw [HFZ.out]; rfl) HFA.out ?_) | (go_at_call 28; (with_reducible refine ((bsides_any o.b (HH2.out.kept hb34))).mono ?_); rintro e w6 ⟨rfl, hb6⟩; rw [← HG1.out, ← HG2.out]; have hb26 := below_then hb34 hb6; have hbx6 := Ytmjfbilhalkegaa.kept hb26 hbx; have cbx6 := cellF hbx6; have HX6 := Lib.hid (HTX.out.kept (below_then HB2.out hb26))) | (go_at_call 29; (with_reducible refine ((reach_any o.p o.a HX6.out.s2 HGD.out)).mono ?_); rintro e w7 ⟨rfl, hb7⟩; rw [← HRR.out]; have hb27 := below_then hb26 hb7; have hbx7 := Ytmjfbilhalkegaa.kept hb27 hbx; have cbx7 := cellF hbx7; have HX7 := Lib.hid (HX6.out.kept hb7)) | (go_at_call 30; (with_reducible refine ((len_any HX7.out.s1)).mono ?_); rintro e w7' ⟨rfl, rfl⟩) | ((with_reducible refine at_load 30 ?_); refine wpList_load_part rfl 30 _ rfl (w.heap.size) (0) rfl _ (oa o) _ _ 5 (hbx7) Try.underlying30 rfl (by kernel_rfl) (by rw [HBO.out]; omega) (oa o) (HBX.out) ?_) | (go_at_call 31; (with_reducible refine ((come_any o _ (HH2.out.kept hb27) HG1.out HG2.out HL1.out HL2.out HOO.out HOK.out HGE.out HGT.out HROOM.out)).mono ?_); rintro e w8 ⟨vt, vg, rfl, htx, hbk, hrt, hrg, hbe, hfr⟩; obtain ⟨av, ac, rfl⟩ := own_formB hrt; obtain ⟨bv, bc, rfl⟩ := own_formB hrg; have HWW := Lib.hid (below_then HB2.out hb27); have hp7 := Ytmjfbilhalkegaa.kept hb27 HPX.out; have hp8 := (hfr (w.heap.size + 1) _ (by have := HWW.out.size; have := (Array.getElem?_eq_some_iff.1 hp7).1; omega) hp7 HN1.out HN2.out (nb_new HTX.out.s1 (by omega) HWW.out) (nb_new HTX.out.s2 (by omega) HWW.out)).1; have HME := Lib.hid (show meet o o.q l2 = meet o o.q l2 from rfl)) | ((with_reducible refine at_store 41 ?_); refine wpList_store_over rfl 41 _ _ rfl (w.heap.size + 1) (_) rfl rfl _ _ (hp8) (by kernel_rfl) (rfl) (pl_all) ?_; intro w9 hg9 hs9 ho9 hb9))
  refine post_cell_tmp (g := w.heap.size + 1) (t := 41) (v := .int .i64 0) rfl rfl rfl rfl hg9 Try.underlying41 rfl (by kernel_rfl) ?_
  have hk9 := off_kt hp8 (by decide) (by decide) ho9
  exact ⟨⟨_, _, rfl, own_sameT (Go.Joins.ownsRow_le hrt HWW.out.size) (fun q A _ hq => off_ty hp8 ho9 hq (by decide)), own_sameT (Go.Joins.ownsRow_le hrg HWW.out.size) (fun q A _ hq => off_ty hp8 ho9 hq (by decide))⟩, htx.kt hk9, off_ty hp8 ho9 hbk (by decide), ((HWW.out.mono hlow).trans hbe).trans (hb9 _ (by omega)),
    ((kb_below HTX.out HWW.out).trans (kb_less hfr HWW.out.size)).trans (kb_rows htx (fun q e => by
      obtain ⟨v1, e1, _⟩ := htx.s1.s.row
      rw [e1] at e; cases e
      exact off_ty hp8 ho9 e1 (by decide)) (fun q e => by
      obtain ⟨v1, e1, _⟩ := htx.s2.s.row
      rw [e1] at e; cases e
      exact off_ty hp8 ho9 e1 (by decide)) (fun q e hq h9 => (ho9 _ (by omega)).trans h9))⟩
set_option maxRecDepth 100000 in
set_option maxHeartbeats 4000000 in
theorem place_ok3 {w : World} {g gb gs base : Nat} {lb ls l1 l2 : List Od} {g1 g2 : Nat} (o : Od) (h : BkG w g gb gs base lb ls) (hg1 : g1 = if o.b then gb else gs) (hg2 : g2 = if o.b then gs else gb) (hl1 : l1 = if o.b then lb else ls) (hl2 : l2 = if o.b then ls else lb)
    (ho : OkO o) (hok : okO (oa o) = true) (hgd : Good l2) (hn1 : gt o.n lb = none) (hn2 : gt o.n ls = none) (hc : o.q ≤ rch (!o.b) o.p o.a l2) :
    Calls Try.prog 14 #[.pointer (some ⟨g, 0, none⟩), .agg (oa o), .int .u8 3] w fun e w' => Plc w w' e g #[.pointer (some ⟨gb, 0, none⟩), .pointer (some ⟨gs, 0, none⟩)] g1 g2 base o false l1 l2 := by
  have HFN := Lib.hid (fn_n (gb := gb) (gs := gs) hn1 hn2)
  have HFZ := Lib.hid zo_size
  have HFA := Lib.hid zo_all
  obtain ⟨FO, hFO⟩ : ∃ FO, FO = zo := ⟨_, rfl⟩
  rw [← hFO] at HFN HFZ HFA
  clear hFO
  have htx := h.two.x o.b
  rw [← hg1, ← hg2, ← hl1, ← hl2] at htx
  have HTX := Lib.hid htx
  have HG1 := Lib.hid hg1
  have HG2 := Lib.hid hg2
  have HL1 := Lib.hid hl1
  have HL2 := Lib.hid hl2
  have HGD := Lib.hid hgd
  have HGE := Lib.hid (show ∀ x, x ∈ l2 → okO (oa x) = true from hgd)
  have HGT := Lib.hid (show gt o.n l1 = none from by rw [hl1]; split <;> assumption)
  have HN1 := Lib.hid (show w.heap.size + 1 ≠ g1 from by obtain ⟨v, e, _⟩ := htx.s1.s.row; have := (Array.getElem?_eq_some_iff.1 e).1; omega)
  have HN2 := Lib.hid (show w.heap.size + 1 ≠ g2 from by obtain ⟨v, e, _⟩ := htx.s2.s.row; have := (Array.getElem?_eq_some_iff.1 e).1; omega)
  have HML := Lib.hid (meet_left (o := o) (l := l2) (left := o.q) (by have := okO_q hok; omega) hgd)
  obtain ⟨R, hR⟩ : ∃ R, R = rch (!o.b) o.p o.a l2 := ⟨_, rfl⟩
  rw [← hR] at HML
  (try rw [← hR] at hc)
  have HRR := Lib.hid hR
  clear hn1 hn2 htx hg1 hg2 hl1 hl2 hgd hR
  have HROOM : Rm false o l1 l2 := ⟨fun h1 => by cases h1⟩
  have hgl := (Array.getElem?_eq_some_iff.1 h.row).1
  have hlow : base ≤ w.heap.size := by have := h.bg; omega
  have hb2 := below_alloc (below_new w (Obj.cells (oa o) 30)) (Obj.cells pl0 41)
  have hbx := heap_up (o := Obj.cells pl0 41) (heap_alloc_new w (Obj.cells (oa o) 30))
  have hpx : ((w.alloc (Obj.cells (oa o) 30)).alloc (Obj.cells pl0 41)).heap[w.heap.size + 1]? = some (.cells pl0 41 (0, 0)) := by
    have := heap_alloc_new (w.alloc (Obj.cells (oa o) 30)) (Obj.cells pl0 41)
    simpa using this
  have HH2 := Lib.hid (h.kept hb2)
  have HBO := Lib.hid (show (oa o).size = 5 from rfl)
  have HBX := Lib.hid (extract_all HBO.out)
  have HPS := Lib.hid (show pl0.size = 4 from rfl)
  have HPA := Lib.hid (show pl0.all (·.oneCell') = true from pl_all)
  have HTW := Lib.hid h.two
  have HOO := Lib.hid ho
  have o0 : (oa o)[0]? = some (.int .u64 o.n) := rfl
  have o1 : (oa o)[1]? = some (.int .u32 o.a) := rfl
  have o2 : (oa o)[2]? = some (.bool o.b) := rfl
  have o3 : (oa o)[3]? = some (.int .i64 o.p) := rfl
  have o4 : (oa o)[4]? = some (.int .i64 o.q) := rfl
  clear h ho
  go_enter Try.func14, Try.ntmps14
  go_wp2_with ((with_reducible refine at_alloc 41 ?_); refine wpList_alloc_named rfl 41 rfl pl0 (by kernel_rfl) ?_)
  (try simp only [Act.put, World.size_alloc, List.getElem_toArray, List.getElem_cons_zero, List.getElem_cons_succ, List.setIfInBounds_toArray, List.set_cons_zero, List.set_cons_succ])
  obtain ⟨w2, hw2⟩ : ∃ w2, w2 = (w.alloc (Obj.cells (oa o) 30)).alloc (Obj.cells pl0 41) := ⟨_, rfl⟩
  have hs2 : w.heap.size + 1 < w2.heap.size := by rw [hw2]; simp
  rw [← hw2] at hb2 hbx hpx HH2 ⊢
  clear hw2
  have HB2 := Lib.hid hb2
  have HPX := Lib.hid hpx
  clear hb2 hpx
  have HOK := Lib.hid hok
  have hRq : ¬ R < o.q := by omega
  clear hok hc
  go_wp2_with (first | (go_at_call 25; (with_reducible refine ((bready_yes HH2.out)).mono ?_); rintro e w2' ⟨rfl, rfl⟩) | ((with_reducible refine at_load 30 ?_); refine wpList_load_part rfl 30 _ rfl (w.heap.size) (0) rfl _ (oa o) _ _ 5 (hbx) Try.underlying30 rfl (by kernel_rfl) (by rw [HBO.out]; omega) (oa o) (HBX.out) ?_) | (go_at_call 26; (with_reducible refine ((may_any _ HOO.out)).mono ?_); rintro e w3 ⟨rfl, hb3⟩; rw [HOK.out]; have hbx3 := Ytmjfbilhalkegaa.kept hb3 hbx; have cbx3 := cellF hbx3) | (go_at_call 27; (with_reducible refine ((find_any o.n (HH2.out.kept hb3))).mono ?_); rintro e w4 ⟨rfl, hb4⟩; rw [HFN.out.1, HFN.out.2]; have hb34 := below_alloc (below_then hb3 hb4) (Obj.cells FO 30); have hbx5 := Ytmjfbilhalkegaa.kept hb34 hbx; have cbx5 := cellF hbx5) | ((with_reducible refine at_alloc 30 ?_); refine wpList_alloc_named rfl 30 rfl (zo) (by kernel_rfl) ?_) | ((with_reducible refine at_store 30 ?_); refine wpList_store_new rfl 30 _ _ rfl FO _ _ _ rfl (by simp) rfl (by rw [HFZ.out]; kernel_rfl) (by rw [HFZ.out]; rfl) HFA.out ?_) | (go_at_call 28; (with_reducible refine ((bsides_any o.b (HH2.out.kept hb34))).mono ?_); rintro e w6 ⟨rfl, hb6⟩; rw [← HG1.out, ← HG2.out]; have hb26 := below_then hb34 hb6; have hbx6 := Ytmjfbilhalkegaa.kept hb26 hbx; have cbx6 := cellF hbx6; have HX6 := Lib.hid (HTX.out.kept (below_then HB2.out hb26))) | (go_at_call 29; (with_reducible refine ((reach_any o.p o.a HX6.out.s2 HGD.out)).mono ?_); rintro e w7 ⟨rfl, hb7⟩; rw [← HRR.out]; have hb27 := below_then hb26 hb7; have hbx7 := Ytmjfbilhalkegaa.kept hb27 hbx; have cbx7 := cellF hbx7; have HX7 := Lib.hid (HX6.out.kept hb7)) | (go_at_call 30; (with_reducible refine ((len_any HX7.out.s1)).mono ?_); rintro e w7' ⟨rfl, rfl⟩) | ((with_reducible refine at_load 30 ?_); refine wpList_load_part rfl 30 _ rfl (w.heap.size) (0) rfl _ (oa o) _ _ 5 (hbx7) Try.underlying30 rfl (by kernel_rfl) (by rw [HBO.out]; omega) (oa o) (HBX.out) ?_) | (go_at_call 31; (with_reducible refine ((come_any o _ (HH2.out.kept hb27) HG1.out HG2.out HL1.out HL2.out HOO.out HOK.out HGE.out HGT.out HROOM.out)).mono ?_); rintro e w8 ⟨vt, vg, rfl, htx, hbk, hrt, hrg, hbe, hfr⟩; obtain ⟨av, ac, rfl⟩ := own_formB hrt; obtain ⟨bv, bc, rfl⟩ := own_formB hrg; have HWW := Lib.hid (below_then HB2.out hb27); have hp7 := Ytmjfbilhalkegaa.kept hb27 HPX.out; have hp8 := (hfr (w.heap.size + 1) _ (by have := HWW.out.size; have := (Array.getElem?_eq_some_iff.1 hp7).1; omega) hp7 HN1.out HN2.out (nb_new HTX.out.s1 (by omega) HWW.out) (nb_new HTX.out.s2 (by omega) HWW.out)).1; have HME := Lib.hid (show meet o o.q l2 = meet o o.q l2 from rfl)) | ((with_reducible refine at_store 41 ?_); refine wpList_store_over rfl 41 _ _ rfl (w.heap.size + 1) (_) rfl rfl _ _ (hp8) (by kernel_rfl) (rfl) (pl_all) ?_; intro w9 hg9 hs9 ho9 hb9))
  refine post_cell_tmp (g := w.heap.size + 1) (t := 41) (v := .int .i64 0) rfl rfl rfl rfl hg9 Try.underlying41 rfl (by kernel_rfl) ?_
  have hk9 := off_kt hp8 (by decide) (by decide) ho9
  exact ⟨⟨_, _, rfl, own_sameT (Go.Joins.ownsRow_le hrt HWW.out.size) (fun q A _ hq => off_ty hp8 ho9 hq (by decide)), own_sameT (Go.Joins.ownsRow_le hrg HWW.out.size) (fun q A _ hq => off_ty hp8 ho9 hq (by decide))⟩, htx.kt hk9, off_ty hp8 ho9 hbk (by decide), ((HWW.out.mono hlow).trans hbe).trans (hb9 _ (by omega)),
    ((kb_below HTX.out HWW.out).trans (kb_less hfr HWW.out.size)).trans (kb_rows htx (fun q e => by
      obtain ⟨v1, e1, _⟩ := htx.s1.s.row
      rw [e1] at e; cases e
      exact off_ty hp8 ho9 e1 (by decide)) (fun q e => by
      obtain ⟨v1, e1, _⟩ := htx.s2.s.row
      rw [e1] at e; cases e
      exact off_ty hp8 ho9 e1 (by decide)) (fun q e hq h9 => (ho9 _ (by omega)).trans h9))⟩
set_option maxRecDepth 100000 in
set_option maxHeartbeats 4000000 in
theorem place_ok4 {w : World} {g gb gs base : Nat} {lb ls l1 l2 : List Od} {g1 g2 : Nat} (o : Od) (h : BkG w g gb gs base lb ls) (hg1 : g1 = if o.b then gb else gs) (hg2 : g2 = if o.b then gs else gb) (hl1 : l1 = if o.b then lb else ls) (hl2 : l2 = if o.b then ls else lb)
    (ho : OkO o) (hok : okO (oa o) = true) (hgd : Good l2) (hn1 : gt o.n lb = none) (hn2 : gt o.n ls = none) (hc : rch (!o.b) o.p o.a l2 ≤ 0 ∧ l1.length < 100) :
    Calls Try.prog 14 #[.pointer (some ⟨g, 0, none⟩), .agg (oa o), .int .u8 4] w fun e w' => Plc w w' e g #[.pointer (some ⟨gb, 0, none⟩), .pointer (some ⟨gs, 0, none⟩)] g1 g2 base o true l1 l2 := by
  have HFN := Lib.hid (fn_n (gb := gb) (gs := gs) hn1 hn2)
  have HFZ := Lib.hid zo_size
  have HFA := Lib.hid zo_all
  obtain ⟨FO, hFO⟩ : ∃ FO, FO = zo := ⟨_, rfl⟩
  rw [← hFO] at HFN HFZ HFA
  clear hFO
  have htx := h.two.x o.b
  rw [← hg1, ← hg2, ← hl1, ← hl2] at htx
  have HTX := Lib.hid htx
  have HG1 := Lib.hid hg1
  have HG2 := Lib.hid hg2
  have HL1 := Lib.hid hl1
  have HL2 := Lib.hid hl2
  have HGD := Lib.hid hgd
  have HGE := Lib.hid (show ∀ x, x ∈ l2 → okO (oa x) = true from hgd)
  have HGT := Lib.hid (show gt o.n l1 = none from by rw [hl1]; split <;> assumption)
  have HN1 := Lib.hid (show w.heap.size + 1 ≠ g1 from by obtain ⟨v, e, _⟩ := htx.s1.s.row; have := (Array.getElem?_eq_some_iff.1 e).1; omega)
  have HN2 := Lib.hid (show w.heap.size + 1 ≠ g2 from by obtain ⟨v, e, _⟩ := htx.s2.s.row; have := (Array.getElem?_eq_some_iff.1 e).1; omega)
  have HML := Lib.hid (meet_left (o := o) (l := l2) (left := o.q) (by have := okO_q hok; omega) hgd)
  obtain ⟨R, hR⟩ : ∃ R, R = rch (!o.b) o.p o.a l2 := ⟨_, rfl⟩
  rw [← hR] at HML
  (try rw [← hR] at hc)
  have HRR := Lib.hid hR
  clear hn1 hn2 htx hg1 hg2 hl1 hl2 hgd hR
  have HROOM : Rm true o l1 l2 := ⟨fun _ _ => hc.2⟩
  have hgl := (Array.getElem?_eq_some_iff.1 h.row).1
  have hlow : base ≤ w.heap.size := by have := h.bg; omega
  have hb2 := below_alloc (below_new w (Obj.cells (oa o) 30)) (Obj.cells pl0 41)
  have hbx := heap_up (o := Obj.cells pl0 41) (heap_alloc_new w (Obj.cells (oa o) 30))
  have hpx : ((w.alloc (Obj.cells (oa o) 30)).alloc (Obj.cells pl0 41)).heap[w.heap.size + 1]? = some (.cells pl0 41 (0, 0)) := by
    have := heap_alloc_new (w.alloc (Obj.cells (oa o) 30)) (Obj.cells pl0 41)
    simpa using this
  have HH2 := Lib.hid (h.kept hb2)
  have HBO := Lib.hid (show (oa o).size = 5 from rfl)
  have HBX := Lib.hid (extract_all HBO.out)
  have HPS := Lib.hid (show pl0.size = 4 from rfl)
  have HPA := Lib.hid (show pl0.all (·.oneCell') = true from pl_all)
  have HTW := Lib.hid h.two
  have HOO := Lib.hid ho
  have o0 : (oa o)[0]? = some (.int .u64 o.n) := rfl
  have o1 : (oa o)[1]? = some (.int .u32 o.a) := rfl
  have o2 : (oa o)[2]? = some (.bool o.b) := rfl
  have o3 : (oa o)[3]? = some (.int .i64 o.p) := rfl
  have o4 : (oa o)[4]? = some (.int .i64 o.q) := rfl
  clear h ho
  go_enter Try.func14, Try.ntmps14
  go_wp2_with ((with_reducible refine at_alloc 41 ?_); refine wpList_alloc_named rfl 41 rfl pl0 (by kernel_rfl) ?_)
  (try simp only [Act.put, World.size_alloc, List.getElem_toArray, List.getElem_cons_zero, List.getElem_cons_succ, List.setIfInBounds_toArray, List.set_cons_zero, List.set_cons_succ])
  obtain ⟨w2, hw2⟩ : ∃ w2, w2 = (w.alloc (Obj.cells (oa o) 30)).alloc (Obj.cells pl0 41) := ⟨_, rfl⟩
  have hs2 : w.heap.size + 1 < w2.heap.size := by rw [hw2]; simp
  rw [← hw2] at hb2 hbx hpx HH2 ⊢
  clear hw2
  have HB2 := Lib.hid hb2
  have HPX := Lib.hid hpx
  clear hb2 hpx
  have HOK := Lib.hid hok
  have hRq : R < o.q := by have := okO_q hok; omega
  have hR0 : ¬ 0 < R := by omega
  have hlen : ¬ (100 ≤ (l1.length : Int)) := by have := hc.2; omega
  clear hok hc
  go_wp2_with (first | (go_at_call 25; (with_reducible refine ((bready_yes HH2.out)).mono ?_); rintro e w2' ⟨rfl, rfl⟩) | ((with_reducible refine at_load 30 ?_); refine wpList_load_part rfl 30 _ rfl (w.heap.size) (0) rfl _ (oa o) _ _ 5 (hbx) Try.underlying30 rfl (by kernel_rfl) (by rw [HBO.out]; omega) (oa o) (HBX.out) ?_) | (go_at_call 26; (with_reducible refine ((may_any _ HOO.out)).mono ?_); rintro e w3 ⟨rfl, hb3⟩; rw [HOK.out]; have hbx3 := Ytmjfbilhalkegaa.kept hb3 hbx; have cbx3 := cellF hbx3) | (go_at_call 27; (with_reducible refine ((find_any o.n (HH2.out.kept hb3))).mono ?_); rintro e w4 ⟨rfl, hb4⟩; rw [HFN.out.1, HFN.out.2]; have hb34 := below_alloc (below_then hb3 hb4) (Obj.cells FO 30); have hbx5 := Ytmjfbilhalkegaa.kept hb34 hbx; have cbx5 := cellF hbx5) | ((with_reducible refine at_alloc 30 ?_); refine wpList_alloc_named rfl 30 rfl (zo) (by kernel_rfl) ?_) | ((with_reducible refine at_store 30 ?_); refine wpList_store_new rfl 30 _ _ rfl FO _ _ _ rfl (by simp) rfl (by rw [HFZ.out]; kernel_rfl) (by rw [HFZ.out]; rfl) HFA.out ?_) | (go_at_call 28; (with_reducible refine ((bsides_any o.b (HH2.out.kept hb34))).mono ?_); rintro e w6 ⟨rfl, hb6⟩; rw [← HG1.out, ← HG2.out]; have hb26 := below_then hb34 hb6; have hbx6 := Ytmjfbilhalkegaa.kept hb26 hbx; have cbx6 := cellF hbx6; have HX6 := Lib.hid (HTX.out.kept (below_then HB2.out hb26))) | (go_at_call 29; (with_reducible refine ((reach_any o.p o.a HX6.out.s2 HGD.out)).mono ?_); rintro e w7 ⟨rfl, hb7⟩; rw [← HRR.out]; have hb27 := below_then hb26 hb7; have hbx7 := Ytmjfbilhalkegaa.kept hb27 hbx; have cbx7 := cellF hbx7; have HX7 := Lib.hid (HX6.out.kept hb7)) | (go_at_call 30; (with_reducible refine ((len_any HX7.out.s1)).mono ?_); rintro e w7' ⟨rfl, rfl⟩) | ((with_reducible refine at_load 30 ?_); refine wpList_load_part rfl 30 _ rfl (w.heap.size) (0) rfl _ (oa o) _ _ 5 (hbx7) Try.underlying30 rfl (by kernel_rfl) (by rw [HBO.out]; omega) (oa o) (HBX.out) ?_) | (go_at_call 31; (with_reducible refine ((come_any o _ (HH2.out.kept hb27) HG1.out HG2.out HL1.out HL2.out HOO.out HOK.out HGE.out HGT.out HROOM.out)).mono ?_); rintro e w8 ⟨vt, vg, rfl, htx, hbk, hrt, hrg, hbe, hfr⟩; obtain ⟨av, ac, rfl⟩ := own_formB hrt; obtain ⟨bv, bc, rfl⟩ := own_formB hrg; have HWW := Lib.hid (below_then HB2.out hb27); have hp7 := Ytmjfbilhalkegaa.kept hb27 HPX.out; have hp8 := (hfr (w.heap.size + 1) _ (by have := HWW.out.size; have := (Array.getElem?_eq_some_iff.1 hp7).1; omega) hp7 HN1.out HN2.out (nb_new HTX.out.s1 (by omega) HWW.out) (nb_new HTX.out.s2 (by omega) HWW.out)).1; have HME := Lib.hid (show meet o o.q l2 = meet o o.q l2 from rfl)) | ((with_reducible refine at_store 41 ?_); refine wpList_store_over rfl 41 _ _ rfl (w.heap.size + 1) (_) rfl rfl _ _ (hp8) (by kernel_rfl) (rfl) (pl_all) ?_; intro w9 hg9 hs9 ho9 hb9))
  refine post_cell_tmp (g := w.heap.size + 1) (t := 41) (v := .int .i64 0) rfl rfl rfl rfl hg9 Try.underlying41 rfl (by kernel_rfl) ?_
  have hk9 := off_kt hp8 (by decide) (by decide) ho9
  exact ⟨⟨_, _, rfl, own_sameT (Go.Joins.ownsRow_le hrt HWW.out.size) (fun q A _ hq => off_ty hp8 ho9 hq (by decide)), own_sameT (Go.Joins.ownsRow_le hrg HWW.out.size) (fun q A _ hq => off_ty hp8 ho9 hq (by decide))⟩, htx.kt hk9, off_ty hp8 ho9 hbk (by decide), ((HWW.out.mono hlow).trans hbe).trans (hb9 _ (by omega)),
    ((kb_below HTX.out HWW.out).trans (kb_less hfr HWW.out.size)).trans (kb_rows htx (fun q e => by
      obtain ⟨v1, e1, _⟩ := htx.s1.s.row
      rw [e1] at e; cases e
      exact off_ty hp8 ho9 e1 (by decide)) (fun q e => by
      obtain ⟨v1, e1, _⟩ := htx.s2.s.row
      rw [e1] at e; cases e
      exact off_ty hp8 ho9 e1 (by decide)) (fun q e hq h9 => (ho9 _ (by omega)).trans h9))⟩
set_option maxRecDepth 100000 in
set_option maxHeartbeats 4000000 in
theorem place_70 {w : World} {g gb gs base : Nat} {lb ls l1 l2 : List Od} {g1 g2 : Nat} (o : Od) (h : BkG w g gb gs base lb ls) (hg1 : g1 = if o.b then gb else gs) (hg2 : g2 = if o.b then gs else gb) (hl1 : l1 = if o.b then lb else ls) (hl2 : l2 = if o.b then ls else lb)
    (ho : OkO o) (hok : okO (oa o) = true) (hgd : Good l2) (hn1 : gt o.n lb = none) (hn2 : gt o.n ls = none) (hc : rch (!o.b) o.p o.a l2 < o.q) :
    Calls Try.prog 14 #[.pointer (some ⟨g, 0, none⟩), .agg (oa o), .int .u8 3] w fun e w' => e = .returned (.tuple #[.agg pl0, .int .i64 70]) ∧ Below w.heap.size w w' := by
  have HFN := Lib.hid (fn_n (gb := gb) (gs := gs) hn1 hn2)
  have HFZ := Lib.hid zo_size
  have HFA := Lib.hid zo_all
  obtain ⟨FO, hFO⟩ : ∃ FO, FO = zo := ⟨_, rfl⟩
  rw [← hFO] at HFN HFZ HFA
  clear hFO
  have htx := h.two.x o.b
  rw [← hg1, ← hg2, ← hl1, ← hl2] at htx
  have HTX := Lib.hid htx
  have HG1 := Lib.hid hg1
  have HG2 := Lib.hid hg2
  have HL1 := Lib.hid hl1
  have HL2 := Lib.hid hl2
  have HGD := Lib.hid hgd
  have HGE := Lib.hid (show ∀ x, x ∈ l2 → okO (oa x) = true from hgd)
  have HGT := Lib.hid (show gt o.n l1 = none from by rw [hl1]; split <;> assumption)
  have HN1 := Lib.hid (show w.heap.size + 1 ≠ g1 from by obtain ⟨v, e, _⟩ := htx.s1.s.row; have := (Array.getElem?_eq_some_iff.1 e).1; omega)
  have HN2 := Lib.hid (show w.heap.size + 1 ≠ g2 from by obtain ⟨v, e, _⟩ := htx.s2.s.row; have := (Array.getElem?_eq_some_iff.1 e).1; omega)
  have HML := Lib.hid (meet_left (o := o) (l := l2) (left := o.q) (by have := okO_q hok; omega) hgd)
  obtain ⟨R, hR⟩ : ∃ R, R = rch (!o.b) o.p o.a l2 := ⟨_, rfl⟩
  rw [← hR] at HML
  (try rw [← hR] at hc)
  have HRR := Lib.hid hR
  clear hn1 hn2 htx hg1 hg2 hl1 hl2 hgd hR
  have hgl := (Array.getElem?_eq_some_iff.1 h.row).1
  have hlow : base ≤ w.heap.size := by have := h.bg; omega
  have hb2 := below_alloc (below_new w (Obj.cells (oa o) 30)) (Obj.cells pl0 41)
  have hbx := heap_up (o := Obj.cells pl0 41) (heap_alloc_new w (Obj.cells (oa o) 30))
  have hpx : ((w.alloc (Obj.cells (oa o) 30)).alloc (Obj.cells pl0 41)).heap[w.heap.size + 1]? = some (.cells pl0 41 (0, 0)) := by
    have := heap_alloc_new (w.alloc (Obj.cells (oa o) 30)) (Obj.cells pl0 41)
    simpa using this
  have HH2 := Lib.hid (h.kept hb2)
  have HBO := Lib.hid (show (oa o).size = 5 from rfl)
  have HBX := Lib.hid (extract_all HBO.out)
  have HPS := Lib.hid (show pl0.size = 4 from rfl)
  have HPA := Lib.hid (show pl0.all (·.oneCell') = true from pl_all)
  have HTW := Lib.hid h.two
  have HOO := Lib.hid ho
  have o0 : (oa o)[0]? = some (.int .u64 o.n) := rfl
  have o1 : (oa o)[1]? = some (.int .u32 o.a) := rfl
  have o2 : (oa o)[2]? = some (.bool o.b) := rfl
  have o3 : (oa o)[3]? = some (.int .i64 o.p) := rfl
  have o4 : (oa o)[4]? = some (.int .i64 o.q) := rfl
  clear h ho
  go_enter Try.func14, Try.ntmps14
  go_wp2_with ((with_reducible refine at_alloc 41 ?_); refine wpList_alloc_named rfl 41 rfl pl0 (by kernel_rfl) ?_)
  (try simp only [Act.put, World.size_alloc, List.getElem_toArray, List.getElem_cons_zero, List.getElem_cons_succ, List.setIfInBounds_toArray, List.set_cons_zero, List.set_cons_succ])
  obtain ⟨w2, hw2⟩ : ∃ w2, w2 = (w.alloc (Obj.cells (oa o) 30)).alloc (Obj.cells pl0 41) := ⟨_, rfl⟩
  have hs2 : w.heap.size + 1 < w2.heap.size := by rw [hw2]; simp
  rw [← hw2] at hb2 hbx hpx HH2 ⊢
  clear hw2
  have HB2 := Lib.hid hb2
  have HPX := Lib.hid hpx
  clear hb2 hpx
  have HOK := Lib.hid hok
  clear hok
  go_wp2_with (first | (go_at_call 25; (with_reducible refine ((bready_yes HH2.out)).mono ?_); rintro e w2' ⟨rfl, rfl⟩) | ((with_reducible refine at_load 30 ?_); refine wpList_load_part rfl 30 _ rfl (w.heap.size) (0) rfl _ (oa o) _ _ 5 (hbx) Try.underlying30 rfl (by kernel_rfl) (by rw [HBO.out]; omega) (oa o) (HBX.out) ?_) | (go_at_call 26; (with_reducible refine ((may_any _ HOO.out)).mono ?_); rintro e w3 ⟨rfl, hb3⟩; rw [HOK.out]; have hbx3 := Ytmjfbilhalkegaa.kept hb3 hbx; have cbx3 := cellF hbx3) | (go_at_call 27; (with_reducible refine ((find_any o.n (HH2.out.kept hb3))).mono ?_); rintro e w4 ⟨rfl, hb4⟩; rw [HFN.out.1, HFN.out.2]; have hb34 := below_alloc (below_then hb3 hb4) (Obj.cells FO 30); have hbx5 := Ytmjfbilhalkegaa.kept hb34 hbx; have cbx5 := cellF hbx5) | ((with_reducible refine at_alloc 30 ?_); refine wpList_alloc_named rfl 30 rfl (zo) (by kernel_rfl) ?_) | ((with_reducible refine at_store 30 ?_); refine wpList_store_new rfl 30 _ _ rfl FO _ _ _ rfl (by simp) rfl (by rw [HFZ.out]; kernel_rfl) (by rw [HFZ.out]; rfl) HFA.out ?_) | (go_at_call 28; (with_reducible refine ((bsides_any o.b (HH2.out.kept hb34))).mono ?_); rintro e w6 ⟨rfl, hb6⟩; rw [← HG1.out, ← HG2.out]; have hb26 := below_then hb34 hb6; have hbx6 := Ytmjfbilhalkegaa.kept hb26 hbx; have cbx6 := cellF hbx6; have HX6 := Lib.hid (HTX.out.kept (below_then HB2.out hb26))) | (go_at_call 29; (with_reducible refine ((reach_any o.p o.a HX6.out.s2 HGD.out)).mono ?_); rintro e w7 ⟨rfl, hb7⟩; rw [← HRR.out]; have hb27 := below_then hb26 hb7; have hbx7 := Ytmjfbilhalkegaa.kept hb27 hbx; have cbx7 := cellF hbx7; have HX7 := Lib.hid (HX6.out.kept hb7)) | (go_at_call 30; (with_reducible refine ((len_any HX7.out.s1)).mono ?_); rintro e w7' ⟨rfl, rfl⟩) | ((with_reducible refine at_build 41 ?_); refine wpList_build_named rfl 41 _ rfl pl0 (by kernel_rfl) ?_) | ((with_reducible refine at_store 41 ?_); refine wpList_store_over rfl 41 _ _ rfl (w.heap.size + 1) (pl0) rfl rfl _ _ ((Ytmjfbilhalkegaa.kept hb27 HPX.out)) (by rw [HPS.out]; kernel_rfl) (rfl) (HPA.out) ?_; intro w8 hg8 hs8 ho8 hb8))
  exact post_cell_tmp (g := w.heap.size + 1) (t := 41) rfl rfl rfl rfl hg8 Try.underlying41 rfl (by kernel_rfl) ⟨rfl, (below_then HB2.out hb27).trans (hb8 _ (by omega))⟩
set_option maxRecDepth 100000 in
set_option maxHeartbeats 4000000 in
theorem place_71 {w : World} {g gb gs base : Nat} {lb ls l1 l2 : List Od} {g1 g2 : Nat} (o : Od) (h : BkG w g gb gs base lb ls) (hg1 : g1 = if o.b then gb else gs) (hg2 : g2 = if o.b then gs else gb) (hl1 : l1 = if o.b then lb else ls) (hl2 : l2 = if o.b then ls else lb)
    (ho : OkO o) (hok : okO (oa o) = true) (hgd : Good l2) (hn1 : gt o.n lb = none) (hn2 : gt o.n ls = none) (hc : 0 < rch (!o.b) o.p o.a l2) :
    Calls Try.prog 14 #[.pointer (some ⟨g, 0, none⟩), .agg (oa o), .int .u8 4] w fun e w' => e = .returned (.tuple #[.agg pl0, .int .i64 71]) ∧ Below w.heap.size w w' := by
  have HFN := Lib.hid (fn_n (gb := gb) (gs := gs) hn1 hn2)
  have HFZ := Lib.hid zo_size
  have HFA := Lib.hid zo_all
  obtain ⟨FO, hFO⟩ : ∃ FO, FO = zo := ⟨_, rfl⟩
  rw [← hFO] at HFN HFZ HFA
  clear hFO
  have htx := h.two.x o.b
  rw [← hg1, ← hg2, ← hl1, ← hl2] at htx
  have HTX := Lib.hid htx
  have HG1 := Lib.hid hg1
  have HG2 := Lib.hid hg2
  have HL1 := Lib.hid hl1
  have HL2 := Lib.hid hl2
  have HGD := Lib.hid hgd
  have HGE := Lib.hid (show ∀ x, x ∈ l2 → okO (oa x) = true from hgd)
  have HGT := Lib.hid (show gt o.n l1 = none from by rw [hl1]; split <;> assumption)
  have HN1 := Lib.hid (show w.heap.size + 1 ≠ g1 from by obtain ⟨v, e, _⟩ := htx.s1.s.row; have := (Array.getElem?_eq_some_iff.1 e).1; omega)
  have HN2 := Lib.hid (show w.heap.size + 1 ≠ g2 from by obtain ⟨v, e, _⟩ := htx.s2.s.row; have := (Array.getElem?_eq_some_iff.1 e).1; omega)
  have HML := Lib.hid (meet_left (o := o) (l := l2) (left := o.q) (by have := okO_q hok; omega) hgd)
  obtain ⟨R, hR⟩ : ∃ R, R = rch (!o.b) o.p o.a l2 := ⟨_, rfl⟩
  rw [← hR] at HML
  (try rw [← hR] at hc)
  have HRR := Lib.hid hR
  clear hn1 hn2 htx hg1 hg2 hl1 hl2 hgd hR
  have hgl := (Array.getElem?_eq_some_iff.1 h.row).1
  have hlow : base ≤ w.heap.size := by have := h.bg; omega
  have hb2 := below_alloc (below_new w (Obj.cells (oa o) 30)) (Obj.cells pl0 41)
  have hbx := heap_up (o := Obj.cells pl0 41) (heap_alloc_new w (Obj.cells (oa o) 30))
  have hpx : ((w.alloc (Obj.cells (oa o) 30)).alloc (Obj.cells pl0 41)).heap[w.heap.size + 1]? = some (.cells pl0 41 (0, 0)) := by
    have := heap_alloc_new (w.alloc (Obj.cells (oa o) 30)) (Obj.cells pl0 41)
    simpa using this
  have HH2 := Lib.hid (h.kept hb2)
  have HBO := Lib.hid (show (oa o).size = 5 from rfl)
  have HBX := Lib.hid (extract_all HBO.out)
  have HPS := Lib.hid (show pl0.size = 4 from rfl)
  have HPA := Lib.hid (show pl0.all (·.oneCell') = true from pl_all)
  have HTW := Lib.hid h.two
  have HOO := Lib.hid ho
  have o0 : (oa o)[0]? = some (.int .u64 o.n) := rfl
  have o1 : (oa o)[1]? = some (.int .u32 o.a) := rfl
  have o2 : (oa o)[2]? = some (.bool o.b) := rfl
  have o3 : (oa o)[3]? = some (.int .i64 o.p) := rfl
  have o4 : (oa o)[4]? = some (.int .i64 o.q) := rfl
  clear h ho
  go_enter Try.func14, Try.ntmps14
  go_wp2_with ((with_reducible refine at_alloc 41 ?_); refine wpList_alloc_named rfl 41 rfl pl0 (by kernel_rfl) ?_)
  (try simp only [Act.put, World.size_alloc, List.getElem_toArray, List.getElem_cons_zero, List.getElem_cons_succ, List.setIfInBounds_toArray, List.set_cons_zero, List.set_cons_succ])
  obtain ⟨w2, hw2⟩ : ∃ w2, w2 = (w.alloc (Obj.cells (oa o) 30)).alloc (Obj.cells pl0 41) := ⟨_, rfl⟩
  have hs2 : w.heap.size + 1 < w2.heap.size := by rw [hw2]; simp
  rw [← hw2] at hb2 hbx hpx HH2 ⊢
  clear hw2
  have HB2 := Lib.hid hb2
  have HPX := Lib.hid hpx
  clear hb2 hpx
  have HOK := Lib.hid hok
  clear hok
  go_wp2_with (first | (go_at_call 25; (with_reducible refine ((bready_yes HH2.out)).mono ?_); rintro e w2' ⟨rfl, rfl⟩) | ((with_reducible refine at_load 30 ?_); refine wpList_load_part rfl 30 _ rfl (w.heap.size) (0) rfl _ (oa o) _ _ 5 (hbx) Try.underlying30 rfl (by kernel_rfl) (by rw [HBO.out]; omega) (oa o) (HBX.out) ?_) | (go_at_call 26; (with_reducible refine ((may_any _ HOO.out)).mono ?_); rintro e w3 ⟨rfl, hb3⟩; rw [HOK.out]; have hbx3 := Ytmjfbilhalkegaa.kept hb3 hbx; have cbx3 := cellF hbx3) | (go_at_call 27; (with_reducible refine ((find_any o.n (HH2.out.kept hb3))).mono ?_); rintro e w4 ⟨rfl, hb4⟩; rw [HFN.out.1, HFN.out.2]; have hb34 := below_alloc (below_then hb3 hb4) (Obj.cells FO 30); have hbx5 := Ytmjfbilhalkegaa.kept hb34 hbx; have cbx5 := cellF hbx5) | ((with_reducible refine at_alloc 30 ?_); refine wpList_alloc_named rfl 30 rfl (zo) (by kernel_rfl) ?_) | ((with_reducible refine at_store 30 ?_); refine wpList_store_new rfl 30 _ _ rfl FO _ _ _ rfl (by simp) rfl (by rw [HFZ.out]; kernel_rfl) (by rw [HFZ.out]; rfl) HFA.out ?_) | (go_at_call 28; (with_reducible refine ((bsides_any o.b (HH2.out.kept hb34))).mono ?_); rintro e w6 ⟨rfl, hb6⟩; rw [← HG1.out, ← HG2.out]; have hb26 := below_then hb34 hb6; have hbx6 := Ytmjfbilhalkegaa.kept hb26 hbx; have cbx6 := cellF hbx6; have HX6 := Lib.hid (HTX.out.kept (below_then HB2.out hb26))) | (go_at_call 29; (with_reducible refine ((reach_any o.p o.a HX6.out.s2 HGD.out)).mono ?_); rintro e w7 ⟨rfl, hb7⟩; rw [← HRR.out]; have hb27 := below_then hb26 hb7; have hbx7 := Ytmjfbilhalkegaa.kept hb27 hbx; have cbx7 := cellF hbx7; have HX7 := Lib.hid (HX6.out.kept hb7)) | (go_at_call 30; (with_reducible refine ((len_any HX7.out.s1)).mono ?_); rintro e w7' ⟨rfl, rfl⟩) | ((with_reducible refine at_build 41 ?_); refine wpList_build_named rfl 41 _ rfl pl0 (by kernel_rfl) ?_) | ((with_reducible refine at_store 41 ?_); refine wpList_store_over rfl 41 _ _ rfl (w.heap.size + 1) (pl0) rfl rfl _ _ ((Ytmjfbilhalkegaa.kept hb27 HPX.out)) (by rw [HPS.out]; kernel_rfl) (rfl) (HPA.out) ?_; intro w8 hg8 hs8 ho8 hb8))
  exact post_cell_tmp (g := w.heap.size + 1) (t := 41) rfl rfl rfl rfl hg8 Try.underlying41 rfl (by kernel_rfl) ⟨rfl, (below_then HB2.out hb27).trans (hb8 _ (by omega))⟩
set_option maxRecDepth 100000 in
set_option maxHeartbeats 4000000 in
theorem place_9a {w : World} {g gb gs base : Nat} {lb ls l1 l2 : List Od} {g1 g2 : Nat} (o : Od) (h : BkG w g gb gs base lb ls) (hg1 : g1 = if o.b then gb else gs) (hg2 : g2 = if o.b then gs else gb) (hl1 : l1 = if o.b then lb else ls) (hl2 : l2 = if o.b then ls else lb)
    (ho : OkO o) (hok : okO (oa o) = true) (hgd : Good l2) (hn1 : gt o.n lb = none) (hn2 : gt o.n ls = none) (hc : rch (!o.b) o.p o.a l2 < o.q ∧ 100 ≤ l1.length) :
    Calls Try.prog 14 #[.pointer (some ⟨g, 0, none⟩), .agg (oa o), .int .u8 1] w fun e w' => e = .returned (.tuple #[.agg pl0, .int .i64 9]) ∧ Below w.heap.size w w' := by
  have HFN := Lib.hid (fn_n (gb := gb) (gs := gs) hn1 hn2)
  have HFZ := Lib.hid zo_size
  have HFA := Lib.hid zo_all
  obtain ⟨FO, hFO⟩ : ∃ FO, FO = zo := ⟨_, rfl⟩
  rw [← hFO] at HFN HFZ HFA
  clear hFO
  have htx := h.two.x o.b
  rw [← hg1, ← hg2, ← hl1, ← hl2] at htx
  have HTX := Lib.hid htx
  have HG1 := Lib.hid hg1
  have HG2 := Lib.hid hg2
  have HL1 := Lib.hid hl1
  have HL2 := Lib.hid hl2
  have HGD := Lib.hid hgd
  have HGE := Lib.hid (show ∀ x, x ∈ l2 → okO (oa x) = true from hgd)
  have HGT := Lib.hid (show gt o.n l1 = none from by rw [hl1]; split <;> assumption)
  have HN1 := Lib.hid (show w.heap.size + 1 ≠ g1 from by obtain ⟨v, e, _⟩ := htx.s1.s.row; have := (Array.getElem?_eq_some_iff.1 e).1; omega)
  have HN2 := Lib.hid (show w.heap.size + 1 ≠ g2 from by obtain ⟨v, e, _⟩ := htx.s2.s.row; have := (Array.getElem?_eq_some_iff.1 e).1; omega)
  have HML := Lib.hid (meet_left (o := o) (l := l2) (left := o.q) (by have := okO_q hok; omega) hgd)
  obtain ⟨R, hR⟩ : ∃ R, R = rch (!o.b) o.p o.a l2 := ⟨_, rfl⟩
  rw [← hR] at HML
  (try rw [← hR] at hc)
  have HRR := Lib.hid hR
  clear hn1 hn2 htx hg1 hg2 hl1 hl2 hgd hR
  have hgl := (Array.getElem?_eq_some_iff.1 h.row).1
  have hlow : base ≤ w.heap.size := by have := h.bg; omega
  have hb2 := below_alloc (below_new w (Obj.cells (oa o) 30)) (Obj.cells pl0 41)
  have hbx := heap_up (o := Obj.cells pl0 41) (heap_alloc_new w (Obj.cells (oa o) 30))
  have hpx : ((w.alloc (Obj.cells (oa o) 30)).alloc (Obj.cells pl0 41)).heap[w.heap.size + 1]? = some (.cells pl0 41 (0, 0)) := by
    have := heap_alloc_new (w.alloc (Obj.cells (oa o) 30)) (Obj.cells pl0 41)
    simpa using this
  have HH2 := Lib.hid (h.kept hb2)
  have HBO := Lib.hid (show (oa o).size = 5 from rfl)
  have HBX := Lib.hid (extract_all HBO.out)
  have HPS := Lib.hid (show pl0.size = 4 from rfl)
  have HPA := Lib.hid (show pl0.all (·.oneCell') = true from pl_all)
  have HTW := Lib.hid h.two
  have HOO := Lib.hid ho
  have o0 : (oa o)[0]? = some (.int .u64 o.n) := rfl
  have o1 : (oa o)[1]? = some (.int .u32 o.a) := rfl
  have o2 : (oa o)[2]? = some (.bool o.b) := rfl
  have o3 : (oa o)[3]? = some (.int .i64 o.p) := rfl
  have o4 : (oa o)[4]? = some (.int .i64 o.q) := rfl
  clear h ho
  go_enter Try.func14, Try.ntmps14
  go_wp2_with ((with_reducible refine at_alloc 41 ?_); refine wpList_alloc_named rfl 41 rfl pl0 (by kernel_rfl) ?_)
  (try simp only [Act.put, World.size_alloc, List.getElem_toArray, List.getElem_cons_zero, List.getElem_cons_succ, List.setIfInBounds_toArray, List.set_cons_zero, List.set_cons_succ])
  obtain ⟨w2, hw2⟩ : ∃ w2, w2 = (w.alloc (Obj.cells (oa o) 30)).alloc (Obj.cells pl0 41) := ⟨_, rfl⟩
  have hs2 : w.heap.size + 1 < w2.heap.size := by rw [hw2]; simp
  rw [← hw2] at hb2 hbx hpx HH2 ⊢
  clear hw2
  have HB2 := Lib.hid hb2
  have HPX := Lib.hid hpx
  clear hb2 hpx
  have HOK := Lib.hid hok
  have hRq := hc.1
  have hlen : (100 ≤ (l1.length : Int)) := by have := hc.2; omega
  clear hok hc
  go_wp2_with (first | (go_at_call 25; (with_reducible refine ((bready_yes HH2.out)).mono ?_); rintro e w2' ⟨rfl, rfl⟩) | ((with_reducible refine at_load 30 ?_); refine wpList_load_part rfl 30 _ rfl (w.heap.size) (0) rfl _ (oa o) _ _ 5 (hbx) Try.underlying30 rfl (by kernel_rfl) (by rw [HBO.out]; omega) (oa o) (HBX.out) ?_) | (go_at_call 26; (with_reducible refine ((may_any _ HOO.out)).mono ?_); rintro e w3 ⟨rfl, hb3⟩; rw [HOK.out]; have hbx3 := Ytmjfbilhalkegaa.kept hb3 hbx; have cbx3 := cellF hbx3) | (go_at_call 27; (with_reducible refine ((find_any o.n (HH2.out.kept hb3))).mono ?_); rintro e w4 ⟨rfl, hb4⟩; rw [HFN.out.1, HFN.out.2]; have hb34 := below_alloc (below_then hb3 hb4) (Obj.cells FO 30); have hbx5 := Ytmjfbilhalkegaa.kept hb34 hbx; have cbx5 := cellF hbx5) | ((with_reducible refine at_alloc 30 ?_); refine wpList_alloc_named rfl 30 rfl (zo) (by kernel_rfl) ?_) | ((with_reducible refine at_store 30 ?_); refine wpList_store_new rfl 30 _ _ rfl FO _ _ _ rfl (by simp) rfl (by rw [HFZ.out]; kernel_rfl) (by rw [HFZ.out]; rfl) HFA.out ?_) | (go_at_call 28; (with_reducible refine ((bsides_any o.b (HH2.out.kept hb34))).mono ?_); rintro e w6 ⟨rfl, hb6⟩; rw [← HG1.out, ← HG2.out]; have hb26 := below_then hb34 hb6; have hbx6 := Ytmjfbilhalkegaa.kept hb26 hbx; have cbx6 := cellF hbx6; have HX6 := Lib.hid (HTX.out.kept (below_then HB2.out hb26))) | (go_at_call 29; (with_reducible refine ((reach_any o.p o.a HX6.out.s2 HGD.out)).mono ?_); rintro e w7 ⟨rfl, hb7⟩; rw [← HRR.out]; have hb27 := below_then hb26 hb7; have hbx7 := Ytmjfbilhalkegaa.kept hb27 hbx; have cbx7 := cellF hbx7; have HX7 := Lib.hid (HX6.out.kept hb7)) | (go_at_call 30; (with_reducible refine ((len_any HX7.out.s1)).mono ?_); rintro e w7' ⟨rfl, rfl⟩) | ((with_reducible refine at_build 41 ?_); refine wpList_build_named rfl 41 _ rfl pl0 (by kernel_rfl) ?_) | ((with_reducible refine at_store 41 ?_); refine wpList_store_over rfl 41 _ _ rfl (w.heap.size + 1) (pl0) rfl rfl _ _ ((Ytmjfbilhalkegaa.kept hb27 HPX.out)) (by rw [HPS.out]; kernel_rfl) (rfl) (HPA.out) ?_; intro w8 hg8 hs8 ho8 hb8))
  exact post_cell_tmp (g := w.heap.size + 1) (t := 41) rfl rfl rfl rfl hg8 Try.underlying41 rfl (by kernel_rfl) ⟨rfl, (below_then HB2.out hb27).trans (hb8 _ (by omega))⟩
set_option maxRecDepth 100000 in
set_option maxHeartbeats 4000000 in
theorem place_9b {w : World} {g gb gs base : Nat} {lb ls l1 l2 : List Od} {g1 g2 : Nat} (o : Od) (h : BkG w g gb gs base lb ls) (hg1 : g1 = if o.b then gb else gs) (hg2 : g2 = if o.b then gs else gb) (hl1 : l1 = if o.b then lb else ls) (hl2 : l2 = if o.b then ls else lb)
    (ho : OkO o) (hok : okO (oa o) = true) (hgd : Good l2) (hn1 : gt o.n lb = none) (hn2 : gt o.n ls = none) (hc : rch (!o.b) o.p o.a l2 ≤ 0 ∧ 100 ≤ l1.length) :
    Calls Try.prog 14 #[.pointer (some ⟨g, 0, none⟩), .agg (oa o), .int .u8 4] w fun e w' => e = .returned (.tuple #[.agg pl0, .int .i64 9]) ∧ Below w.heap.size w w' := by
  have HFN := Lib.hid (fn_n (gb := gb) (gs := gs) hn1 hn2)
  have HFZ := Lib.hid zo_size
  have HFA := Lib.hid zo_all
  obtain ⟨FO, hFO⟩ : ∃ FO, FO = zo := ⟨_, rfl⟩
  rw [← hFO] at HFN HFZ HFA
  clear hFO
  have htx := h.two.x o.b
  rw [← hg1, ← hg2, ← hl1, ← hl2] at htx
  have HTX := Lib.hid htx
  have HG1 := Lib.hid hg1
  have HG2 := Lib.hid hg2
  have HL1 := Lib.hid hl1
  have HL2 := Lib.hid hl2
  have HGD := Lib.hid hgd
  have HGE := Lib.hid (show ∀ x, x ∈ l2 → okO (oa x) = true from hgd)
  have HGT := Lib.hid (show gt o.n l1 = none from by rw [hl1]; split <;> assumption)
  have HN1 := Lib.hid (show w.heap.size + 1 ≠ g1 from by obtain ⟨v, e, _⟩ := htx.s1.s.row; have := (Array.getElem?_eq_some_iff.1 e).1; omega)
  have HN2 := Lib.hid (show w.heap.size + 1 ≠ g2 from by obtain ⟨v, e, _⟩ := htx.s2.s.row; have := (Array.getElem?_eq_some_iff.1 e).1; omega)
  have HML := Lib.hid (meet_left (o := o) (l := l2) (left := o.q) (by have := okO_q hok; omega) hgd)
  obtain ⟨R, hR⟩ : ∃ R, R = rch (!o.b) o.p o.a l2 := ⟨_, rfl⟩
  rw [← hR] at HML
  (try rw [← hR] at hc)
  have HRR := Lib.hid hR
  clear hn1 hn2 htx hg1 hg2 hl1 hl2 hgd hR
  have hgl := (Array.getElem?_eq_some_iff.1 h.row).1
  have hlow : base ≤ w.heap.size := by have := h.bg; omega
  have hb2 := below_alloc (below_new w (Obj.cells (oa o) 30)) (Obj.cells pl0 41)
  have hbx := heap_up (o := Obj.cells pl0 41) (heap_alloc_new w (Obj.cells (oa o) 30))
  have hpx : ((w.alloc (Obj.cells (oa o) 30)).alloc (Obj.cells pl0 41)).heap[w.heap.size + 1]? = some (.cells pl0 41 (0, 0)) := by
    have := heap_alloc_new (w.alloc (Obj.cells (oa o) 30)) (Obj.cells pl0 41)
    simpa using this
  have HH2 := Lib.hid (h.kept hb2)
  have HBO := Lib.hid (show (oa o).size = 5 from rfl)
  have HBX := Lib.hid (extract_all HBO.out)
  have HPS := Lib.hid (show pl0.size = 4 from rfl)
  have HPA := Lib.hid (show pl0.all (·.oneCell') = true from pl_all)
  have HTW := Lib.hid h.two
  have HOO := Lib.hid ho
  have o0 : (oa o)[0]? = some (.int .u64 o.n) := rfl
  have o1 : (oa o)[1]? = some (.int .u32 o.a) := rfl
  have o2 : (oa o)[2]? = some (.bool o.b) := rfl
  have o3 : (oa o)[3]? = some (.int .i64 o.p) := rfl
  have o4 : (oa o)[4]? = some (.int .i64 o.q) := rfl
  clear h ho
  go_enter Try.func14, Try.ntmps14
  go_wp2_with ((with_reducible refine at_alloc 41 ?_); refine wpList_alloc_named rfl 41 rfl pl0 (by kernel_rfl) ?_)
  (try simp only [Act.put, World.size_alloc, List.getElem_toArray, List.getElem_cons_zero, List.getElem_cons_succ, List.setIfInBounds_toArray, List.set_cons_zero, List.set_cons_succ])
  obtain ⟨w2, hw2⟩ : ∃ w2, w2 = (w.alloc (Obj.cells (oa o) 30)).alloc (Obj.cells pl0 41) := ⟨_, rfl⟩
  have hs2 : w.heap.size + 1 < w2.heap.size := by rw [hw2]; simp
  rw [← hw2] at hb2 hbx hpx HH2 ⊢
  clear hw2
  have HB2 := Lib.hid hb2
  have HPX := Lib.hid hpx
  clear hb2 hpx
  have HOK := Lib.hid hok
  have hRq : R < o.q := by have := okO_q hok; omega
  have hR0 : ¬ 0 < R := by omega
  have hlen : (100 ≤ (l1.length : Int)) := by have := hc.2; omega
  clear hok hc
  go_wp2_with (first | (go_at_call 25; (with_reducible refine ((bready_yes HH2.out)).mono ?_); rintro e w2' ⟨rfl, rfl⟩) | ((with_reducible refine at_load 30 ?_); refine wpList_load_part rfl 30 _ rfl (w.heap.size) (0) rfl _ (oa o) _ _ 5 (hbx) Try.underlying30 rfl (by kernel_rfl) (by rw [HBO.out]; omega) (oa o) (HBX.out) ?_) | (go_at_call 26; (with_reducible refine ((may_any _ HOO.out)).mono ?_); rintro e w3 ⟨rfl, hb3⟩; rw [HOK.out]; have hbx3 := Ytmjfbilhalkegaa.kept hb3 hbx; have cbx3 := cellF hbx3) | (go_at_call 27; (with_reducible refine ((find_any o.n (HH2.out.kept hb3))).mono ?_); rintro e w4 ⟨rfl, hb4⟩; rw [HFN.out.1, HFN.out.2]; have hb34 := below_alloc (below_then hb3 hb4) (Obj.cells FO 30); have hbx5 := Ytmjfbilhalkegaa.kept hb34 hbx; have cbx5 := cellF hbx5) | ((with_reducible refine at_alloc 30 ?_); refine wpList_alloc_named rfl 30 rfl (zo) (by kernel_rfl) ?_) | ((with_reducible refine at_store 30 ?_); refine wpList_store_new rfl 30 _ _ rfl FO _ _ _ rfl (by simp) rfl (by rw [HFZ.out]; kernel_rfl) (by rw [HFZ.out]; rfl) HFA.out ?_) | (go_at_call 28; (with_reducible refine ((bsides_any o.b (HH2.out.kept hb34))).mono ?_); rintro e w6 ⟨rfl, hb6⟩; rw [← HG1.out, ← HG2.out]; have hb26 := below_then hb34 hb6; have hbx6 := Ytmjfbilhalkegaa.kept hb26 hbx; have cbx6 := cellF hbx6; have HX6 := Lib.hid (HTX.out.kept (below_then HB2.out hb26))) | (go_at_call 29; (with_reducible refine ((reach_any o.p o.a HX6.out.s2 HGD.out)).mono ?_); rintro e w7 ⟨rfl, hb7⟩; rw [← HRR.out]; have hb27 := below_then hb26 hb7; have hbx7 := Ytmjfbilhalkegaa.kept hb27 hbx; have cbx7 := cellF hbx7; have HX7 := Lib.hid (HX6.out.kept hb7)) | (go_at_call 30; (with_reducible refine ((len_any HX7.out.s1)).mono ?_); rintro e w7' ⟨rfl, rfl⟩) | ((with_reducible refine at_build 41 ?_); refine wpList_build_named rfl 41 _ rfl pl0 (by kernel_rfl) ?_) | ((with_reducible refine at_store 41 ?_); refine wpList_store_over rfl 41 _ _ rfl (w.heap.size + 1) (pl0) rfl rfl _ _ ((Ytmjfbilhalkegaa.kept hb27 HPX.out)) (by rw [HPS.out]; kernel_rfl) (rfl) (HPA.out) ?_; intro w8 hg8 hs8 ho8 hb8))
  exact post_cell_tmp (g := w.heap.size + 1) (t := 41) rfl rfl rfl rfl hg8 Try.underlying41 rfl (by kernel_rfl) ⟨rfl, (below_then HB2.out hb27).trans (hb8 _ (by omega))⟩
end Go.Proofs.Ytmjfbilhalkegaa
