/- Texts that UncLaw07 stands on, one behind the other, part 14. Conditions: each theorem names its own. -/
import Derived.Test.YtmjfbilhalkegaaMgUncLaw0713
/-! A book: Replace, walked. Condition: the book is one. -/
namespace Go.Proofs.Ytmjfbilhalkegaa
set_option linter.unusedVariables false
set_option linter.unusedSimpArgs false
open Go.RowKit Go.Deep

/-- an order of that number has less left -/
def lw (n q : Int) : List Od → List Od
  | [] => []
  | x :: r => if x.n = n then { x with q := q } :: r else x :: lw n q r
theorem lw_ix {n q : Int} {o : Od} : ∀ {l : List Od}, gt n l = some o → ∃ i, i < l.length ∧ od l i = o ∧ o.n = n ∧ (∀ j, j < i → (od l j).n ≠ n) ∧ ∀ j, od (lw n q l) j = if j = i then { o with q := q } else od l j
  | [], h => by cases h
  | x :: r, h => by
    unfold gt at h
    by_cases e : x.n = n
    · rw [if_pos e] at h
      cases h
      refine ⟨0, by simp, rfl, e, fun j hj => by omega, fun j => ?_⟩
      unfold lw
      rw [if_pos e]
      cases j with
      | zero => rfl
      | succ j => rw [if_neg (by omega)]; rfl
    · rw [if_neg e] at h
      obtain ⟨i, h1, h2, h3, h4, h5⟩ := lw_ix h
      refine ⟨i + 1, by simpa using h1, h2, h3, fun j hj => ?_, fun j => ?_⟩
      · cases j with
        | zero => exact e
        | succ j => exact h4 j (by omega)
      · unfold lw
        rw [if_neg e]
        cases j with
        | zero => rw [if_neg (by omega)]; rfl
        | succ j =>
          rw [od_s, h5 j]
          by_cases hj : j = i
          · rw [if_pos hj, if_pos (by omega)]
          · rw [if_neg hj, if_neg (by omega)]; rfl
theorem lw_len {n q : Int} : ∀ {l : List Od}, (lw n q l).length = l.length
  | [] => rfl
  | x :: r => by unfold lw; split <;> simp [lw_len (l := r)]
theorem lw_mem {n q : Int} {y : Od} : ∀ {l : List Od}, y ∈ lw n q l → y ∈ l ∨ ∃ x, gt n l = some x ∧ y = { x with q := q }
  | [], h => by cases h
  | x :: r, h => by
    unfold lw at h
    by_cases e : x.n = n
    · rw [if_pos e] at h
      rcases List.mem_cons.1 h with rfl | h
      · right; exact ⟨x, by unfold gt; rw [if_pos e], rfl⟩
      · left; simp [h]
    · rw [if_neg e] at h
      rcases List.mem_cons.1 h with rfl | h
      · left; simp
      · rcases lw_mem h with h | ⟨z, h1, h2⟩
        · left; simp [h]
        · right; exact ⟨z, by unfold gt; rw [if_neg e]; exact h1, h2⟩
theorem lower_in {w : World} {g base : Nat} {buy : Bool} {l : List Od} {o : Od} (n q : Int) (h : SL w g base buy l) (ho : gt n l = some o) (h1 : 1 ≤ q) (h2 : q ≤ o.q) :
    Calls Try.prog 32 #[.pointer (some ⟨g, 0, none⟩), .int .u64 n, .int .i64 q] w fun e w' => e = .returned (.int .i64 0) ∧ SK g base buy (lw n q l) w w' := by
  obtain ⟨i, e1, e2, e3, e4, e5⟩ := lw_ix (q := q) ho
  have hfi : fi (fun j => decide (N (oa (od l j)) 0 = n)) l.length = i := fi_uni e1 (by rw [oa_N0, e2]; exact decide_eq_true e3) (fun j hj => by rw [oa_N0]; exact decide_eq_false (e4 j hj))
  have hoq := (h.ok o (gt_mem ho))
  have hq : F64 q := by have := hoq.q; unfold F64 at this ⊢; omega
  have hN : N (oa (od l i)) 4 = o.q := by rw [oa_N4, e2]
  refine (slower_in_k n q h.s hfi hq).mono ?_
  rintro e w' (⟨_, q2, _⟩ | ⟨rfl, _, q3, q4, q5, q6⟩)
  · rw [hN] at q2; exact absurd ⟨h1, h2⟩ q2
  · refine ⟨rfl, sl_of q3 lw_len.symm (fun x hx => ?_) (fun j hj => ?_), q4, q5, q6⟩
    · rcases lw_mem hx with hx | ⟨z, hz, rfl⟩
      · exact h.ok x hx
      · have := h.ok z (gt_mem hz)
        exact ⟨this.n, this.a, this.p, hq⟩
    · rw [e5 j]
      unfold lo
      by_cases hj2 : j = i
      · subst hj2
        rw [if_pos rfl, if_pos rfl]
        show (oa (od l j)).setIfInBounds 4 (.int .i64 q) = _
        rw [e2]; rfl
      · rw [if_neg hj2, if_neg hj2]
set_option maxRecDepth 100000 in
set_option maxHeartbeats 4000000 in
theorem repl_n {w : World} {g gb gs base : Nat} {lb ls : List Od} (n p q : Int) (h : BkG w g gb gs base lb ls) (h1 : gt n lb = none) (h2 : gt n ls = none) :
    Calls Try.prog 16 #[.pointer (some ⟨g, 0, none⟩), .int .u64 n, .int .i64 p, .int .i64 q] w fun e w' => e = .returned (.tuple #[.agg pl0, .int .i64 7]) ∧ Below w.heap.size w w' := by
  have HFN := Lib.hid (fn_n (gb := gb) (gs := gs) h1 h2)
  obtain ⟨FO, hFO⟩ : ∃ FO, FO = zo := ⟨_, rfl⟩
  rw [← hFO] at HFN
  have HFZ := Lib.hid (show FO.size = 5 from by rw [hFO]; rfl)
  have HFA := Lib.hid (show FO.all (·.oneCell') = true from by rw [hFO]; exact zo_all)
  clear hFO h1 h2
  have hb0 := below_new w (Obj.cells pl0 41)
  have hr0 := heap_alloc_new w (Obj.cells pl0 41)
  have HH := Lib.hid h
  have HH1 := Lib.hid (h.kept hb0)
  have HB0 := Lib.hid hb0
  have HPS := Lib.hid (show pl0.size = 4 from rfl)
  have HPA := Lib.hid (show pl0.all (·.oneCell') = true from pl_all)
  have HZ := Lib.hid zo_size
  have HZA := Lib.hid zo_all
  clear h
  go_enter Try.func16, Try.ntmps16
  go_wp2_with (first | ((with_reducible refine at_alloc 41 ?_); refine wpList_alloc_named rfl 41 rfl pl0 (by kernel_rfl) ?_) | (go_at_call 25; (with_reducible refine ((bready_yes HH1.out)).mono ?_); rintro e w1' ⟨rfl, rfl⟩) | (go_at_call 27; (with_reducible refine ((find_any n HH1.out)).mono ?_); rintro e w2 ⟨rfl, hb2⟩; rw [HFN.out.1, HFN.out.2]; have hb12 := below_alloc hb2 (Obj.cells FO 30); have hr2 := Ytmjfbilhalkegaa.kept hb12 hr0; have hx2 := heap_alloc_new w2 (Obj.cells FO 30); have hx3 := heap_up (o := Obj.cells FO 30) hx2; have c10 := cellF hx3; have f10 := (cells_of hx3).2.1) | ((with_reducible refine at_alloc 30 ?_); refine wpList_alloc_named rfl 30 rfl (zo) (by kernel_rfl) ?_) | ((with_reducible refine at_store 30 ?_); refine wpList_store_new rfl 30 _ _ rfl FO _ _ _ rfl (by simp) rfl (by rw [HFZ.out]; kernel_rfl) (by rw [HFZ.out]; rfl) HFA.out ?_) | ((with_reducible refine at_build 41 ?_); refine wpList_build_named rfl 41 _ rfl pl0 (by kernel_rfl) ?_) | ((with_reducible refine at_store 41 ?_); refine wpList_store_over rfl 41 _ _ rfl (w.heap.size) (pl0) rfl rfl _ _ (hr2) (by rw [HPS.out]; kernel_rfl) (rfl) (HPA.out) ?_; intro w3 hg3 hs3 ho3 hb3))
  exact post_cell_tmp (g := w.heap.size) (t := 41) (v := .int .i64 7) rfl rfl rfl rfl hg3 Try.underlying41 rfl (by kernel_rfl) ⟨rfl, (below_then HB0.out hb12).trans (hb3 _ (Nat.le_refl _))⟩
/-- the order as it is to be -/
def rp (o : Od) (p q : Int) : Od := { o with p := p, q := q }
theorem rp_ok {o : Od} {p q : Int} (h : OkO o) (hp : F64 p) (hq : F64 q) : OkO (rp o p q) := ⟨h.n, h.a, hp, hq⟩
def plq (q : Int) : Array Value := #[.slice none 0 0, .slice none 0 0, .int .i64 0, .int .i64 q]
set_option maxRecDepth 100000 in
set_option maxHeartbeats 4000000 in
theorem repl_bb {w : World} {g gb gs base : Nat} {lb ls : List Od} {o : Od} (n p q : Int) (h : BkG w g gb gs base lb ls) (hp : F64 p) (hq : F64 q) (hg : gt n lb = some o) (hbad : okO (oa (rp o p q)) = false) :
    Calls Try.prog 16 #[.pointer (some ⟨g, 0, none⟩), .int .u64 n, .int .i64 p, .int .i64 q] w fun e w' => e = .returned (.tuple #[.agg pl0, .int .i64 2]) ∧ Below w.heap.size w w' := by
  have HFN := Lib.hid (fn_b (gb := gb) (gs := gs) (ls := ls) hg)
  have hall := (oa_ord (h.two.b.ok o (gt_mem hg))).all
  have HFZ := Lib.hid (show (oa o).size = 5 from rfl)
  have HFX := Lib.hid (extract_all HFZ.out)
  have HFA := Lib.hid hall
  have fo3 : (oa o)[3]? = some (.int .i64 o.p) := rfl
  have fo4 : (oa o)[4]? = some (.int .i64 o.q) := rfl
  have HSET := Lib.hid (show ((oa o).setIfInBounds 3 (.int .i64 p)).setIfInBounds 4 (.int .i64 q) = oa (rp o p q) from rfl)
  obtain ⟨FO, hFO⟩ : ∃ FO, FO = oa o := ⟨_, rfl⟩
  rw [← hFO] at HFN HFZ HFX HFA fo3 fo4 HSET
  have HFO := Lib.hid hFO
  clear hFO hall
  have hb0 := below_new w (Obj.cells pl0 41)
  have hr0 := heap_alloc_new w (Obj.cells pl0 41)
  have HH := Lib.hid h
  have HH1 := Lib.hid (h.kept hb0)
  have HB0 := Lib.hid hb0
  have HPS := Lib.hid (show pl0.size = 4 from rfl)
  have HPA := Lib.hid (show pl0.all (·.oneCell') = true from pl_all)
  have HZ := Lib.hid zo_size
  have HZA := Lib.hid zo_all
  clear h
  go_enter Try.func16, Try.ntmps16
  go_upto_region 8 with (first | ((with_reducible refine at_alloc 41 ?_); refine wpList_alloc_named rfl 41 rfl pl0 (by kernel_rfl) ?_) | (go_at_call 25; (with_reducible refine ((bready_yes HH1.out)).mono ?_); rintro e w1' ⟨rfl, rfl⟩) | (go_at_call 27; (with_reducible refine ((find_any n HH1.out)).mono ?_); rintro e w2 ⟨rfl, hb2⟩; rw [HFN.out.1, HFN.out.2]; have hb12 := below_alloc hb2 (Obj.cells FO 30); have hr2 := Ytmjfbilhalkegaa.kept hb12 hr0; have hx2 := heap_alloc_new w2 (Obj.cells FO 30); have hx3 := heap_up (o := Obj.cells FO 30) hx2; have c10 := cellF hx3; have f10 := (cells_of hx3).2.1) | ((with_reducible refine at_alloc 30 ?_); refine wpList_alloc_named rfl 30 rfl (zo) (by kernel_rfl) ?_) | ((with_reducible refine at_store 30 ?_); refine wpList_store_new rfl 30 _ _ rfl FO _ _ _ rfl (by simp) rfl (by rw [HFZ.out]; kernel_rfl) (by rw [HFZ.out]; rfl) HFA.out ?_) | ((with_reducible refine at_load 30 ?_); refine wpList_load_part rfl 30 _ rfl (w2.heap.size) (0) rfl _ (FO) _ _ 5 (hx2) Try.underlying30 rfl (by kernel_rfl) (by rw [HFZ.out]; omega) (FO) (HFX.out) ?_))
  have hs2 : w.heap.size + 1 ≤ w2.heap.size := by have := hb2.size; simp at this; omega
  rw [HSET.out]
  have hs3 := heap_up (o := Obj.cells FO 30) (heap_alloc_new w2 (Obj.cells (oa (rp o p q)) 30))
  have hs4 : ((w2.alloc (Obj.cells (oa (rp o p q)) 30)).alloc (Obj.cells FO 30)).heap[w2.heap.size + 1]? = some (.cells FO 30 (0, 0)) := by
    have := heap_alloc_new (w2.alloc (Obj.cells (oa (rp o p q)) 30)) (Obj.cells FO 30)
    simpa using this
  have hB5 := below_alloc (below_alloc hb2 (Obj.cells (oa (rp o p q)) 30)) (Obj.cells FO 30)
  have hs5 := Ytmjfbilhalkegaa.kept hB5 hr0
  obtain ⟨w5, hw5⟩ : ∃ w5, w5 = (w2.alloc (Obj.cells (oa (rp o p q)) 30)).alloc (Obj.cells FO 30) := ⟨_, rfl⟩
  rw [← hw5] at hs3 hs4 hs5 hB5 ⊢
  clear hw5 hx2 hx3 c10 f10 hr2 hb12 hb2
  have HB5 := Lib.hid hB5
  have HRZ := Lib.hid (show (oa (rp o p q)).size = 5 from rfl)
  have HRX := Lib.hid (extract_all HRZ.out)
  have c12 := cellF hs4
  clear hB5
  have HOK := Lib.hid hbad
  have HRO := Lib.hid (rp_ok (HH.out.two.b.ok o (gt_mem hg)) hp hq)
  clear hbad
  go_wp2_with (first | ((with_reducible refine at_load 30 ?_); refine wpList_load_part rfl 30 _ rfl (w2.heap.size) (0) rfl _ (oa (rp o p q)) _ _ 5 (hs3) Try.underlying30 rfl (by kernel_rfl) (by rw [HRZ.out]; omega) (oa (rp o p q)) (HRX.out) ?_) | (go_at_call 26; (with_reducible refine ((may_any w5 HRO.out)).mono ?_); rintro e w6 ⟨rfl, hb6⟩; rw [HOK.out]; have hr6 := Ytmjfbilhalkegaa.kept hb6 hs5; have hx6 := Ytmjfbilhalkegaa.kept hb6 hs3; have c12 := cellF (Ytmjfbilhalkegaa.kept hb6 hs4); have HB6 := Lib.hid (below_then HB0.out (below_then HB5.out hb6)); have HH6 := Lib.hid (HH.out.kept HB6.out)) | ((with_reducible refine at_build 41 ?_); refine wpList_build_named rfl 41 _ rfl pl0 (by kernel_rfl) ?_) | ((with_reducible refine at_store 41 ?_); refine wpList_store_over rfl 41 _ _ rfl (w.heap.size) (pl0) rfl rfl _ _ (hr6) (by rw [HPS.out]; kernel_rfl) (rfl) (HPA.out) ?_; intro w7 hg7 hs7 ho7 hb7))
  exact post_cell_tmp (g := w.heap.size) (t := 41) (v := .int .i64 2) rfl rfl rfl rfl hg7 Try.underlying41 rfl (by kernel_rfl) ⟨rfl, HB6.out.trans (hb7 _ (Nat.le_refl _))⟩
set_option maxRecDepth 100000 in
set_option maxHeartbeats 4000000 in
theorem repl_bs {w : World} {g gb gs base : Nat} {lb ls : List Od} {o : Od} (n p q : Int) (h : BkG w g gb gs base lb ls) (hp : F64 p) (hq : F64 q) (hn1 : gt n lb = none) (hg : gt n ls = some o) (hbad : okO (oa (rp o p q)) = false) :
    Calls Try.prog 16 #[.pointer (some ⟨g, 0, none⟩), .int .u64 n, .int .i64 p, .int .i64 q] w fun e w' => e = .returned (.tuple #[.agg pl0, .int .i64 2]) ∧ Below w.heap.size w w' := by
  have HFN := Lib.hid (fn_s (gb := gb) (gs := gs) hn1 hg)
  have hall := (oa_ord (h.two.s.ok o (gt_mem hg))).all
  have HFZ := Lib.hid (show (oa o).size = 5 from rfl)
  have HFX := Lib.hid (extract_all HFZ.out)
  have HFA := Lib.hid hall
  have fo3 : (oa o)[3]? = some (.int .i64 o.p) := rfl
  have fo4 : (oa o)[4]? = some (.int .i64 o.q) := rfl
  have HSET := Lib.hid (show ((oa o).setIfInBounds 3 (.int .i64 p)).setIfInBounds 4 (.int .i64 q) = oa (rp o p q) from rfl)
  obtain ⟨FO, hFO⟩ : ∃ FO, FO = oa o := ⟨_, rfl⟩
  rw [← hFO] at HFN HFZ HFX HFA fo3 fo4 HSET
  have HFO := Lib.hid hFO
  clear hFO hall
  have hb0 := below_new w (Obj.cells pl0 41)
  have hr0 := heap_alloc_new w (Obj.cells pl0 41)
  have HH := Lib.hid h
  have HH1 := Lib.hid (h.kept hb0)
  have HB0 := Lib.hid hb0
  have HPS := Lib.hid (show pl0.size = 4 from rfl)
  have HPA := Lib.hid (show pl0.all (·.oneCell') = true from pl_all)
  have HZ := Lib.hid zo_size
  have HZA := Lib.hid zo_all
  clear h
  go_enter Try.func16, Try.ntmps16
  go_upto_region 8 with (first | ((with_reducible refine at_alloc 41 ?_); refine wpList_alloc_named rfl 41 rfl pl0 (by kernel_rfl) ?_) | (go_at_call 25; (with_reducible refine ((bready_yes HH1.out)).mono ?_); rintro e w1' ⟨rfl, rfl⟩) | (go_at_call 27; (with_reducible refine ((find_any n HH1.out)).mono ?_); rintro e w2 ⟨rfl, hb2⟩; rw [HFN.out.1, HFN.out.2]; have hb12 := below_alloc hb2 (Obj.cells FO 30); have hr2 := Ytmjfbilhalkegaa.kept hb12 hr0; have hx2 := heap_alloc_new w2 (Obj.cells FO 30); have hx3 := heap_up (o := Obj.cells FO 30) hx2; have c10 := cellF hx3; have f10 := (cells_of hx3).2.1) | ((with_reducible refine at_alloc 30 ?_); refine wpList_alloc_named rfl 30 rfl (zo) (by kernel_rfl) ?_) | ((with_reducible refine at_store 30 ?_); refine wpList_store_new rfl 30 _ _ rfl FO _ _ _ rfl (by simp) rfl (by rw [HFZ.out]; kernel_rfl) (by rw [HFZ.out]; rfl) HFA.out ?_) | ((with_reducible refine at_load 30 ?_); refine wpList_load_part rfl 30 _ rfl (w2.heap.size) (0) rfl _ (FO) _ _ 5 (hx2) Try.underlying30 rfl (by kernel_rfl) (by rw [HFZ.out]; omega) (FO) (HFX.out) ?_))
  have hs2 : w.heap.size + 1 ≤ w2.heap.size := by have := hb2.size; simp at this; omega
  rw [HSET.out]
  have hs3 := heap_up (o := Obj.cells FO 30) (heap_alloc_new w2 (Obj.cells (oa (rp o p q)) 30))
  have hs4 : ((w2.alloc (Obj.cells (oa (rp o p q)) 30)).alloc (Obj.cells FO 30)).heap[w2.heap.size + 1]? = some (.cells FO 30 (0, 0)) := by
    have := heap_alloc_new (w2.alloc (Obj.cells (oa (rp o p q)) 30)) (Obj.cells FO 30)
    simpa using this
  have hB5 := below_alloc (below_alloc hb2 (Obj.cells (oa (rp o p q)) 30)) (Obj.cells FO 30)
  have hs5 := Ytmjfbilhalkegaa.kept hB5 hr0
  obtain ⟨w5, hw5⟩ : ∃ w5, w5 = (w2.alloc (Obj.cells (oa (rp o p q)) 30)).alloc (Obj.cells FO 30) := ⟨_, rfl⟩
  rw [← hw5] at hs3 hs4 hs5 hB5 ⊢
  clear hw5 hx2 hx3 c10 f10 hr2 hb12 hb2
  have HB5 := Lib.hid hB5
  have HRZ := Lib.hid (show (oa (rp o p q)).size = 5 from rfl)
  have HRX := Lib.hid (extract_all HRZ.out)
  have c12 := cellF hs4
  clear hB5
  have HOK := Lib.hid hbad
  have HRO := Lib.hid (rp_ok (HH.out.two.s.ok o (gt_mem hg)) hp hq)
  clear hbad
  go_wp2_with (first | ((with_reducible refine at_load 30 ?_); refine wpList_load_part rfl 30 _ rfl (w2.heap.size) (0) rfl _ (oa (rp o p q)) _ _ 5 (hs3) Try.underlying30 rfl (by kernel_rfl) (by rw [HRZ.out]; omega) (oa (rp o p q)) (HRX.out) ?_) | (go_at_call 26; (with_reducible refine ((may_any w5 HRO.out)).mono ?_); rintro e w6 ⟨rfl, hb6⟩; rw [HOK.out]; have hr6 := Ytmjfbilhalkegaa.kept hb6 hs5; have hx6 := Ytmjfbilhalkegaa.kept hb6 hs3; have c12 := cellF (Ytmjfbilhalkegaa.kept hb6 hs4); have HB6 := Lib.hid (below_then HB0.out (below_then HB5.out hb6)); have HH6 := Lib.hid (HH.out.kept HB6.out)) | ((with_reducible refine at_build 41 ?_); refine wpList_build_named rfl 41 _ rfl pl0 (by kernel_rfl) ?_) | ((with_reducible refine at_store 41 ?_); refine wpList_store_over rfl 41 _ _ rfl (w.heap.size) (pl0) rfl rfl _ _ (hr6) (by rw [HPS.out]; kernel_rfl) (rfl) (HPA.out) ?_; intro w7 hg7 hs7 ho7 hb7))
  exact post_cell_tmp (g := w.heap.size) (t := 41) (v := .int .i64 2) rfl rfl rfl rfl hg7 Try.underlying41 rfl (by kernel_rfl) ⟨rfl, HB6.out.trans (hb7 _ (Nat.le_refl _))⟩
set_option maxRecDepth 100000 in
set_option maxHeartbeats 4000000 in
theorem repl_lb {w : World} {g gb gs base : Nat} {lb ls : List Od} {o : Od} (n p q : Int) (h : BkG w g gb gs base lb ls) (hp : F64 p) (hq : F64 q) (hg : gt n lb = some o) (hok : okO (oa (rp o p q)) = true) (he : p = o.p) (hle : q ≤ o.q) :
    Calls Try.prog 16 #[.pointer (some ⟨g, 0, none⟩), .int .u64 n, .int .i64 p, .int .i64 q] w fun e w' => e = .returned (.tuple #[.agg (plq q), .int .i64 0]) ∧ BkS w w' g gb gs base (lw n q lb) ls := by
  have HFN := Lib.hid (fn_b (gb := gb) (gs := gs) (ls := ls) hg)
  have hall := (oa_ord (h.two.b.ok o (gt_mem hg))).all
  have HQ := Lib.hid (show plq q = #[.slice none 0 0, .slice none 0 0, .int .i64 0, .int .i64 q] from rfl)
  have HE := Lib.hid he
  clear he
  have HFZ := Lib.hid (show (oa o).size = 5 from rfl)
  have HFX := Lib.hid (extract_all HFZ.out)
  have HFA := Lib.hid hall
  have fo3 : (oa o)[3]? = some (.int .i64 o.p) := rfl
  have fo4 : (oa o)[4]? = some (.int .i64 o.q) := rfl
  have HSET := Lib.hid (show ((oa o).setIfInBounds 3 (.int .i64 p)).setIfInBounds 4 (.int .i64 q) = oa (rp o p q) from rfl)
  obtain ⟨FO, hFO⟩ : ∃ FO, FO = oa o := ⟨_, rfl⟩
  rw [← hFO] at HFN HFZ HFX HFA fo3 fo4 HSET
  have HFO := Lib.hid hFO
  clear hFO hall
  have hb0 := below_new w (Obj.cells pl0 41)
  have hr0 := heap_alloc_new w (Obj.cells pl0 41)
  have HH := Lib.hid h
  have HH1 := Lib.hid (h.kept hb0)
  have HB0 := Lib.hid hb0
  have HPS := Lib.hid (show pl0.size = 4 from rfl)
  have HPA := Lib.hid (show pl0.all (·.oneCell') = true from pl_all)
  have HZ := Lib.hid zo_size
  have HZA := Lib.hid zo_all
  clear h
  go_enter Try.func16, Try.ntmps16
  go_upto_region 8 with (first | ((with_reducible refine at_alloc 41 ?_); refine wpList_alloc_named rfl 41 rfl pl0 (by kernel_rfl) ?_) | (go_at_call 25; (with_reducible refine ((bready_yes HH1.out)).mono ?_); rintro e w1' ⟨rfl, rfl⟩) | (go_at_call 27; (with_reducible refine ((find_any n HH1.out)).mono ?_); rintro e w2 ⟨rfl, hb2⟩; rw [HFN.out.1, HFN.out.2]; have hb12 := below_alloc hb2 (Obj.cells FO 30); have hr2 := Ytmjfbilhalkegaa.kept hb12 hr0; have hx2 := heap_alloc_new w2 (Obj.cells FO 30); have hx3 := heap_up (o := Obj.cells FO 30) hx2; have c10 := cellF hx3; have f10 := (cells_of hx3).2.1) | ((with_reducible refine at_alloc 30 ?_); refine wpList_alloc_named rfl 30 rfl (zo) (by kernel_rfl) ?_) | ((with_reducible refine at_store 30 ?_); refine wpList_store_new rfl 30 _ _ rfl FO _ _ _ rfl (by simp) rfl (by rw [HFZ.out]; kernel_rfl) (by rw [HFZ.out]; rfl) HFA.out ?_) | ((with_reducible refine at_load 30 ?_); refine wpList_load_part rfl 30 _ rfl (w2.heap.size) (0) rfl _ (FO) _ _ 5 (hx2) Try.underlying30 rfl (by kernel_rfl) (by rw [HFZ.out]; omega) (FO) (HFX.out) ?_))
  have hs2 : w.heap.size + 1 ≤ w2.heap.size := by have := hb2.size; simp at this; omega
  rw [HSET.out]
  have hs3 := heap_up (o := Obj.cells FO 30) (heap_alloc_new w2 (Obj.cells (oa (rp o p q)) 30))
  have hs4 : ((w2.alloc (Obj.cells (oa (rp o p q)) 30)).alloc (Obj.cells FO 30)).heap[w2.heap.size + 1]? = some (.cells FO 30 (0, 0)) := by
    have := heap_alloc_new (w2.alloc (Obj.cells (oa (rp o p q)) 30)) (Obj.cells FO 30)
    simpa using this
  have hB5 := below_alloc (below_alloc hb2 (Obj.cells (oa (rp o p q)) 30)) (Obj.cells FO 30)
  have hs5 := Ytmjfbilhalkegaa.kept hB5 hr0
  obtain ⟨w5, hw5⟩ : ∃ w5, w5 = (w2.alloc (Obj.cells (oa (rp o p q)) 30)).alloc (Obj.cells FO 30) := ⟨_, rfl⟩
  rw [← hw5] at hs3 hs4 hs5 hB5 ⊢
  clear hw5 hx2 hx3 c10 f10 hr2 hb12 hb2
  have HB5 := Lib.hid hB5
  have HRZ := Lib.hid (show (oa (rp o p q)).size = 5 from rfl)
  have HRX := Lib.hid (extract_all HRZ.out)
  have c12 := cellF hs4
  clear hB5
  rw [← HE.out] at fo3
  have HOK := Lib.hid hok
  have HRO := Lib.hid (rp_ok (HH.out.two.b.ok o (gt_mem hg)) hp hq)
  have HQ1 := Lib.hid (show 1 ≤ q from (okO_q hok).1)
  clear hok
  go_wp2_with (first | ((with_reducible refine at_load 30 ?_); refine wpList_load_part rfl 30 _ rfl (w2.heap.size) (0) rfl _ (oa (rp o p q)) _ _ 5 (hs3) Try.underlying30 rfl (by kernel_rfl) (by rw [HRZ.out]; omega) (oa (rp o p q)) (HRX.out) ?_) | (go_at_call 26; (with_reducible refine ((may_any w5 HRO.out)).mono ?_); rintro e w6 ⟨rfl, hb6⟩; rw [HOK.out]; have hr6 := Ytmjfbilhalkegaa.kept hb6 hs5; have hx6 := Ytmjfbilhalkegaa.kept hb6 hs3; have c12 := cellF (Ytmjfbilhalkegaa.kept hb6 hs4); have HB6 := Lib.hid (below_then HB0.out (below_then HB5.out hb6)); have HH6 := Lib.hid (HH.out.kept HB6.out)) | ((with_reducible refine at_build 41 ?_); refine wpList_build_named rfl 41 _ rfl (plq q) (by kernel_rfl) ?_) | (go_at_call 32; (with_reducible refine ((lower_in n q HH6.out.two.b hg HQ1.out hle)).mono ?_); rintro e w7 ⟨rfl, hsk⟩; have HFB := Lib.hid (fin_box HH.out HB6.out hr6 (bks_buy HH6.out hsk)); have hr7 := HFB.out.1; clear hsk) | ((with_reducible refine at_store 41 ?_); refine wpList_store_over rfl 41 _ _ rfl (w.heap.size) (plq q) rfl rfl _ _ (hr7) (by kernel_rfl) (rfl) (pl_all) ?_; intro w8 hg8 hs8 ho8 hb8))
  exact post_cell_tmp (g := w.heap.size) (t := 41) (v := .int .i64 0) rfl rfl rfl rfl hg8 Try.underlying41 rfl (by kernel_rfl) ⟨rfl, HFB.out.2 _ ho8 hb8⟩
set_option maxRecDepth 100000 in
set_option maxHeartbeats 4000000 in
theorem repl_ls {w : World} {g gb gs base : Nat} {lb ls : List Od} {o : Od} (n p q : Int) (h : BkG w g gb gs base lb ls) (hp : F64 p) (hq : F64 q) (hn1 : gt n lb = none) (hg : gt n ls = some o) (hok : okO (oa (rp o p q)) = true) (he : p = o.p) (hle : q ≤ o.q) :
    Calls Try.prog 16 #[.pointer (some ⟨g, 0, none⟩), .int .u64 n, .int .i64 p, .int .i64 q] w fun e w' => e = .returned (.tuple #[.agg (plq q), .int .i64 0]) ∧ BkS w w' g gb gs base lb (lw n q ls) := by
  have HFN := Lib.hid (fn_s (gb := gb) (gs := gs) hn1 hg)
  have hall := (oa_ord (h.two.s.ok o (gt_mem hg))).all
  have HQ := Lib.hid (show plq q = #[.slice none 0 0, .slice none 0 0, .int .i64 0, .int .i64 q] from rfl)
  have HE := Lib.hid he
  clear he
  have HFZ := Lib.hid (show (oa o).size = 5 from rfl)
  have HFX := Lib.hid (extract_all HFZ.out)
  have HFA := Lib.hid hall
  have fo3 : (oa o)[3]? = some (.int .i64 o.p) := rfl
  have fo4 : (oa o)[4]? = some (.int .i64 o.q) := rfl
  have HSET := Lib.hid (show ((oa o).setIfInBounds 3 (.int .i64 p)).setIfInBounds 4 (.int .i64 q) = oa (rp o p q) from rfl)
  obtain ⟨FO, hFO⟩ : ∃ FO, FO = oa o := ⟨_, rfl⟩
  rw [← hFO] at HFN HFZ HFX HFA fo3 fo4 HSET
  have HFO := Lib.hid hFO
  clear hFO hall
  have hb0 := below_new w (Obj.cells pl0 41)
  have hr0 := heap_alloc_new w (Obj.cells pl0 41)
  have HH := Lib.hid h
  have HH1 := Lib.hid (h.kept hb0)
  have HB0 := Lib.hid hb0
  have HPS := Lib.hid (show pl0.size = 4 from rfl)
  have HPA := Lib.hid (show pl0.all (·.oneCell') = true from pl_all)
  have HZ := Lib.hid zo_size
  have HZA := Lib.hid zo_all
  clear h
  go_enter Try.func16, Try.ntmps16
  go_upto_region 8 with (first | ((with_reducible refine at_alloc 41 ?_); refine wpList_alloc_named rfl 41 rfl pl0 (by kernel_rfl) ?_) | (go_at_call 25; (with_reducible refine ((bready_yes HH1.out)).mono ?_); rintro e w1' ⟨rfl, rfl⟩) | (go_at_call 27; (with_reducible refine ((find_any n HH1.out)).mono ?_); rintro e w2 ⟨rfl, hb2⟩; rw [HFN.out.1, HFN.out.2]; have hb12 := below_alloc hb2 (Obj.cells FO 30); have hr2 := Ytmjfbilhalkegaa.kept hb12 hr0; have hx2 := heap_alloc_new w2 (Obj.cells FO 30); have hx3 := heap_up (o := Obj.cells FO 30) hx2; have c10 := cellF hx3; have f10 := (cells_of hx3).2.1) | ((with_reducible refine at_alloc 30 ?_); refine wpList_alloc_named rfl 30 rfl (zo) (by kernel_rfl) ?_) | ((with_reducible refine at_store 30 ?_); refine wpList_store_new rfl 30 _ _ rfl FO _ _ _ rfl (by simp) rfl (by rw [HFZ.out]; kernel_rfl) (by rw [HFZ.out]; rfl) HFA.out ?_) | ((with_reducible refine at_load 30 ?_); refine wpList_load_part rfl 30 _ rfl (w2.heap.size) (0) rfl _ (FO) _ _ 5 (hx2) Try.underlying30 rfl (by kernel_rfl) (by rw [HFZ.out]; omega) (FO) (HFX.out) ?_))
  have hs2 : w.heap.size + 1 ≤ w2.heap.size := by have := hb2.size; simp at this; omega
  rw [HSET.out]
  have hs3 := heap_up (o := Obj.cells FO 30) (heap_alloc_new w2 (Obj.cells (oa (rp o p q)) 30))
  have hs4 : ((w2.alloc (Obj.cells (oa (rp o p q)) 30)).alloc (Obj.cells FO 30)).heap[w2.heap.size + 1]? = some (.cells FO 30 (0, 0)) := by
    have := heap_alloc_new (w2.alloc (Obj.cells (oa (rp o p q)) 30)) (Obj.cells FO 30)
    simpa using this
  have hB5 := below_alloc (below_alloc hb2 (Obj.cells (oa (rp o p q)) 30)) (Obj.cells FO 30)
  have hs5 := Ytmjfbilhalkegaa.kept hB5 hr0
  obtain ⟨w5, hw5⟩ : ∃ w5, w5 = (w2.alloc (Obj.cells (oa (rp o p q)) 30)).alloc (Obj.cells FO 30) := ⟨_, rfl⟩
  rw [← hw5] at hs3 hs4 hs5 hB5 ⊢
  clear hw5 hx2 hx3 c10 f10 hr2 hb12 hb2
  have HB5 := Lib.hid hB5
  have HRZ := Lib.hid (show (oa (rp o p q)).size = 5 from rfl)
  have HRX := Lib.hid (extract_all HRZ.out)
  have c12 := cellF hs4
  clear hB5
  rw [← HE.out] at fo3
  have HOK := Lib.hid hok
  have HRO := Lib.hid (rp_ok (HH.out.two.s.ok o (gt_mem hg)) hp hq)
  have HQ1 := Lib.hid (show 1 ≤ q from (okO_q hok).1)
  clear hok
  go_wp2_with (first | ((with_reducible refine at_load 30 ?_); refine wpList_load_part rfl 30 _ rfl (w2.heap.size) (0) rfl _ (oa (rp o p q)) _ _ 5 (hs3) Try.underlying30 rfl (by kernel_rfl) (by rw [HRZ.out]; omega) (oa (rp o p q)) (HRX.out) ?_) | (go_at_call 26; (with_reducible refine ((may_any w5 HRO.out)).mono ?_); rintro e w6 ⟨rfl, hb6⟩; rw [HOK.out]; have hr6 := Ytmjfbilhalkegaa.kept hb6 hs5; have hx6 := Ytmjfbilhalkegaa.kept hb6 hs3; have c12 := cellF (Ytmjfbilhalkegaa.kept hb6 hs4); have HB6 := Lib.hid (below_then HB0.out (below_then HB5.out hb6)); have HH6 := Lib.hid (HH.out.kept HB6.out)) | ((with_reducible refine at_build 41 ?_); refine wpList_build_named rfl 41 _ rfl (plq q) (by kernel_rfl) ?_) | (go_at_call 32; (with_reducible refine ((lower_in n q HH6.out.two.s hg HQ1.out hle)).mono ?_); rintro e w7 ⟨rfl, hsk⟩; have HFB := Lib.hid (fin_box HH.out HB6.out hr6 (bks_sell HH6.out hsk)); have hr7 := HFB.out.1; clear hsk) | ((with_reducible refine at_store 41 ?_); refine wpList_store_over rfl 41 _ _ rfl (w.heap.size) (plq q) rfl rfl _ _ (hr7) (by kernel_rfl) (rfl) (pl_all) ?_; intro w8 hg8 hs8 ho8 hb8))
  exact post_cell_tmp (g := w.heap.size) (t := 41) (v := .int .i64 0) rfl rfl rfl rfl hg8 Try.underlying41 rfl (by kernel_rfl) ⟨rfl, HFB.out.2 _ ho8 hb8⟩
/-- a replaced order that came anew -/
structure Rpl (w w' : World) (e : Ending) (g gb gs base : Nat) (M : Met) (lb ls : List Od) : Prop where
  ex : ∃ vt vg : Value, e = .returned (.tuple #[.agg #[vt, vg, .int .i64 M.filled, .int .i64 (lft true M.left)], .int .i64 0]) ∧
    w'.ownsRow w.heap.size 46 4 vt M.tr.length (flat (fun i => ta (trs M.tr i)) M.tr.length) ∧ w'.ownsRow w.heap.size 27 1 vg M.gone.length (M.gone.map (Value.int .u64))
  bs : BkS w w' g gb gs base lb ls
theorem keep_box {w W2 w3 : World} {g gb gs base q : Nat} {lb ls lb2 ls2 : List Od} {o0 : Obj} (h : BkG w g gb gs base lb ls) (hB : Below w.heap.size w W2) (hq : w.heap.size ≤ q) (hr2 : W2.heap[q]? = some o0) (hs : BkS W2 w3 g gb gs base lb2 ls2) : w3.heap[q]? = some o0 := by
  obtain ⟨vb, h1, _⟩ := h.two.b.s.row
  obtain ⟨vs, h2, _⟩ := h.two.s.s.row
  have l1 := (Array.getElem?_eq_some_iff.1 h1).1
  have l2 := (Array.getElem?_eq_some_iff.1 h2).1
  exact (hs.fr q o0 (Array.getElem?_eq_some_iff.1 hr2).1 hr2 (by omega) (by omega) (nb_new h.two.b hq hB) (nb_new h.two.s hq hB)).1
set_option maxRecDepth 100000 in
set_option maxHeartbeats 8000000 in
theorem repl_nb {w : World} {g gb gs base : Nat} {lb ls : List Od} {o : Od} (n p q : Int) (h : BkG w g gb gs base lb ls) (hp : F64 p) (hq : F64 q) (hg : gt n lb = some o) (hbf : o.b = true) (hgd : Good ls) (hdn : gt o.n (del n lb) = none) (hlen : (del n lb).length < 100) (hok : okO (oa (rp o p q)) = true) (hne : ¬ (p = o.p ∧ q ≤ o.q)) :
    Calls Try.prog 16 #[.pointer (some ⟨g, 0, none⟩), .int .u64 n, .int .i64 p, .int .i64 q] w fun e w' => Rpl w w' e g gb gs base (meet (rp o p q) (rp o p q).q ls) (rst true (rp o p q) (meet (rp o p q) (rp o p q).q ls).left (del n lb)) (meet (rp o p q) (rp o p q).q ls).rest := by
  have HFN := Lib.hid (fn_b (gb := gb) (gs := gs) (ls := ls) hg)
  have hall := (oa_ord (h.two.b.ok o (gt_mem hg))).all
  have HNE := Lib.hid hne
  have HBF := Lib.hid (show (rp o p q).b = true from hbf)
  have HG1 := Lib.hid (show gb = if (rp o p q).b then gb else gs from by rw [HBF.out]; rfl)
  have HG2 := Lib.hid (show gs = if (rp o p q).b then gs else gb from by rw [HBF.out]; rfl)
  have HL1 := Lib.hid (show del n lb = if (rp o p q).b then del n lb else ls from by rw [HBF.out]; rfl)
  have HL2 := Lib.hid (show ls = if (rp o p q).b then ls else del n lb from by rw [HBF.out]; rfl)
  have HGD := Lib.hid (show ∀ x, x ∈ ls → okO (oa x) = true from hgd)
  have HDN := Lib.hid (show gt (rp o p q).n (del n lb) = none from hdn)
  have HROOM : Rm true (rp o p q) (del n lb) ls := ⟨fun _ _ => hlen⟩
  clear hne hbf hgd hdn hlen
  by_cases he : p = o.p
  · have hlq : ¬ q ≤ o.q := fun e => HNE.out ⟨he, e⟩
    have HE := Lib.hid he
    clear he
    have HFZ := Lib.hid (show (oa o).size = 5 from rfl)
    have HFX := Lib.hid (extract_all HFZ.out)
    have HFA := Lib.hid hall
    have fo3 : (oa o)[3]? = some (.int .i64 o.p) := rfl
    have fo4 : (oa o)[4]? = some (.int .i64 o.q) := rfl
    have HSET := Lib.hid (show ((oa o).setIfInBounds 3 (.int .i64 p)).setIfInBounds 4 (.int .i64 q) = oa (rp o p q) from rfl)
    obtain ⟨FO, hFO⟩ : ∃ FO, FO = oa o := ⟨_, rfl⟩
    rw [← hFO] at HFN HFZ HFX HFA fo3 fo4 HSET
    have HFO := Lib.hid hFO
    clear hFO hall
    have hb0 := below_new w (Obj.cells pl0 41)
    have hr0 := heap_alloc_new w (Obj.cells pl0 41)
    have HH := Lib.hid h
    have HH1 := Lib.hid (h.kept hb0)
    have HB0 := Lib.hid hb0
    have HPS := Lib.hid (show pl0.size = 4 from rfl)
    have HPA := Lib.hid (show pl0.all (·.oneCell') = true from pl_all)
    have HZ := Lib.hid zo_size
    have HZA := Lib.hid zo_all
    clear h
    go_enter Try.func16, Try.ntmps16
    go_upto_region 8 with (first | ((with_reducible refine at_alloc 41 ?_); refine wpList_alloc_named rfl 41 rfl pl0 (by kernel_rfl) ?_) | (go_at_call 25; (with_reducible refine ((bready_yes HH1.out)).mono ?_); rintro e w1' ⟨rfl, rfl⟩) | (go_at_call 27; (with_reducible refine ((find_any n HH1.out)).mono ?_); rintro e w2 ⟨rfl, hb2⟩; rw [HFN.out.1, HFN.out.2]; have hb12 := below_alloc hb2 (Obj.cells FO 30); have hr2 := Ytmjfbilhalkegaa.kept hb12 hr0; have hx2 := heap_alloc_new w2 (Obj.cells FO 30); have hx3 := heap_up (o := Obj.cells FO 30) hx2; have c10 := cellF hx3; have f10 := (cells_of hx3).2.1) | ((with_reducible refine at_alloc 30 ?_); refine wpList_alloc_named rfl 30 rfl (zo) (by kernel_rfl) ?_) | ((with_reducible refine at_store 30 ?_); refine wpList_store_new rfl 30 _ _ rfl FO _ _ _ rfl (by simp) rfl (by rw [HFZ.out]; kernel_rfl) (by rw [HFZ.out]; rfl) HFA.out ?_) | ((with_reducible refine at_load 30 ?_); refine wpList_load_part rfl 30 _ rfl (w2.heap.size) (0) rfl _ (FO) _ _ 5 (hx2) Try.underlying30 rfl (by kernel_rfl) (by rw [HFZ.out]; omega) (FO) (HFX.out) ?_))
    have hs2 : w.heap.size + 1 ≤ w2.heap.size := by have := hb2.size; simp at this; omega
    rw [HSET.out]
    have hs3 := heap_up (o := Obj.cells FO 30) (heap_alloc_new w2 (Obj.cells (oa (rp o p q)) 30))
    have hs4 : ((w2.alloc (Obj.cells (oa (rp o p q)) 30)).alloc (Obj.cells FO 30)).heap[w2.heap.size + 1]? = some (.cells FO 30 (0, 0)) := by
      have := heap_alloc_new (w2.alloc (Obj.cells (oa (rp o p q)) 30)) (Obj.cells FO 30)
      simpa using this
    have hB5 := below_alloc (below_alloc hb2 (Obj.cells (oa (rp o p q)) 30)) (Obj.cells FO 30)
    have hs5 := Ytmjfbilhalkegaa.kept hB5 hr0
    obtain ⟨w5, hw5⟩ : ∃ w5, w5 = (w2.alloc (Obj.cells (oa (rp o p q)) 30)).alloc (Obj.cells FO 30) := ⟨_, rfl⟩
    rw [← hw5] at hs3 hs4 hs5 hB5 ⊢
    clear hw5 hx2 hx3 c10 f10 hr2 hb12 hb2
    have HB5 := Lib.hid hB5
    have HRZ := Lib.hid (show (oa (rp o p q)).size = 5 from rfl)
    have HRX := Lib.hid (extract_all HRZ.out)
    have c12 := cellF hs4
    clear hB5
    rw [← HE.out] at fo3
    have HOK := Lib.hid hok
    have HRO := Lib.hid (rp_ok (HH.out.two.b.ok o (gt_mem hg)) hp hq)
    clear hok
    go_wp2_with (first | ((with_reducible refine at_load 30 ?_); refine wpList_load_part rfl 30 _ rfl (w2.heap.size) (0) rfl _ (oa (rp o p q)) _ _ 5 (hs3) Try.underlying30 rfl (by kernel_rfl) (by rw [HRZ.out]; omega) (oa (rp o p q)) (HRX.out) ?_) | (go_at_call 26; (with_reducible refine ((may_any w5 HRO.out)).mono ?_); rintro e w6 ⟨rfl, hb6⟩; rw [HOK.out]; have hr6 := Ytmjfbilhalkegaa.kept hb6 hs5; have hx6 := Ytmjfbilhalkegaa.kept hb6 hs3; have c12 := cellF (Ytmjfbilhalkegaa.kept hb6 hs4); have HB6 := Lib.hid (below_then HB0.out (below_then HB5.out hb6)); have HH6 := Lib.hid (HH.out.kept HB6.out)) | (go_at_call 33; (with_reducible refine ((drop_in n HH6.out.two.b hg)).mono ?_); rintro e w7 ⟨rfl, hsk⟩; have HB7 := Lib.hid (bks_buy HH6.out hsk); have hs67 := hsk.be.size; have hx7 := keep_box HH.out HB6.out (by omega) hx6 HB7.out; clear hsk) | ((with_reducible refine at_load 30 ?_); refine wpList_load_part rfl 30 _ rfl (w2.heap.size) (0) rfl _ (oa (rp o p q)) _ _ 5 (hx7) Try.underlying30 rfl (by kernel_rfl) (by rw [HRZ.out]; omega) (oa (rp o p q)) (HRX.out) ?_) | (go_at_call 31; (with_reducible refine ((come_any (l1 := del n lb) (l2 := ls) (g1 := gb) (g2 := gs) (rp o p q) _ HB7.out.bk HG1.out HG2.out HL1.out HL2.out HRO.out HOK.out HGD.out HDN.out HROOM.out)).mono ?_); rintro e w8 ⟨vt, vg, rfl, htx, hbk, hrt, hrg, hbe, hfr⟩; obtain ⟨av, ac, rfl⟩ := own_formB hrt; obtain ⟨bv, bc, rfl⟩ := own_formB hrg; rw [HBF.out] at htx hfr; have HB8 := Lib.hid (HB7.out.trans hs67 (⟨⟨hbk, htx.tw, HH.out.bg⟩, hbe, hfr⟩ : BkS w7 w8 g gb gs base (rst true (rp o p q) (meet (rp o p q) (rp o p q).q ls).left (del n lb)) (meet (rp o p q) (rp o p q).q ls).rest)); have HFB := Lib.hid (fin_box HH.out HB6.out hr6 HB8.out); have hr8 := HFB.out.1; clear htx hfr hbk) | ((with_reducible refine at_store 41 ?_); refine wpList_store_over rfl 41 _ _ rfl (w.heap.size) (_) rfl rfl _ _ (hr8) (by kernel_rfl) (rfl) (pl_all) ?_; intro w9 hg9 hs9 ho9 hb9))
    have hs07 : w.heap.size ≤ w7.heap.size := by have := HB6.out.size; omega
    exact post_cell_tmp (g := w.heap.size) (t := 41) (v := .int .i64 0) rfl rfl rfl rfl hg9 Try.underlying41 rfl (by kernel_rfl) ⟨⟨_, _, rfl, own_sameT (Go.Joins.ownsRow_le hrt hs07) (fun q A _ hq => off_ty hr8 ho9 hq (by decide)), own_sameT (Go.Joins.ownsRow_le hrg hs07) (fun q A _ hq => off_ty hr8 ho9 hq (by decide))⟩, HFB.out.2 _ ho9 hb9⟩
  · have HFZ := Lib.hid (show (oa o).size = 5 from rfl)
    have HFX := Lib.hid (extract_all HFZ.out)
    have HFA := Lib.hid hall
    have fo3 : (oa o)[3]? = some (.int .i64 o.p) := rfl
    have fo4 : (oa o)[4]? = some (.int .i64 o.q) := rfl
    have HSET := Lib.hid (show ((oa o).setIfInBounds 3 (.int .i64 p)).setIfInBounds 4 (.int .i64 q) = oa (rp o p q) from rfl)
    obtain ⟨FO, hFO⟩ : ∃ FO, FO = oa o := ⟨_, rfl⟩
    rw [← hFO] at HFN HFZ HFX HFA fo3 fo4 HSET
    have HFO := Lib.hid hFO
    clear hFO hall
    have hb0 := below_new w (Obj.cells pl0 41)
    have hr0 := heap_alloc_new w (Obj.cells pl0 41)
    have HH := Lib.hid h
    have HH1 := Lib.hid (h.kept hb0)
    have HB0 := Lib.hid hb0
    have HPS := Lib.hid (show pl0.size = 4 from rfl)
    have HPA := Lib.hid (show pl0.all (·.oneCell') = true from pl_all)
    have HZ := Lib.hid zo_size
    have HZA := Lib.hid zo_all
    clear h
    go_enter Try.func16, Try.ntmps16
    go_upto_region 8 with (first | ((with_reducible refine at_alloc 41 ?_); refine wpList_alloc_named rfl 41 rfl pl0 (by kernel_rfl) ?_) | (go_at_call 25; (with_reducible refine ((bready_yes HH1.out)).mono ?_); rintro e w1' ⟨rfl, rfl⟩) | (go_at_call 27; (with_reducible refine ((find_any n HH1.out)).mono ?_); rintro e w2 ⟨rfl, hb2⟩; rw [HFN.out.1, HFN.out.2]; have hb12 := below_alloc hb2 (Obj.cells FO 30); have hr2 := Ytmjfbilhalkegaa.kept hb12 hr0; have hx2 := heap_alloc_new w2 (Obj.cells FO 30); have hx3 := heap_up (o := Obj.cells FO 30) hx2; have c10 := cellF hx3; have f10 := (cells_of hx3).2.1) | ((with_reducible refine at_alloc 30 ?_); refine wpList_alloc_named rfl 30 rfl (zo) (by kernel_rfl) ?_) | ((with_reducible refine at_store 30 ?_); refine wpList_store_new rfl 30 _ _ rfl FO _ _ _ rfl (by simp) rfl (by rw [HFZ.out]; kernel_rfl) (by rw [HFZ.out]; rfl) HFA.out ?_) | ((with_reducible refine at_load 30 ?_); refine wpList_load_part rfl 30 _ rfl (w2.heap.size) (0) rfl _ (FO) _ _ 5 (hx2) Try.underlying30 rfl (by kernel_rfl) (by rw [HFZ.out]; omega) (FO) (HFX.out) ?_))
    have hs2 : w.heap.size + 1 ≤ w2.heap.size := by have := hb2.size; simp at this; omega
    rw [HSET.out]
    have hs3 := heap_up (o := Obj.cells FO 30) (heap_alloc_new w2 (Obj.cells (oa (rp o p q)) 30))
    have hs4 : ((w2.alloc (Obj.cells (oa (rp o p q)) 30)).alloc (Obj.cells FO 30)).heap[w2.heap.size + 1]? = some (.cells FO 30 (0, 0)) := by
      have := heap_alloc_new (w2.alloc (Obj.cells (oa (rp o p q)) 30)) (Obj.cells FO 30)
      simpa using this
    have hB5 := below_alloc (below_alloc hb2 (Obj.cells (oa (rp o p q)) 30)) (Obj.cells FO 30)
    have hs5 := Ytmjfbilhalkegaa.kept hB5 hr0
    obtain ⟨w5, hw5⟩ : ∃ w5, w5 = (w2.alloc (Obj.cells (oa (rp o p q)) 30)).alloc (Obj.cells FO 30) := ⟨_, rfl⟩
    rw [← hw5] at hs3 hs4 hs5 hB5 ⊢
    clear hw5 hx2 hx3 c10 f10 hr2 hb12 hb2
    have HB5 := Lib.hid hB5
    have HRZ := Lib.hid (show (oa (rp o p q)).size = 5 from rfl)
    have HRX := Lib.hid (extract_all HRZ.out)
    have c12 := cellF hs4
    clear hB5
    have HOK := Lib.hid hok
    have HRO := Lib.hid (rp_ok (HH.out.two.b.ok o (gt_mem hg)) hp hq)
    clear hok
    go_wp2_with (first | ((with_reducible refine at_load 30 ?_); refine wpList_load_part rfl 30 _ rfl (w2.heap.size) (0) rfl _ (oa (rp o p q)) _ _ 5 (hs3) Try.underlying30 rfl (by kernel_rfl) (by rw [HRZ.out]; omega) (oa (rp o p q)) (HRX.out) ?_) | (go_at_call 26; (with_reducible refine ((may_any w5 HRO.out)).mono ?_); rintro e w6 ⟨rfl, hb6⟩; rw [HOK.out]; have hr6 := Ytmjfbilhalkegaa.kept hb6 hs5; have hx6 := Ytmjfbilhalkegaa.kept hb6 hs3; have c12 := cellF (Ytmjfbilhalkegaa.kept hb6 hs4); have HB6 := Lib.hid (below_then HB0.out (below_then HB5.out hb6)); have HH6 := Lib.hid (HH.out.kept HB6.out)) | (go_at_call 33; (with_reducible refine ((drop_in n HH6.out.two.b hg)).mono ?_); rintro e w7 ⟨rfl, hsk⟩; have HB7 := Lib.hid (bks_buy HH6.out hsk); have hs67 := hsk.be.size; have hx7 := keep_box HH.out HB6.out (by omega) hx6 HB7.out; clear hsk) | ((with_reducible refine at_load 30 ?_); refine wpList_load_part rfl 30 _ rfl (w2.heap.size) (0) rfl _ (oa (rp o p q)) _ _ 5 (hx7) Try.underlying30 rfl (by kernel_rfl) (by rw [HRZ.out]; omega) (oa (rp o p q)) (HRX.out) ?_) | (go_at_call 31; (with_reducible refine ((come_any (l1 := del n lb) (l2 := ls) (g1 := gb) (g2 := gs) (rp o p q) _ HB7.out.bk HG1.out HG2.out HL1.out HL2.out HRO.out HOK.out HGD.out HDN.out HROOM.out)).mono ?_); rintro e w8 ⟨vt, vg, rfl, htx, hbk, hrt, hrg, hbe, hfr⟩; obtain ⟨av, ac, rfl⟩ := own_formB hrt; obtain ⟨bv, bc, rfl⟩ := own_formB hrg; rw [HBF.out] at htx hfr; have HB8 := Lib.hid (HB7.out.trans hs67 (⟨⟨hbk, htx.tw, HH.out.bg⟩, hbe, hfr⟩ : BkS w7 w8 g gb gs base (rst true (rp o p q) (meet (rp o p q) (rp o p q).q ls).left (del n lb)) (meet (rp o p q) (rp o p q).q ls).rest)); have HFB := Lib.hid (fin_box HH.out HB6.out hr6 HB8.out); have hr8 := HFB.out.1; clear htx hfr hbk) | ((with_reducible refine at_store 41 ?_); refine wpList_store_over rfl 41 _ _ rfl (w.heap.size) (_) rfl rfl _ _ (hr8) (by kernel_rfl) (rfl) (pl_all) ?_; intro w9 hg9 hs9 ho9 hb9))
    have hs07 : w.heap.size ≤ w7.heap.size := by have := HB6.out.size; omega
    exact post_cell_tmp (g := w.heap.size) (t := 41) (v := .int .i64 0) rfl rfl rfl rfl hg9 Try.underlying41 rfl (by kernel_rfl) ⟨⟨_, _, rfl, own_sameT (Go.Joins.ownsRow_le hrt hs07) (fun q A _ hq => off_ty hr8 ho9 hq (by decide)), own_sameT (Go.Joins.ownsRow_le hrg hs07) (fun q A _ hq => off_ty hr8 ho9 hq (by decide))⟩, HFB.out.2 _ ho9 hb9⟩
set_option maxRecDepth 100000 in
set_option maxHeartbeats 8000000 in
theorem repl_ns {w : World} {g gb gs base : Nat} {lb ls : List Od} {o : Od} (n p q : Int) (h : BkG w g gb gs base lb ls) (hp : F64 p) (hq : F64 q) (hn1 : gt n lb = none) (hg : gt n ls = some o) (hbf : o.b = false) (hgd : Good lb) (hdn : gt o.n (del n ls) = none) (hlen : (del n ls).length < 100) (hok : okO (oa (rp o p q)) = true) (hne : ¬ (p = o.p ∧ q ≤ o.q)) :
    Calls Try.prog 16 #[.pointer (some ⟨g, 0, none⟩), .int .u64 n, .int .i64 p, .int .i64 q] w fun e w' => Rpl w w' e g gb gs base (meet (rp o p q) (rp o p q).q lb) (meet (rp o p q) (rp o p q).q lb).rest (rst true (rp o p q) (meet (rp o p q) (rp o p q).q lb).left (del n ls)) := by
  have HFN := Lib.hid (fn_s (gb := gb) (gs := gs) hn1 hg)
  have hall := (oa_ord (h.two.s.ok o (gt_mem hg))).all
  have HNE := Lib.hid hne
  have HBF := Lib.hid (show (rp o p q).b = false from hbf)
  have HG1 := Lib.hid (show gs = if (rp o p q).b then gb else gs from by rw [HBF.out]; rfl)
  have HG2 := Lib.hid (show gb = if (rp o p q).b then gs else gb from by rw [HBF.out]; rfl)
  have HL1 := Lib.hid (show del n ls = if (rp o p q).b then lb else del n ls from by rw [HBF.out]; rfl)
  have HL2 := Lib.hid (show lb = if (rp o p q).b then del n ls else lb from by rw [HBF.out]; rfl)
  have HGD := Lib.hid (show ∀ x, x ∈ lb → okO (oa x) = true from hgd)
  have HDN := Lib.hid (show gt (rp o p q).n (del n ls) = none from hdn)
  have HROOM : Rm true (rp o p q) (del n ls) lb := ⟨fun _ _ => hlen⟩
  clear hne hbf hgd hdn hlen
  by_cases he : p = o.p
  · have hlq : ¬ q ≤ o.q := fun e => HNE.out ⟨he, e⟩
    have HE := Lib.hid he
    clear he
    have HFZ := Lib.hid (show (oa o).size = 5 from rfl)
    have HFX := Lib.hid (extract_all HFZ.out)
    have HFA := Lib.hid hall
    have fo3 : (oa o)[3]? = some (.int .i64 o.p) := rfl
    have fo4 : (oa o)[4]? = some (.int .i64 o.q) := rfl
    have HSET := Lib.hid (show ((oa o).setIfInBounds 3 (.int .i64 p)).setIfInBounds 4 (.int .i64 q) = oa (rp o p q) from rfl)
    obtain ⟨FO, hFO⟩ : ∃ FO, FO = oa o := ⟨_, rfl⟩
    rw [← hFO] at HFN HFZ HFX HFA fo3 fo4 HSET
    have HFO := Lib.hid hFO
    clear hFO hall
    have hb0 := below_new w (Obj.cells pl0 41)
    have hr0 := heap_alloc_new w (Obj.cells pl0 41)
    have HH := Lib.hid h
    have HH1 := Lib.hid (h.kept hb0)
    have HB0 := Lib.hid hb0
    have HPS := Lib.hid (show pl0.size = 4 from rfl)
    have HPA := Lib.hid (show pl0.all (·.oneCell') = true from pl_all)
    have HZ := Lib.hid zo_size
    have HZA := Lib.hid zo_all
    clear h
    go_enter Try.func16, Try.ntmps16
    go_upto_region 8 with (first | ((with_reducible refine at_alloc 41 ?_); refine wpList_alloc_named rfl 41 rfl pl0 (by kernel_rfl) ?_) | (go_at_call 25; (with_reducible refine ((bready_yes HH1.out)).mono ?_); rintro e w1' ⟨rfl, rfl⟩) | (go_at_call 27; (with_reducible refine ((find_any n HH1.out)).mono ?_); rintro e w2 ⟨rfl, hb2⟩; rw [HFN.out.1, HFN.out.2]; have hb12 := below_alloc hb2 (Obj.cells FO 30); have hr2 := Ytmjfbilhalkegaa.kept hb12 hr0; have hx2 := heap_alloc_new w2 (Obj.cells FO 30); have hx3 := heap_up (o := Obj.cells FO 30) hx2; have c10 := cellF hx3; have f10 := (cells_of hx3).2.1) | ((with_reducible refine at_alloc 30 ?_); refine wpList_alloc_named rfl 30 rfl (zo) (by kernel_rfl) ?_) | ((with_reducible refine at_store 30 ?_); refine wpList_store_new rfl 30 _ _ rfl FO _ _ _ rfl (by simp) rfl (by rw [HFZ.out]; kernel_rfl) (by rw [HFZ.out]; rfl) HFA.out ?_) | ((with_reducible refine at_load 30 ?_); refine wpList_load_part rfl 30 _ rfl (w2.heap.size) (0) rfl _ (FO) _ _ 5 (hx2) Try.underlying30 rfl (by kernel_rfl) (by rw [HFZ.out]; omega) (FO) (HFX.out) ?_))
    have hs2 : w.heap.size + 1 ≤ w2.heap.size := by have := hb2.size; simp at this; omega
    rw [HSET.out]
    have hs3 := heap_up (o := Obj.cells FO 30) (heap_alloc_new w2 (Obj.cells (oa (rp o p q)) 30))
    have hs4 : ((w2.alloc (Obj.cells (oa (rp o p q)) 30)).alloc (Obj.cells FO 30)).heap[w2.heap.size + 1]? = some (.cells FO 30 (0, 0)) := by
      have := heap_alloc_new (w2.alloc (Obj.cells (oa (rp o p q)) 30)) (Obj.cells FO 30)
      simpa using this
    have hB5 := below_alloc (below_alloc hb2 (Obj.cells (oa (rp o p q)) 30)) (Obj.cells FO 30)
    have hs5 := Ytmjfbilhalkegaa.kept hB5 hr0
    obtain ⟨w5, hw5⟩ : ∃ w5, w5 = (w2.alloc (Obj.cells (oa (rp o p q)) 30)).alloc (Obj.cells FO 30) := ⟨_, rfl⟩
    rw [← hw5] at hs3 hs4 hs5 hB5 ⊢
    clear hw5 hx2 hx3 c10 f10 hr2 hb12 hb2
    have HB5 := Lib.hid hB5
    have HRZ := Lib.hid (show (oa (rp o p q)).size = 5 from rfl)
    have HRX := Lib.hid (extract_all HRZ.out)
    have c12 := cellF hs4
    clear hB5
    rw [← HE.out] at fo3
    have HOK := Lib.hid hok
    have HRO := Lib.hid (rp_ok (HH.out.two.s.ok o (gt_mem hg)) hp hq)
    clear hok
    go_wp2_with (first | ((with_reducible refine at_load 30 ?_); refine wpList_load_part rfl 30 _ rfl (w2.heap.size) (0) rfl _ (oa (rp o p q)) _ _ 5 (hs3) Try.underlying30 rfl (by kernel_rfl) (by rw [HRZ.out]; omega) (oa (rp o p q)) (HRX.out) ?_) | (go_at_call 26; (with_reducible refine ((may_any w5 HRO.out)).mono ?_); rintro e w6 ⟨rfl, hb6⟩; rw [HOK.out]; have hr6 := Ytmjfbilhalkegaa.kept hb6 hs5; have hx6 := Ytmjfbilhalkegaa.kept hb6 hs3; have c12 := cellF (Ytmjfbilhalkegaa.kept hb6 hs4); have HB6 := Lib.hid (below_then HB0.out (below_then HB5.out hb6)); have HH6 := Lib.hid (HH.out.kept HB6.out)) | (go_at_call 33; (with_reducible refine ((drop_in n HH6.out.two.s hg)).mono ?_); rintro e w7 ⟨rfl, hsk⟩; have HB7 := Lib.hid (bks_sell HH6.out hsk); have hs67 := hsk.be.size; have hx7 := keep_box HH.out HB6.out (by omega) hx6 HB7.out; clear hsk) | ((with_reducible refine at_load 30 ?_); refine wpList_load_part rfl 30 _ rfl (w2.heap.size) (0) rfl _ (oa (rp o p q)) _ _ 5 (hx7) Try.underlying30 rfl (by kernel_rfl) (by rw [HRZ.out]; omega) (oa (rp o p q)) (HRX.out) ?_) | (go_at_call 31; (with_reducible refine ((come_any (l1 := del n ls) (l2 := lb) (g1 := gs) (g2 := gb) (rp o p q) _ HB7.out.bk HG1.out HG2.out HL1.out HL2.out HRO.out HOK.out HGD.out HDN.out HROOM.out)).mono ?_); rintro e w8 ⟨vt, vg, rfl, htx, hbk, hrt, hrg, hbe, hfr⟩; obtain ⟨av, ac, rfl⟩ := own_formB hrt; obtain ⟨bv, bc, rfl⟩ := own_formB hrg; rw [HBF.out] at htx hfr; have HB8 := Lib.hid (HB7.out.trans hs67 (⟨⟨hbk, ⟨htx.s2, htx.s1, fun e => htx.ne e.symm, fun v1 v2 e1 e2 q e3 e4 => htx.ap v2 v1 e2 e1 q e4 e3⟩, HH.out.bg⟩, hbe, (kb_swap hfr)⟩ : BkS w7 w8 g gb gs base (meet (rp o p q) (rp o p q).q lb).rest (rst true (rp o p q) (meet (rp o p q) (rp o p q).q lb).left (del n ls)))); have HFB := Lib.hid (fin_box HH.out HB6.out hr6 HB8.out); have hr8 := HFB.out.1; clear htx hfr hbk) | ((with_reducible refine at_store 41 ?_); refine wpList_store_over rfl 41 _ _ rfl (w.heap.size) (_) rfl rfl _ _ (hr8) (by kernel_rfl) (rfl) (pl_all) ?_; intro w9 hg9 hs9 ho9 hb9))
    have hs07 : w.heap.size ≤ w7.heap.size := by have := HB6.out.size; omega
    exact post_cell_tmp (g := w.heap.size) (t := 41) (v := .int .i64 0) rfl rfl rfl rfl hg9 Try.underlying41 rfl (by kernel_rfl) ⟨⟨_, _, rfl, own_sameT (Go.Joins.ownsRow_le hrt hs07) (fun q A _ hq => off_ty hr8 ho9 hq (by decide)), own_sameT (Go.Joins.ownsRow_le hrg hs07) (fun q A _ hq => off_ty hr8 ho9 hq (by decide))⟩, HFB.out.2 _ ho9 hb9⟩
  · have HFZ := Lib.hid (show (oa o).size = 5 from rfl)
    have HFX := Lib.hid (extract_all HFZ.out)
    have HFA := Lib.hid hall
    have fo3 : (oa o)[3]? = some (.int .i64 o.p) := rfl
    have fo4 : (oa o)[4]? = some (.int .i64 o.q) := rfl
    have HSET := Lib.hid (show ((oa o).setIfInBounds 3 (.int .i64 p)).setIfInBounds 4 (.int .i64 q) = oa (rp o p q) from rfl)
    obtain ⟨FO, hFO⟩ : ∃ FO, FO = oa o := ⟨_, rfl⟩
    rw [← hFO] at HFN HFZ HFX HFA fo3 fo4 HSET
    have HFO := Lib.hid hFO
    clear hFO hall
    have hb0 := below_new w (Obj.cells pl0 41)
    have hr0 := heap_alloc_new w (Obj.cells pl0 41)
    have HH := Lib.hid h
    have HH1 := Lib.hid (h.kept hb0)
    have HB0 := Lib.hid hb0
    have HPS := Lib.hid (show pl0.size = 4 from rfl)
    have HPA := Lib.hid (show pl0.all (·.oneCell') = true from pl_all)
    have HZ := Lib.hid zo_size
    have HZA := Lib.hid zo_all
    clear h
    go_enter Try.func16, Try.ntmps16
    go_upto_region 8 with (first | ((with_reducible refine at_alloc 41 ?_); refine wpList_alloc_named rfl 41 rfl pl0 (by kernel_rfl) ?_) | (go_at_call 25; (with_reducible refine ((bready_yes HH1.out)).mono ?_); rintro e w1' ⟨rfl, rfl⟩) | (go_at_call 27; (with_reducible refine ((find_any n HH1.out)).mono ?_); rintro e w2 ⟨rfl, hb2⟩; rw [HFN.out.1, HFN.out.2]; have hb12 := below_alloc hb2 (Obj.cells FO 30); have hr2 := Ytmjfbilhalkegaa.kept hb12 hr0; have hx2 := heap_alloc_new w2 (Obj.cells FO 30); have hx3 := heap_up (o := Obj.cells FO 30) hx2; have c10 := cellF hx3; have f10 := (cells_of hx3).2.1) | ((with_reducible refine at_alloc 30 ?_); refine wpList_alloc_named rfl 30 rfl (zo) (by kernel_rfl) ?_) | ((with_reducible refine at_store 30 ?_); refine wpList_store_new rfl 30 _ _ rfl FO _ _ _ rfl (by simp) rfl (by rw [HFZ.out]; kernel_rfl) (by rw [HFZ.out]; rfl) HFA.out ?_) | ((with_reducible refine at_load 30 ?_); refine wpList_load_part rfl 30 _ rfl (w2.heap.size) (0) rfl _ (FO) _ _ 5 (hx2) Try.underlying30 rfl (by kernel_rfl) (by rw [HFZ.out]; omega) (FO) (HFX.out) ?_))
    have hs2 : w.heap.size + 1 ≤ w2.heap.size := by have := hb2.size; simp at this; omega
    rw [HSET.out]
    have hs3 := heap_up (o := Obj.cells FO 30) (heap_alloc_new w2 (Obj.cells (oa (rp o p q)) 30))
    have hs4 : ((w2.alloc (Obj.cells (oa (rp o p q)) 30)).alloc (Obj.cells FO 30)).heap[w2.heap.size + 1]? = some (.cells FO 30 (0, 0)) := by
      have := heap_alloc_new (w2.alloc (Obj.cells (oa (rp o p q)) 30)) (Obj.cells FO 30)
      simpa using this
    have hB5 := below_alloc (below_alloc hb2 (Obj.cells (oa (rp o p q)) 30)) (Obj.cells FO 30)
    have hs5 := Ytmjfbilhalkegaa.kept hB5 hr0
    obtain ⟨w5, hw5⟩ : ∃ w5, w5 = (w2.alloc (Obj.cells (oa (rp o p q)) 30)).alloc (Obj.cells FO 30) := ⟨_, rfl⟩
    rw [← hw5] at hs3 hs4 hs5 hB5 ⊢
    clear hw5 hx2 hx3 c10 f10 hr2 hb12 hb2
    have HB5 := Lib.hid hB5
    have HRZ := Lib.hid (show (oa (rp o p q)).size = 5 from rfl)
    have HRX := Lib.hid (extract_all HRZ.out)
    have c12 := cellF hs4
    clear hB5
    have HOK := Lib.hid hok
    have HRO := Lib.hid (rp_ok (HH.out.two.s.ok o (gt_mem hg)) hp hq)
    clear hok
    go_wp2_with (first | ((with_reducible refine at_load 30 ?_); refine wpList_load_part rfl 30 _ rfl (w2.heap.size) (0) rfl _ (oa (rp o p q)) _ _ 5 (hs3) Try.underlying30 rfl (by kernel_rfl) (by rw [HRZ.out]; omega) (oa (rp o p q)) (HRX.out) ?_) | (go_at_call 26; (with_reducible refine ((may_any w5 HRO.out)).mono ?_); rintro e w6 ⟨rfl, hb6⟩; rw [HOK.out]; have hr6 := Ytmjfbilhalkegaa.kept hb6 hs5; have hx6 := Ytmjfbilhalkegaa.kept hb6 hs3; have c12 := cellF (Ytmjfbilhalkegaa.kept hb6 hs4); have HB6 := Lib.hid (below_then HB0.out (below_then HB5.out hb6)); have HH6 := Lib.hid (HH.out.kept HB6.out)) | (go_at_call 33; (with_reducible refine ((drop_in n HH6.out.two.s hg)).mono ?_); rintro e w7 ⟨rfl, hsk⟩; have HB7 := Lib.hid (bks_sell HH6.out hsk); have hs67 := hsk.be.size; have hx7 := keep_box HH.out HB6.out (by omega) hx6 HB7.out; clear hsk) | ((with_reducible refine at_load 30 ?_); refine wpList_load_part rfl 30 _ rfl (w2.heap.size) (0) rfl _ (oa (rp o p q)) _ _ 5 (hx7) Try.underlying30 rfl (by kernel_rfl) (by rw [HRZ.out]; omega) (oa (rp o p q)) (HRX.out) ?_) | (go_at_call 31; (with_reducible refine ((come_any (l1 := del n ls) (l2 := lb) (g1 := gs) (g2 := gb) (rp o p q) _ HB7.out.bk HG1.out HG2.out HL1.out HL2.out HRO.out HOK.out HGD.out HDN.out HROOM.out)).mono ?_); rintro e w8 ⟨vt, vg, rfl, htx, hbk, hrt, hrg, hbe, hfr⟩; obtain ⟨av, ac, rfl⟩ := own_formB hrt; obtain ⟨bv, bc, rfl⟩ := own_formB hrg; rw [HBF.out] at htx hfr; have HB8 := Lib.hid (HB7.out.trans hs67 (⟨⟨hbk, ⟨htx.s2, htx.s1, fun e => htx.ne e.symm, fun v1 v2 e1 e2 q e3 e4 => htx.ap v2 v1 e2 e1 q e4 e3⟩, HH.out.bg⟩, hbe, (kb_swap hfr)⟩ : BkS w7 w8 g gb gs base (meet (rp o p q) (rp o p q).q lb).rest (rst true (rp o p q) (meet (rp o p q) (rp o p q).q lb).left (del n ls)))); have HFB := Lib.hid (fin_box HH.out HB6.out hr6 HB8.out); have hr8 := HFB.out.1; clear htx hfr hbk) | ((with_reducible refine at_store 41 ?_); refine wpList_store_over rfl 41 _ _ rfl (w.heap.size) (_) rfl rfl _ _ (hr8) (by kernel_rfl) (rfl) (pl_all) ?_; intro w9 hg9 hs9 ho9 hb9))
    have hs07 : w.heap.size ≤ w7.heap.size := by have := HB6.out.size; omega
    exact post_cell_tmp (g := w.heap.size) (t := 41) (v := .int .i64 0) rfl rfl rfl rfl hg9 Try.underlying41 rfl (by kernel_rfl) ⟨⟨_, _, rfl, own_sameT (Go.Joins.ownsRow_le hrt hs07) (fun q A _ hq => off_ty hr8 ho9 hq (by decide)), own_sameT (Go.Joins.ownsRow_le hrg hs07) (fun q A _ hq => off_ty hr8 ho9 hq (by decide))⟩, HFB.out.2 _ ho9 hb9⟩
end Go.Proofs.Ytmjfbilhalkegaa
