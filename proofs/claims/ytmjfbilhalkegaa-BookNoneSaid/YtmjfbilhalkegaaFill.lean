/- Fill of a side that has orders. Condition: the side is one. -/
import Derived.Test.YtmjfbilhalkegaaSideF
import Derived.Test.YtmjfbilhalkegaaSideB
namespace Go.Proofs.Ytmjfbilhalkegaa
set_option linter.unusedVariables false
set_option linter.unusedSimpArgs false
open Go.RowKit

set_option maxRecDepth 100000 in
set_option maxHeartbeats 2000000 in
theorem sfill_some {w : World} {g base k : Nat} {buy : Bool} {L : Nat → Array Value} (n : Int) (h : SideIs w g base k buy L) (hk : 0 < k) (hn1 : 1 ≤ n) (hn2 : n < N (L 0) 4) :
    Calls Try.prog 42 #[.pointer (some ⟨g, 0, none⟩), .int .i64 n] w fun e w' => e = .returned (.tuple #[.agg (lo L 0 (N (L 0) 4 - n) 0), .int .i64 0]) ∧ SideIs w' g base k buy (lo L 0 (N (L 0) 4 - n)) ∧ Below base w w' ∧ Ko g w w' ∧ Kf g w w' := by
  obtain ⟨gb, rc, A, hA, hbb, hsz, hkr, hrc, htk⟩ := h.at_row hk
  have hb0 := below_new w (Obj.cells zo 30)
  have hA0 := hA.kept hb0
  have hg0 := cellF hA0.1
  have ha0 := cellF hA0.2.1
  have hf0 := (cells_of hA0.2.1).2.1
  have hx4 := (h.ord 0).l
  have hc4 := hA.cell (i := 0) (j := 4) hk (by omega)
  rw [hx4.1] at hc4
  have hwf : F64 (N (L 0) 4) := hx4.2
  obtain ⟨hw1, hw2⟩ := hwf
  have hst := side_set (i := 0) (y := N (L 0) 4 - n) h hA hbb hsz hkr hrc htk hk ⟨by omega, by omega⟩ (Below.refl _ w)
  rw [show 0 * 5 + 4 = 4 from rfl] at hst hc4
  have hszS : (w.setCell ⟨gb, 4, none⟩ (.int .i64 (N (L 0) 4 - n))).heap.size = w.heap.size := by simp [World.setCell]
  obtain ⟨gb2, rc2, A2, hA2, hbb2, hsz2, hkr2, hrc2, htk2⟩ := hst.1.at_row hk
  have e2 : gb2 = gb ∧ rc2 = rc := by
    have h1 := hA2.1
    rw [heap_set_other hA.1 hA.ne] at h1
    simp at h1
    exact ⟨h1.1.symm, h1.2.symm⟩
  obtain ⟨rfl, rfl⟩ := e2
  have hbz := below_new (w.setCell ⟨gb2, 4, none⟩ (.int .i64 (N (L 0) 4 - n))) (Obj.cells zo 30)
  have hA3 := hA2.kept hbz
  have hg3 := cellF hA3.1
  have ha3 := cellF hA3.2.1
  have hz3 := heap_alloc_new (w.setCell ⟨gb2, 4, none⟩ (.int .i64 (N (L 0) 4 - n))) (Obj.cells zo 30)
  have hM := hst.1.ord 0
  have hM4 : (lo L 0 (N (L 0) 4 - n) 0)[4]? = some (.int .i64 (N (L 0) 4 - n)) := by
    unfold lo; rw [if_pos rfl, Array.getElem?_setIfInBounds_self, if_pos (by rw [(h.ord 0).size]; omega)]
  have cr := sready_yes (h.kept hb0)
  have hgu : gb2 < w.heap.size := (cells_of hA.2.1).2.2
  have HX3 := Lib.hid (hA3.2.2 0 hk)
  have HG3 := Lib.hid hA3.2.1
  have HFIN := Lib.hid hst
  have HM := Lib.hid hM.size
  have HMa := Lib.hid hM.all
  have HZ := Lib.hid zo_size
  have hk0 : ¬ (k : Int) = 0 := by omega
  have hk1 : (0 : Int) < k := by omega
  have hA2g := hA2
  clear hA hA0 hx4 htk hst hM hA3 hA2 hA2g htk2
  generalize hx : N (L 0) 4 = x at *
  generalize lo L 0 (x - n) 0 = M at *
  clear hx
  have hm1 : (((w.setCell ⟨gb2, 4, none⟩ (.int .i64 (x - n))).alloc (Obj.cells zo 30)).alloc (Obj.cells M 30)).heap[w.heap.size + 1]? = some (.cells M 30 (0, 0)) := by
    have := heap_alloc_new ((w.setCell ⟨gb2, 4, none⟩ (.int .i64 (x - n))).alloc (Obj.cells zo 30)) (Obj.cells M 30)
    rwa [show ((w.setCell ⟨gb2, 4, none⟩ (.int .i64 (x - n))).alloc (Obj.cells zo 30)).heap.size = w.heap.size + 1 by simp [hszS]] at this
  have hz4 : (((w.setCell ⟨gb2, 4, none⟩ (.int .i64 (x - n))).alloc (Obj.cells zo 30)).alloc (Obj.cells M 30)).heap[w.heap.size]? = some (.cells zo 30 (0, 0)) := by
    rw [hszS] at hz3
    exact heap_up hz3
  have HB4 := Lib.hid (below_alloc (below_new (w.setCell ⟨gb2, 4, none⟩ (.int .i64 (x - n))) (Obj.cells zo 30)) (Obj.cells M 30))
  have HMX := Lib.hid (show M.extract 0 (0 + 5) = M by rw [show 0 + 5 = M.size by rw [HM.out]]; simp)
  have hn3 : ¬ n < 1 := by omega
  have hn4 : ¬ x < n := by omega
  have hn5 : ¬ x - n = 0 := by omega
  have hne : gb2 ≠ w.heap.size := by omega
  go_enter Try.func42, Try.ntmps42
  go_wp2_with (first | ((with_reducible refine at_alloc 30 ?_); refine wpList_alloc_named rfl 30 rfl zo (by kernel_rfl) ?_) | (go_at_call 39; (with_reducible refine (cr).mono ?_); rintro e w1 ⟨rfl, rfl⟩) | ((with_reducible refine at_load 30 ?_); refine wpList_load_part rfl 30 _ rfl (gb2) (0) rfl _ (A2) _ _ 5 (HG3.out) Try.underlying30 rfl (by kernel_rfl) (by have := HX3.out.1; omega) (M) (by have := HX3.out.2; simpa using this) ?_) | ((with_reducible refine at_store 30 ?_); refine wpList_store_new rfl 30 _ _ rfl (M) _ _ _ rfl (by simp) rfl (by rw [HM.out]; kernel_rfl) (by rw [HM.out]; rfl) (HMa.out) ?_) | ((with_reducible refine at_load 30 ?_); refine wpList_load_part rfl 30 _ rfl (w.heap.size + 1) (0) rfl _ (M) _ _ 5 (hm1) Try.underlying30 rfl (by kernel_rfl) (by rw [HM.out]; omega) (M) (HMX.out) ?_) | ((with_reducible refine at_store 30 ?_); refine wpList_store_over rfl 30 _ _ rfl (w.heap.size) (M) rfl rfl _ _ (hz4) (by rw [HM.out]; kernel_rfl) (by rw [HM.out]; rfl) (HMa.out) ?_; intro w3 hg5 hs5 ho5 hb5))
  have hfr : ∀ j c t fr, j < w.heap.size → (w.setCell ⟨gb2, 4, none⟩ (.int .i64 (x - n))).heap[j]? = some (.cells c t fr) → w3.heap[j]? = some (.cells c t fr) := fun j c t fr hj h => (ho5 j (by omega)).trans (Ytmjfbilhalkegaa.kept HB4.out h)
  have hB5 : Below (w.setCell ⟨gb2, 4, none⟩ (.int .i64 (x - n))).heap.size (w.setCell ⟨gb2, 4, none⟩ (.int .i64 (x - n))) w3 := HB4.out.trans (hb5 _ (by omega))
  obtain ⟨f1, f2, f3, f4⟩ := HFIN.out
  have hbg := f1.bg
  obtain ⟨_, hgr, _⟩ := f1.row
  have hgl := (cells_of hgr).2.2
  refine post_cell_tmp (g := w.heap.size) (t := 30) (v := .int .i64 0) rfl rfl rfl rfl hg5 Try.underlying30 rfl (by rw [HM.out]; kernel_rfl) ⟨rfl, f1.kept hB5, f2.trans (hB5.mono (by omega)), f3.trans (ko_below hB5), fun v b hv i hi hne hlt => (hB5.block i (by omega)).trans (f4 v b hv i hi hne hlt)⟩
set_option maxRecDepth 100000 in
set_option maxHeartbeats 2000000 in
theorem sfill_all {w : World} {g base k : Nat} {buy : Bool} {L : Nat → Array Value} (h : SideIs w g base k buy L) (hk : 0 < k) (hn1 : 1 ≤ N (L 0) 4) :
    Calls Try.prog 42 #[.pointer (some ⟨g, 0, none⟩), .int .i64 (N (L 0) 4)] w fun e w' => e = .returned (.tuple #[.agg (lo L 0 0 0), .int .i64 0]) ∧ SideIs w' g base (k - 1) buy (rem L 0) ∧ Below base w w' ∧ Ko g w w' ∧ Kf g w w' := by
  obtain ⟨gb, rc, A, hA, hbb, hsz, hkr, hrc, htk⟩ := h.at_row hk
  have hb0 := below_new w (Obj.cells zo 30)
  have hA0 := hA.kept hb0
  have hg0 := cellF hA0.1
  have ha0 := cellF hA0.2.1
  have hf0 := (cells_of hA0.2.1).2.1
  have hx4 := (h.ord 0).l
  have hc4 := hA.cell (i := 0) (j := 4) hk (by omega)
  rw [hx4.1] at hc4
  have hwf : F64 (N (L 0) 4) := hx4.2
  obtain ⟨hw1, hw2⟩ := hwf
  have hst := side_set (i := 0) (y := 0) h hA hbb hsz hkr hrc htk hk ⟨by omega, by omega⟩ (Below.refl _ w)
  rw [show 0 * 5 + 4 = 4 from rfl] at hst hc4
  have hszS : (w.setCell ⟨gb, 4, none⟩ (.int .i64 0)).heap.size = w.heap.size := by simp [World.setCell]
  obtain ⟨gb2, rc2, A2, hA2, hbb2, hsz2, hkr2, hrc2, htk2⟩ := hst.1.at_row hk
  have e2 : gb2 = gb ∧ rc2 = rc := by
    have h1 := hA2.1
    rw [heap_set_other hA.1 hA.ne] at h1
    simp at h1
    exact ⟨h1.1.symm, h1.2.symm⟩
  obtain ⟨rfl, rfl⟩ := e2
  have hbz := below_new (w.setCell ⟨gb2, 4, none⟩ (.int .i64 0)) (Obj.cells zo 30)
  have hA3 := hA2.kept hbz
  have hg3 := cellF hA3.1
  have ha3 := cellF hA3.2.1
  have hz3 := heap_alloc_new (w.setCell ⟨gb2, 4, none⟩ (.int .i64 0)) (Obj.cells zo 30)
  have hM := hst.1.ord 0
  have hM4 : (lo L 0 0 0)[4]? = some (.int .i64 0) := by
    unfold lo; rw [if_pos rfl, Array.getElem?_setIfInBounds_self, if_pos (by rw [(h.ord 0).size]; omega)]
  have cr := sready_yes (h.kept hb0)
  have hgu : gb2 < w.heap.size := (cells_of hA.2.1).2.2
  have HX3 := Lib.hid (hA3.2.2 0 hk)
  have HG3 := Lib.hid hA3.2.1
  have HFIN := Lib.hid hst
  have HM := Lib.hid hM.size
  have HMa := Lib.hid hM.all
  have HZ := Lib.hid zo_size
  have hk0 : ¬ (k : Int) = 0 := by omega
  have hk1 : (0 : Int) < k := by omega
  have HOW := Lib.hid (show (w.setCell ⟨gb2, 4, none⟩ (.int .i64 0)).ownsRow base 30 5 (.slice (some ⟨gb2, 0, none⟩) k rc2) k (flat (lo L 0 0) k) from ⟨flatc_len (fun i => (hst.1.ord i).size) k, .inr ⟨gb2, rc2, A2, rfl, hbb2, hA2.2.1, hkr2, by unfold maxLen; omega, hsz2, htk2⟩⟩)
  have HREM := Lib.hid (show rem (lo L 0 0) 0 = rem L 0 from funext fun r => by unfold rem lo; rw [if_neg (by omega), if_neg (by omega), if_neg (by omega)])
  have HOS := Lib.hid hst.1.ord
  have HAG := Lib.hid hA2.1
  have HGW := Lib.hid hA.1
  have HNE := Lib.hid hA2.ne
  have hA2g := hA2
  clear hA hA0 hx4 htk hst hM hA3 hA2 hA2g htk2
  generalize hx : N (L 0) 4 = x at *
  generalize hLS : lo L 0 0 = LS at *
  generalize hM0 : LS 0 = M at *
  clear hLS hM0
  clear hx
  have hm1 : (((w.setCell ⟨gb2, 4, none⟩ (.int .i64 0)).alloc (Obj.cells zo 30)).alloc (Obj.cells M 30)).heap[w.heap.size + 1]? = some (.cells M 30 (0, 0)) := by
    have := heap_alloc_new ((w.setCell ⟨gb2, 4, none⟩ (.int .i64 0)).alloc (Obj.cells zo 30)) (Obj.cells M 30)
    rwa [show ((w.setCell ⟨gb2, 4, none⟩ (.int .i64 0)).alloc (Obj.cells zo 30)).heap.size = w.heap.size + 1 by simp [hszS]] at this
  have hz4 : (((w.setCell ⟨gb2, 4, none⟩ (.int .i64 0)).alloc (Obj.cells zo 30)).alloc (Obj.cells M 30)).heap[w.heap.size]? = some (.cells zo 30 (0, 0)) := by
    rw [hszS] at hz3
    exact heap_up hz3
  have HB4 := Lib.hid (below_alloc (below_new (w.setCell ⟨gb2, 4, none⟩ (.int .i64 0)) (Obj.cells zo 30)) (Obj.cells M 30))
  have HMX := Lib.hid (show M.extract 0 (0 + 5) = M by rw [show 0 + 5 = M.size by rw [HM.out]]; simp)
  have cd : Calls Try.prog 45 #[.slice (some ⟨gb2, 0, none⟩) k rc2, .int .i64 0, .int .i64 1] (((w.setCell ⟨gb2, 4, none⟩ (.int .i64 0)).alloc (Obj.cells zo 30)).alloc (Obj.cells M 30)) _ := delo_any base k 0 LS (some ⟨gb2, 0, none⟩) rc2 (((w.setCell ⟨gb2, 4, none⟩ (.int .i64 0)).alloc (Obj.cells zo 30)).alloc (Obj.cells M 30)) (fun j => (HOS.out j).size) (fun j => (HOS.out j).all) (own_below HB4.out HOW.out) hk
  have CD := Lib.hid cd
  have hgg : g < w.heap.size := by
    have := (cells_of HAG.out).2.2
    omega
  have hgD := cellF (Ytmjfbilhalkegaa.kept HB4.out HAG.out)
  clear cd
  have hn3 : ¬ x < 1 := by omega
  have hne : gb2 ≠ w.heap.size := by omega
  go_enter Try.func42, Try.ntmps42
  go_wp2_with (first | ((with_reducible refine at_alloc 30 ?_); refine wpList_alloc_named rfl 30 rfl zo (by kernel_rfl) ?_) | (go_at_call 39; (with_reducible refine (cr).mono ?_); rintro e w1 ⟨rfl, rfl⟩) | ((with_reducible refine at_load 30 ?_); refine wpList_load_part rfl 30 _ rfl (gb2) (0) rfl _ (A2) _ _ 5 (HG3.out) Try.underlying30 rfl (by kernel_rfl) (by have := HX3.out.1; omega) (M) (by have := HX3.out.2; simpa using this) ?_) | ((with_reducible refine at_store 30 ?_); refine wpList_store_new rfl 30 _ _ rfl (M) _ _ _ rfl (by simp) rfl (by rw [HM.out]; kernel_rfl) (by rw [HM.out]; rfl) (HMa.out) ?_) | (go_at_call 45; (with_reducible refine (CD.out).mono ?_); rintro e w5 ⟨rfl, ho5, hb5, hoth⟩; have hsh := side_shrunk HFIN.out.1 HAG.out HB4.out (own_below HB4.out HOW.out) hoth hb5 ho5; have cg5 := cellF hsh.1; have fg5 := (cells_of hsh.1).2.1; have hm6 := heap_set_other (g := g) (i := 2) (v := Value.slice (some ⟨gb2, 0, none⟩) (k - 1) rc2) ((hoth (w.heap.size + 1) (by simp [Value.ownBlock]; omega)).trans hm1) (by omega); have hz6 := heap_set_other (g := g) (i := 2) (v := Value.slice (some ⟨gb2, 0, none⟩) (k - 1) rc2) ((hoth w.heap.size (by simp [Value.ownBlock]; omega)).trans hz4) (by omega)) | ((with_reducible refine at_load 30 ?_); refine wpList_load_part rfl 30 _ rfl (w.heap.size + 1) (0) rfl _ (M) _ _ 5 (hm6) Try.underlying30 rfl (by kernel_rfl) (by rw [HM.out]; omega) (M) (HMX.out) ?_) | ((with_reducible refine at_store 30 ?_); refine wpList_store_over rfl 30 _ _ rfl (w.heap.size) (M) rfl rfl _ _ (hz6) (by rw [HM.out]; kernel_rfl) (by rw [HM.out]; rfl) (HMa.out) ?_; intro w3 hg5 hs5 ho6 hb6))
  have hB6 := hb6 _ (Nat.le_refl _)
  obtain ⟨hsh1, f1, f2, f3, f4⟩ := hsh
  rw [HREM.out] at f1
  obtain ⟨p1, p2, p3, p4⟩ := HFIN.out
  have hbg := f1.bg
  obtain ⟨vr, hgr, hrow⟩ := f1.row
  have hvr : vr = .slice (some ⟨gb2, 0, none⟩) (k - 1) rc2 := by
    have := heap_set (i := 2) (v := Value.slice (some ⟨gb2, 0, none⟩) (k - 1) rc2) hsh1
    rw [hgr] at this
    simpa using this
  have hF1 : SideIs w3 g base (k - 1) buy (rem L 0) := ⟨⟨vr, (ho6 g (by omega)).trans hgr, hrow.kept (row := some w.heap.size) ⟨hB6.os, hB6.tape, hB6.output, hB6.size, fun j _ hne => ho6 j (fun e => hne (by rw [e]))⟩ (.inr (by rw [hvr]; simp [Value.ownBlock]; omega))⟩, f1.ord, hbg, f1.hk⟩
  refine post_cell_tmp (g := w.heap.size) (t := 30) (v := .int .i64 0) rfl rfl rfl rfl hg5 Try.underlying30 rfl (by rw [HM.out]; kernel_rfl) ⟨rfl, hF1, ?_, ?_, fun v b hv i hi hne hlt => ?_⟩
  · exact (p2.trans f2).trans (hB6.mono (by omega))
  · exact p3.trans (f3.trans (fun i o ho hi hc => (ho6 i (fun e => by subst e; rw [hz6] at hc; exact ho _ _ (Option.some.inj hc).symm)).trans hc))
  · have hv2 := HAG.out
    have hg2 : v.ownBlock = some gb2 := by
      have h2 := hv
      have h3 := HGW.out
      rw [h3] at h2
      simp at h2
      rw [← h2.2]; rfl
    exact (ho6 i (by omega)).trans ((f4 _ _ hv2 i hi (by rw [hg2] at hne; exact hne) (by rw [hszS]; exact hlt)).trans (p4 v b hv i hi hne hlt))
end Go.Proofs.Ytmjfbilhalkegaa
