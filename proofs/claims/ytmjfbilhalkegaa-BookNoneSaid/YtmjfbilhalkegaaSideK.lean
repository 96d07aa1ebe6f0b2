/- Fill, Drop and Lower of a side: only its own two blocks are written. Condition: the side is one. -/
import Derived.Test.YtmjfbilhalkegaaFill
import Derived.Test.YtmjfbilhalkegaaDrop
namespace Go.Proofs.Ytmjfbilhalkegaa
set_option linter.unusedVariables false
set_option linter.unusedSimpArgs false
open Go.RowKit

/-- of what lay there only the side and its row are written; its row is the same block, or a new one -/
def Ks (g : Nat) (A B : World) : Prop := ∀ v b, A.heap[g]? = some (.cells #[.bool true, .bool b, v] 77 (0, 0)) → (∀ i, i ≠ g → some i ≠ v.ownBlock → i < A.heap.size → B.heap[i]? = A.heap[i]?) ∧ ∃ v', B.heap[g]? = some (.cells #[.bool true, .bool b, v'] 77 (0, 0)) ∧ (v'.ownBlock = v.ownBlock ∨ ∃ q, v'.ownBlock = some q ∧ A.heap.size ≤ q)
theorem ks_below {g : Nat} {A B : World} (h : Below A.heap.size A B) : Ks g A B := fun v b hv => ⟨fun i _ _ hi => h.block i hi, v, Ytmjfbilhalkegaa.kept h hv, .inl rfl⟩
theorem ks_grown {w w1 w5 : World} {g : Nat} {buy : Bool} {v v5 : Value} (hg : w.heap[g]? = some (.cells #[.bool true, .bool buy, v] 77 (0, 0))) (hB : Below w.heap.size w w1) (hg5 : w1.grownBy w5 v.ownBlock) (hgq5 : w5.heap[g]? = some (.cells #[.bool true, .bool buy, v] 77 (0, 0)))
    (hat : v5.ownBlock = v.ownBlock ∨ ∃ q, v5.ownBlock = some q ∧ w1.heap.size ≤ q) : Ks g w (w5.setCell ⟨g, 2, none⟩ v5) := fun u b hu => by
  rw [hg] at hu
  simp at hu
  obtain ⟨rfl, rfl⟩ := hu
  have hs := hB.size
  refine ⟨fun i h1 h2 h3 => ?_, v5, heap_set (i := 2) (v := v5) hgq5, ?_⟩
  · rw [heap_setCell_other w5 ⟨g, 2, none⟩ i _ h1, hg5.block i (by omega) h2]
    exact hB.block i h3
  · rcases hat with e | ⟨q, e, hq⟩
    · exact .inl e
    · exact .inr ⟨q, e, by omega⟩
set_option maxRecDepth 100000 in
set_option maxHeartbeats 2000000 in
theorem sfill_some_k {w : World} {g base k : Nat} {buy : Bool} {L : Nat → Array Value} (n : Int) (h : SideIs w g base k buy L) (hk : 0 < k) (hn1 : 1 ≤ n) (hn2 : n < N (L 0) 4) :
    Calls Try.prog 42 #[.pointer (some ⟨g, 0, none⟩), .int .i64 n] w fun e w' => e = .returned (.tuple #[.agg (lo L 0 (N (L 0) 4 - n) 0), .int .i64 0]) ∧ SideIs w' g base k buy (lo L 0 (N (L 0) 4 - n)) ∧ Below base w w' ∧ Ko g w w' ∧ Ks g w w' := by
  obtain ⟨gb, rc, A, hA, hbb, hsz, hkr, hrc, htk⟩ := h.at_row hk
  have hb0 := below_new w (Obj.cells zo 30)
  have hA0 := hA.kept hb0
  have hg0 := cellF hA0.1
  have ha0 := cellF hA0.2.1
  have hf0 := (cells_of hA0.2.1).2.1
  have hx4 := (h.ord 0).l
  have hc4 := hA.cell (i := 0) (j := 4) hk (by omega)
  rw [hx4.1] at hc4
  have hwf : F64 (N (L 0) 4) := hx4.2
  obtain ⟨hw1, hw2⟩ := hwf
  have hst := side_set (i := 0) (y := N (L 0) 4 - n) h hA hbb hsz hkr hrc htk hk ⟨by omega, by omega⟩ (Below.refl _ w)
  rw [show 0 * 5 + 4 = 4 from rfl] at hst hc4
  have hszS : (w.setCell ⟨gb, 4, none⟩ (.int .i64 (N (L 0) 4 - n))).heap.size = w.heap.size := by simp [World.setCell]
  obtain ⟨gb2, rc2, A2, hA2, hbb2, hsz2, hkr2, hrc2, htk2⟩ := hst.1.at_row hk
  have e2 : gb2 = gb ∧ rc2 = rc := by
    have h1 := hA2.1
    rw [heap_set_other hA.1 hA.ne] at h1
    simp at h1
    exact ⟨h1.1.symm, h1.2.symm⟩
  obtain ⟨rfl, rfl⟩ := e2
  have hbz := below_new (w.setCell ⟨gb2, 4, none⟩ (.int .i64 (N (L 0) 4 - n))) (Obj.cells zo 30)
  have hA3 := hA2.kept hbz
  have hg3 := cellF hA3.1
  have ha3 := cellF hA3.2.1
  have hz3 := heap_alloc_new (w.setCell ⟨gb2, 4, none⟩ (.int .i64 (N (L 0) 4 - n))) (Obj.cells zo 30)
  have hM := hst.1.ord 0
  have hM4 : (lo L 0 (N (L 0) 4 - n) 0)[4]? = some (.int .i64 (N (L 0) 4 - n)) := by
    unfold lo; rw [if_pos rfl, Array.getElem?_setIfInBounds_self, if_pos (by rw [(h.ord 0).size]; omega)]
  have cr := sready_yes (h.kept hb0)
  have hgu : gb2 < w.heap.size := (cells_of hA.2.1).2.2
  have HX3 := Lib.hid (hA3.2.2 0 hk)
  have HG3 := Lib.hid hA3.2.1
  have HFIN := Lib.hid hst
  have HM := Lib.hid hM.size
  have HMa := Lib.hid hM.all
  have HZ := Lib.hid zo_size
  have hk0 : ¬ (k : Int) = 0 := by omega
  have hk1 : (0 : Int) < k := by omega
  have HNEb := Lib.hid hA.ne
  have hA2g := hA2
  clear hA hA0 hx4 htk hst hM hA3 hA2 hA2g htk2
  generalize hx : N (L 0) 4 = x at *
  generalize lo L 0 (x - n) 0 = M at *
  clear hx
  have hm1 : (((w.setCell ⟨gb2, 4, none⟩ (.int .i64 (x - n))).alloc (Obj.cells zo 30)).alloc (Obj.cells M 30)).heap[w.heap.size + 1]? = some (.cells M 30 (0, 0)) := by
    have := heap_alloc_new ((w.setCell ⟨gb2, 4, none⟩ (.int .i64 (x - n))).alloc (Obj.cells zo 30)) (Obj.cells M 30)
    rwa [show ((w.setCell ⟨gb2, 4, none⟩ (.int .i64 (x - n))).alloc (Obj.cells zo 30)).heap.size = w.heap.size + 1 by simp [hszS]] at this
  have hz4 : (((w.setCell ⟨gb2, 4, none⟩ (.int .i64 (x - n))).alloc (Obj.cells zo 30)).alloc (Obj.cells M 30)).heap[w.heap.size]? = some (.cells zo 30 (0, 0)) := by
    rw [hszS] at hz3
    exact heap_up hz3
  have HB4 := Lib.hid (below_alloc (below_new (w.setCell ⟨gb2, 4, none⟩ (.int .i64 (x - n))) (Obj.cells zo 30)) (Obj.cells M 30))
  have HMX := Lib.hid (show M.extract 0 (0 + 5) = M by rw [show 0 + 5 = M.size by rw [HM.out]]; simp)
  have hn3 : ¬ n < 1 := by omega
  have hn4 : ¬ x < n := by omega
  have hn5 : ¬ x - n = 0 := by omega
  have hne : gb2 ≠ w.heap.size := by omega
  go_enter Try.func42, Try.ntmps42
  go_wp2_with (first | ((with_reducible refine at_alloc 30 ?_); refine wpList_alloc_named rfl 30 rfl zo (by kernel_rfl) ?_) | (go_at_call 39; (with_reducible refine (cr).mono ?_); rintro e w1 ⟨rfl, rfl⟩) | ((with_reducible refine at_load 30 ?_); refine wpList_load_part rfl 30 _ rfl (gb2) (0) rfl _ (A2) _ _ 5 (HG3.out) Try.underlying30 rfl (by kernel_rfl) (by have := HX3.out.1; omega) (M) (by have := HX3.out.2; simpa using this) ?_) | ((with_reducible refine at_store 30 ?_); refine wpList_store_new rfl 30 _ _ rfl (M) _ _ _ rfl (by simp) rfl (by rw [HM.out]; kernel_rfl) (by rw [HM.out]; rfl) (HMa.out) ?_) | ((with_reducible refine at_load 30 ?_); refine wpList_load_part rfl 30 _ rfl (w.heap.size + 1) (0) rfl _ (M) _ _ 5 (hm1) Try.underlying30 rfl (by kernel_rfl) (by rw [HM.out]; omega) (M) (HMX.out) ?_) | ((with_reducible refine at_store 30 ?_); refine wpList_store_over rfl 30 _ _ rfl (w.heap.size) (M) rfl rfl _ _ (hz4) (by rw [HM.out]; kernel_rfl) (by rw [HM.out]; rfl) (HMa.out) ?_; intro w3 hg5 hs5 ho5 hb5))
  have hfr : ∀ j c t fr, j < w.heap.size → (w.setCell ⟨gb2, 4, none⟩ (.int .i64 (x - n))).heap[j]? = some (.cells c t fr) → w3.heap[j]? = some (.cells c t fr) := fun j c t fr hj h => (ho5 j (by omega)).trans (Ytmjfbilhalkegaa.kept HB4.out h)
  have hB5 : Below (w.setCell ⟨gb2, 4, none⟩ (.int .i64 (x - n))).heap.size (w.setCell ⟨gb2, 4, none⟩ (.int .i64 (x - n))) w3 := HB4.out.trans (hb5 _ (by omega))
  obtain ⟨f1, f2, f3, f4⟩ := HFIN.out
  have hbg := f1.bg
  obtain ⟨_, hgr, _⟩ := f1.row
  have hgl := (cells_of hgr).2.2
  refine post_cell_tmp (g := w.heap.size) (t := 30) (v := .int .i64 0) rfl rfl rfl rfl hg5 Try.underlying30 rfl (by rw [HM.out]; kernel_rfl) ⟨rfl, f1.kept hB5, f2.trans (hB5.mono (by omega)), f3.trans (ko_below hB5), fun v b hv => ⟨fun i hi hne hlt => (hB5.block i (by omega)).trans (f4 v b hv i hi hne hlt), v, (hB5.block g (by omega)).trans (heap_set_other hv HNEb.out), .inl rfl⟩⟩
set_option maxRecDepth 100000 in
set_option maxHeartbeats 2000000 in
theorem sfill_all_k {w : World} {g base k : Nat} {buy : Bool} {L : Nat → Array Value} (h : SideIs w g base k buy L) (hk : 0 < k) (hn1 : 1 ≤ N (L 0) 4) :
    Calls Try.prog 42 #[.pointer (some ⟨g, 0, none⟩), .int .i64 (N (L 0) 4)] w fun e w' => e = .returned (.tuple #[.agg (lo L 0 0 0), .int .i64 0]) ∧ SideIs w' g base (k - 1) buy (rem L 0) ∧ Below base w w' ∧ Ko g w w' ∧ Ks g w w' := by
  obtain ⟨gb, rc, A, hA, hbb, hsz, hkr, hrc, htk⟩ := h.at_row hk
  have hb0 := below_new w (Obj.cells zo 30)
  have hA0 := hA.kept hb0
  have hg0 := cellF hA0.1
  have ha0 := cellF hA0.2.1
  have hf0 := (cells_of hA0.2.1).2.1
  have hx4 := (h.ord 0).l
  have hc4 := hA.cell (i := 0) (j := 4) hk (by omega)
  rw [hx4.1] at hc4
  have hwf : F64 (N (L 0) 4) := hx4.2
  obtain ⟨hw1, hw2⟩ := hwf
  have hst := side_set (i := 0) (y := 0) h hA hbb hsz hkr hrc htk hk ⟨by omega, by omega⟩ (Below.refl _ w)
  rw [show 0 * 5 + 4 = 4 from rfl] at hst hc4
  have hszS : (w.setCell ⟨gb, 4, none⟩ (.int .i64 0)).heap.size = w.heap.size := by simp [World.setCell]
  obtain ⟨gb2, rc2, A2, hA2, hbb2, hsz2, hkr2, hrc2, htk2⟩ := hst.1.at_row hk
  have e2 : gb2 = gb ∧ rc2 = rc := by
    have h1 := hA2.1
    rw [heap_set_other hA.1 hA.ne] at h1
    simp at h1
    exact ⟨h1.1.symm, h1.2.symm⟩
  obtain ⟨rfl, rfl⟩ := e2
  have hbz := below_new (w.setCell ⟨gb2, 4, none⟩ (.int .i64 0)) (Obj.cells zo 30)
  have hA3 := hA2.kept hbz
  have hg3 := cellF hA3.1
  have ha3 := cellF hA3.2.1
  have hz3 := heap_alloc_new (w.setCell ⟨gb2, 4, none⟩ (.int .i64 0)) (Obj.cells zo 30)
  have hM := hst.1.ord 0
  have hM4 : (lo L 0 0 0)[4]? = some (.int .i64 0) := by
    unfold lo; rw [if_pos rfl, Array.getElem?_setIfInBounds_self, if_pos (by rw [(h.ord 0).size]; omega)]
  have cr := sready_yes (h.kept hb0)
  have hgu : gb2 < w.heap.size := (cells_of hA.2.1).2.2
  have HX3 := Lib.hid (hA3.2.2 0 hk)
  have HG3 := Lib.hid hA3.2.1
  have HFIN := Lib.hid hst
  have HM := Lib.hid hM.size
  have HMa := Lib.hid hM.all
  have HZ := Lib.hid zo_size
  have hk0 : ¬ (k : Int) = 0 := by omega
  have hk1 : (0 : Int) < k := by omega
  have HOW := Lib.hid (show (w.setCell ⟨gb2, 4, none⟩ (.int .i64 0)).ownsRow base 30 5 (.slice (some ⟨gb2, 0, none⟩) k rc2) k (flat (lo L 0 0) k) from ⟨flatc_len (fun i => (hst.1.ord i).size) k, .inr ⟨gb2, rc2, A2, rfl, hbb2, hA2.2.1, hkr2, by unfold maxLen; omega, hsz2, htk2⟩⟩)
  have HREM := Lib.hid (show rem (lo L 0 0) 0 = rem L 0 from funext fun r => by unfold rem lo; rw [if_neg (by omega), if_neg (by omega), if_neg (by omega)])
  have HOS := Lib.hid hst.1.ord
  have HAG := Lib.hid hA2.1
  have HGW := Lib.hid hA.1
  have HNE := Lib.hid hA2.ne
  have hA2g := hA2
  clear hA hA0 hx4 htk hst hM hA3 hA2 hA2g htk2
  generalize hx : N (L 0) 4 = x at *
  generalize hLS : lo L 0 0 = LS at *
  generalize hM0 : LS 0 = M at *
  clear hLS hM0
  clear hx
  have hm1 : (((w.setCell ⟨gb2, 4, none⟩ (.int .i64 0)).alloc (Obj.cells zo 30)).alloc (Obj.cells M 30)).heap[w.heap.size + 1]? = some (.cells M 30 (0, 0)) := by
    have := heap_alloc_new ((w.setCell ⟨gb2, 4, none⟩ (.int .i64 0)).alloc (Obj.cells zo 30)) (Obj.cells M 30)
    rwa [show ((w.setCell ⟨gb2, 4, none⟩ (.int .i64 0)).alloc (Obj.cells zo 30)).heap.size = w.heap.size + 1 by simp [hszS]] at this
  have hz4 : (((w.setCell ⟨gb2, 4, none⟩ (.int .i64 0)).alloc (Obj.cells zo 30)).alloc (Obj.cells M 30)).heap[w.heap.size]? = some (.cells zo 30 (0, 0)) := by
    rw [hszS] at hz3
    exact heap_up hz3
  have HB4 := Lib.hid (below_alloc (below_new (w.setCell ⟨gb2, 4, none⟩ (.int .i64 0)) (Obj.cells zo 30)) (Obj.cells M 30))
  have HMX := Lib.hid (show M.extract 0 (0 + 5) = M by rw [show 0 + 5 = M.size by rw [HM.out]]; simp)
  have cd : Calls Try.prog 45 #[.slice (some ⟨gb2, 0, none⟩) k rc2, .int .i64 0, .int .i64 1] (((w.setCell ⟨gb2, 4, none⟩ (.int .i64 0)).alloc (Obj.cells zo 30)).alloc (Obj.cells M 30)) _ := delo_any base k 0 LS (some ⟨gb2, 0, none⟩) rc2 (((w.setCell ⟨gb2, 4, none⟩ (.int .i64 0)).alloc (Obj.cells zo 30)).alloc (Obj.cells M 30)) (fun j => (HOS.out j).size) (fun j => (HOS.out j).all) (own_below HB4.out HOW.out) hk
  have CD := Lib.hid cd
  have hgg : g < w.heap.size := by
    have := (cells_of HAG.out).2.2
    omega
  have hgD := cellF (Ytmjfbilhalkegaa.kept HB4.out HAG.out)
  clear cd
  have hn3 : ¬ x < 1 := by omega
  have hne : gb2 ≠ w.heap.size := by omega
  go_enter Try.func42, Try.ntmps42
  go_wp2_with (first | ((with_reducible refine at_alloc 30 ?_); refine wpList_alloc_named rfl 30 rfl zo (by kernel_rfl) ?_) | (go_at_call 39; (with_reducible refine (cr).mono ?_); rintro e w1 ⟨rfl, rfl⟩) | ((with_reducible refine at_load 30 ?_); refine wpList_load_part rfl 30 _ rfl (gb2) (0) rfl _ (A2) _ _ 5 (HG3.out) Try.underlying30 rfl (by kernel_rfl) (by have := HX3.out.1; omega) (M) (by have := HX3.out.2; simpa using this) ?_) | ((with_reducible refine at_store 30 ?_); refine wpList_store_new rfl 30 _ _ rfl (M) _ _ _ rfl (by simp) rfl (by rw [HM.out]; kernel_rfl) (by rw [HM.out]; rfl) (HMa.out) ?_) | (go_at_call 45; (with_reducible refine (CD.out).mono ?_); rintro e w5 ⟨rfl, ho5, hb5, hoth⟩; have hsh := side_shrunk HFIN.out.1 HAG.out HB4.out (own_below HB4.out HOW.out) hoth hb5 ho5; have cg5 := cellF hsh.1; have fg5 := (cells_of hsh.1).2.1; have hm6 := heap_set_other (g := g) (i := 2) (v := Value.slice (some ⟨gb2, 0, none⟩) (k - 1) rc2) ((hoth (w.heap.size + 1) (by simp [Value.ownBlock]; omega)).trans hm1) (by omega); have hz6 := heap_set_other (g := g) (i := 2) (v := Value.slice (some ⟨gb2, 0, none⟩) (k - 1) rc2) ((hoth w.heap.size (by simp [Value.ownBlock]; omega)).trans hz4) (by omega)) | ((with_reducible refine at_load 30 ?_); refine wpList_load_part rfl 30 _ rfl (w.heap.size + 1) (0) rfl _ (M) _ _ 5 (hm6) Try.underlying30 rfl (by kernel_rfl) (by rw [HM.out]; omega) (M) (HMX.out) ?_) | ((with_reducible refine at_store 30 ?_); refine wpList_store_over rfl 30 _ _ rfl (w.heap.size) (M) rfl rfl _ _ (hz6) (by rw [HM.out]; kernel_rfl) (by rw [HM.out]; rfl) (HMa.out) ?_; intro w3 hg5 hs5 ho6 hb6))
  have hB6 := hb6 _ (Nat.le_refl _)
  obtain ⟨hsh1, f1, f2, f3, f4⟩ := hsh
  rw [HREM.out] at f1
  obtain ⟨p1, p2, p3, p4⟩ := HFIN.out
  have hbg := f1.bg
  obtain ⟨vr, hgr, hrow⟩ := f1.row
  have hvr : vr = .slice (some ⟨gb2, 0, none⟩) (k - 1) rc2 := by
    have := heap_set (i := 2) (v := Value.slice (some ⟨gb2, 0, none⟩) (k - 1) rc2) hsh1
    rw [hgr] at this
    simpa using this
  have hF1 : SideIs w3 g base (k - 1) buy (rem L 0) := ⟨⟨vr, (ho6 g (by omega)).trans hgr, hrow.kept (row := some w.heap.size) ⟨hB6.os, hB6.tape, hB6.output, hB6.size, fun j _ hne => ho6 j (fun e => hne (by rw [e]))⟩ (.inr (by rw [hvr]; simp [Value.ownBlock]; omega))⟩, f1.ord, hbg, f1.hk⟩
  refine post_cell_tmp (g := w.heap.size) (t := 30) (v := .int .i64 0) rfl rfl rfl rfl hg5 Try.underlying30 rfl (by rw [HM.out]; kernel_rfl) ⟨rfl, hF1, ?_, ?_, fun v b hv => ?_⟩
  · exact (p2.trans f2).trans (hB6.mono (by omega))
  · exact p3.trans (f3.trans (fun i o ho hi hc => (ho6 i (fun e => by subst e; rw [hz6] at hc; exact ho _ _ (Option.some.inj hc).symm)).trans hc))
  · have hv2 := HAG.out
    have hg2 : v.ownBlock = some gb2 := by
      have h2 := hv
      have h3 := HGW.out
      rw [h3] at h2
      simp at h2
      rw [← h2.2]; rfl
    refine ⟨fun i hi hne hlt => (ho6 i (by omega)).trans ((f4 _ _ hv2 i hi (by rw [hg2] at hne; exact hne) (by rw [hszS]; exact hlt)).trans (p4 v b hv i hi hne hlt)), vr, ?_, .inl (by rw [hvr, hg2]; rfl)⟩
    have h2 := hv
    rw [HGW.out] at h2
    simp at h2
    obtain ⟨rfl, _⟩ := h2
    exact (ho6 g (by omega)).trans hgr
set_option maxHeartbeats 1000000 in
theorem slower_in_k {w : World} {g base k : Nat} {buy : Bool} {L : Nat → Array Value} (n x : Int) {i : Nat} (h : SideIs w g base k buy L) (hi : fi (fun j => decide (N (L j) 0 = n)) k = i) (hx : F64 x) :
    Calls Try.prog 32 #[.pointer (some ⟨g, 0, none⟩), .int .u64 n, .int .i64 x] w fun e w' => (e = .returned (.int .i64 2) ∧ ¬ (1 ≤ x ∧ x ≤ N (L i) 4) ∧ Below w.heap.size w w') ∨
      (e = .returned (.int .i64 0) ∧ (1 ≤ x ∧ x ≤ N (L i) 4) ∧ SideIs w' g base k buy (lo L i x) ∧ Below base w w' ∧ Ko g w w' ∧ Ks g w w') := by
  have cf := sfind_yes n h hi
  have hik := (fi_at k i hi).1
  obtain ⟨gb, rc, A, hA, hbb, hsz, hkr, hrc, htk⟩ := h.at_row (by omega)
  have HF := Lib.hid (fun (w1 : World) (hb1 : Below w.heap.size w w1) => side_set h hA hbb hsz hkr hrc htk hik hx hb1)
  have hc4 := hA.cell (i := i) (j := 4) hik (by omega)
  rw [(h.ord i).l.1] at hc4
  have hfi := fi_bd (q := fun j => decide (N (L j) 0 = n)) k
  have HA := Lib.hid hA
  have hiz : (i : Int) < k := by omega
  clear h hi hA htk hfi
  generalize hN : N (L i) 4 = y at *
  clear hN
  have hA := HA.out
  by_cases h1 : x < 1
  · go_enter Try.func32, Try.ntmps32
    go_wp2_with ((go_at_call 44; (with_reducible refine (cf).mono ?_); rintro e w1 ⟨rfl, hb1⟩; have hA1 := hA.kept hb1; have c1 := cellF hA1.1; have c2 := cellF hA1.2.1))
    go_ret
    exact .inl ⟨rfl, by omega, hb1⟩
  · by_cases h2 : y < x
    · go_enter Try.func32, Try.ntmps32
      go_wp2_with ((go_at_call 44; (with_reducible refine (cf).mono ?_); rintro e w1 ⟨rfl, hb1⟩; have hA1 := hA.kept hb1; have c1 := cellF hA1.1; have c2 := cellF hA1.2.1))
      go_ret
      exact .inl ⟨rfl, by omega, hb1⟩
    · go_enter Try.func32, Try.ntmps32
      go_wp2_with ((go_at_call 44; (with_reducible refine (cf).mono ?_); rintro e w1 ⟨rfl, hb1⟩; have hA1 := hA.kept hb1; have c1 := cellF hA1.1; have c2 := cellF hA1.2.1; have f2 := (cells_of hA1.2.1).2.1))
      go_ret
      obtain ⟨q1, q2, q3, q4⟩ := HF.out w1 hb1
      exact .inr ⟨rfl, by omega, q1, q2, q3, fun v b hv => ⟨q4 v b hv, v, heap_set_other (Ytmjfbilhalkegaa.kept hb1 hv) hA.ne, .inl rfl⟩⟩
set_option maxRecDepth 100000 in
set_option maxHeartbeats 2000000 in
theorem sdrop_in_k {w : World} {g base k : Nat} {buy : Bool} {L : Nat → Array Value} (n : Int) {i : Nat} (h : SideIs w g base k buy L) (hi : fi (fun j => decide (N (L j) 0 = n)) k = i) :
    Calls Try.prog 33 #[.pointer (some ⟨g, 0, none⟩), .int .u64 n] w fun e w' => e = .returned (.tuple #[.agg (L i), .int .i64 0]) ∧ SideIs w' g base (k - 1) buy (rem L i) ∧ Below base w w' ∧ Ko g w w' ∧ Ks g w w' := by
  have h1 := h.kept (below_new w (Obj.cells zo 30))
  have hb0 := below_new w (Obj.cells zo 30)
  have hc := heap_alloc_new w (Obj.cells zo 30)
  have HZ := Lib.hid zo_size
  have HA := Lib.hid zo_all
  have cf := sfind_yes n h1 hi
  have hik := (fi_at k i hi).1
  obtain ⟨gb, rc, A, hR, hbb, hsz, hkr, hrc, htk⟩ := h.at_row (by omega)
  have HR := Lib.hid hR
  have HH := Lib.hid h
  have hgw := (cells_of hR.1).2.2
  have hgb := (cells_of hR.2.1).2.2
  have HOW := Lib.hid (show w.ownsRow base 30 5 (.slice (some ⟨gb, 0, none⟩) k rc) k (flat L k) from ⟨flatc_len (fun i => (h.ord i).size) k, .inr ⟨gb, rc, A, rfl, hbb, hR.2.1, hkr, by unfold maxLen; omega, hsz, htk⟩⟩)
  have HM := Lib.hid (h.ord i).size
  have HMA := Lib.hid (h.ord i).all
  have HMX := Lib.hid (extract_all (h.ord i).size)
  have HOS := Lib.hid h.ord
  have hiz : (i : Int) < k := by omega
  have hk9 := h.hk
  generalize hLi : L i = M at *
  have HLI := Lib.hid hLi
  clear h h1 hi htk hR hLi
  go_enter Try.func33, Try.ntmps33
  go_wp2_with (first | ((with_reducible refine at_alloc 30 ?_); refine wpList_alloc_named rfl 30 rfl zo (by kernel_rfl) ?_) | (go_at_call 44; (with_reducible refine (cf).mono ?_); rintro e w1 ⟨rfl, hb1⟩; have hb01 := below_then hb0 hb1; have hc1 := Ytmjfbilhalkegaa.kept hb1 hc; have hR1 := HR.out.kept hb01; have c1 := cellF hR1.1; have hA1 := hR1.2.1; have hbm := below_then hb01 (below_new w1 (Obj.cells M 30)); have cm := cellF (heap_up (o := Obj.cells M 30) hR1.1); have HX := Lib.hid (hR1.2.2 i hik); clear hR1; have hm1 := heap_alloc_new w1 (Obj.cells M 30); have hcm := heap_up (o := Obj.cells M 30) hc1) | ((with_reducible refine at_load 30 ?_); refine wpList_load_part rfl 30 _ rfl (gb) (i * 5) rfl _ (A) _ _ 5 (hA1) Try.underlying30 rfl (by kernel_rfl) (HX.out.1) (M) (by rw [← HLI.out]; exact HX.out.2) ?_) | ((with_reducible refine at_store 30 ?_); refine wpList_store_new rfl 30 _ _ rfl (M) _ _ _ rfl (by simp) rfl (by rw [HM.out]; kernel_rfl) (by rw [HM.out]; rfl) (HMA.out) ?_) | (go_at_call 45; (with_reducible refine (delo_any base k i L (some ⟨gb, 0, none⟩) rc _ (fun j => (HOS.out j).size) (fun j => (HOS.out j).all) (own_below hbm HOW.out) hik).mono ?_); rintro e w5 ⟨rfl, ho5, hb5, hoth⟩; have hsh := side_shrunk HH.out HR.out.1 hbm (own_below hbm HOW.out) hoth hb5 ho5; have cg5 := cellF hsh.1; have fg5 := (cells_of hsh.1).2.1; have hszw := hb01.size; have hm6 := heap_set_other (g := g) (i := 2) (v := Value.slice (some ⟨gb, 0, none⟩) (k - 1) rc) ((hoth w1.heap.size (by simp [Value.ownBlock]; omega)).trans hm1) (by omega); have hz6 := heap_set_other (g := g) (i := 2) (v := Value.slice (some ⟨gb, 0, none⟩) (k - 1) rc) ((hoth w.heap.size (by simp [Value.ownBlock]; omega)).trans hcm) (by omega)) | ((with_reducible refine at_load 30 ?_); refine wpList_load_part rfl 30 _ rfl (w1.heap.size) (0) rfl _ (M) _ _ 5 (hm6) Try.underlying30 rfl (by kernel_rfl) (by rw [HM.out]; omega) (M) (HMX.out) ?_) | ((with_reducible refine at_store 30 ?_); refine wpList_store_over rfl 30 _ _ rfl (w.heap.size) (M) rfl rfl _ _ (hz6) (by rw [HM.out]; kernel_rfl) (by rw [HM.out]; rfl) (HMA.out) ?_; intro w3 hg5 hs5 ho6 hb6))
  have hB6 := hb6 _ (Nat.le_refl _)
  obtain ⟨hsh1, f1, f2, f3, f4⟩ := hsh
  have hbg := f1.bg
  obtain ⟨vr, hgr, hrow⟩ := f1.row
  have hvr : vr = .slice (some ⟨gb, 0, none⟩) (k - 1) rc := by
    have := heap_set (i := 2) (v := Value.slice (some ⟨gb, 0, none⟩) (k - 1) rc) hsh1
    rw [hgr] at this
    simpa using this
  have hF1 : SideIs w3 g base (k - 1) buy (rem L i) := ⟨⟨vr, (ho6 g (by omega)).trans hgr, hrow.kept (row := some w.heap.size) ⟨hB6.os, hB6.tape, hB6.output, hB6.size, fun j _ hne => ho6 j (fun e => hne (by rw [e]))⟩ (.inr (by rw [hvr]; simp [Value.ownBlock]; omega))⟩, f1.ord, hbg, f1.hk⟩
  refine post_cell_tmp (g := w.heap.size) (t := 30) (v := .int .i64 0) rfl rfl rfl rfl hg5 Try.underlying30 rfl (by rw [HM.out]; kernel_rfl) ⟨rfl, hF1, f2.trans (hB6.mono (by omega)), ?_, fun v b hv => ?_⟩
  · exact f3.trans (fun j o ho hj hcc => (ho6 j (fun e => by subst e; rw [hz6] at hcc; exact ho _ _ (Option.some.inj hcc).symm)).trans hcc)
  · have h2 := hv
    rw [HR.out.1] at h2
    simp at h2
    obtain ⟨rfl, rfl⟩ := h2
    exact ⟨fun j hj hne hlt => (ho6 j (by omega)).trans (f4 _ _ hv j hj hne hlt), vr, (ho6 g (by omega)).trans hgr, .inl (by rw [hvr]; rfl)⟩
end Go.Proofs.Ytmjfbilhalkegaa
