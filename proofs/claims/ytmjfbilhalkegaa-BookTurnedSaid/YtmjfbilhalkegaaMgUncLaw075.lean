/- Texts that UncLaw07 stands on, one behind the other, part 5. Conditions: each theorem names its own. -/
import Derived.Test.YtmjfbilhalkegaaMgUncLaw074
import Derived.Maps.AppendAt
import Derived.Lib.SmallJoins
/-! Fill, Drop and Lower of a side: only its own two blocks are written. Condition: the side is one. -/
namespace Go.Proofs.Ytmjfbilhalkegaa
set_option linter.unusedVariables false
set_option linter.unusedSimpArgs false
open Go.RowKit

/-- of what lay there only the side and its row are written; its row is the same block, or a new one -/
def Ks (g : Nat) (A B : World) : Prop := ∀ v b, A.heap[g]? = some (.cells #[.bool true, .bool b, v] 77 (0, 0)) → (∀ i, i ≠ g → some i ≠ v.ownBlock → i < A.heap.size → B.heap[i]? = A.heap[i]?) ∧ ∃ v', B.heap[g]? = some (.cells #[.bool true, .bool b, v'] 77 (0, 0)) ∧ (v'.ownBlock = v.ownBlock ∨ ∃ q, v'.ownBlock = some q ∧ A.heap.size ≤ q)
theorem ks_below {g : Nat} {A B : World} (h : Below A.heap.size A B) : Ks g A B := fun v b hv => ⟨fun i _ _ hi => h.block i hi, v, Ytmjfbilhalkegaa.kept h hv, .inl rfl⟩
theorem ks_grown {w w1 w5 : World} {g : Nat} {buy : Bool} {v v5 : Value} (hg : w.heap[g]? = some (.cells #[.bool true, .bool buy, v] 77 (0, 0))) (hB : Below w.heap.size w w1) (hg5 : w1.grownBy w5 v.ownBlock) (hgq5 : w5.heap[g]? = some (.cells #[.bool true, .bool buy, v] 77 (0, 0)))
    (hat : v5.ownBlock = v.ownBlock ∨ ∃ q, v5.ownBlock = some q ∧ w1.heap.size ≤ q) : Ks g w (w5.setCell ⟨g, 2, none⟩ v5) := fun u b hu => by
  rw [hg] at hu
  simp at hu
  obtain ⟨rfl, rfl⟩ := hu
  have hs := hB.size
  refine ⟨fun i h1 h2 h3 => ?_, v5, heap_set (i := 2) (v := v5) hgq5, ?_⟩
  · rw [heap_setCell_other w5 ⟨g, 2, none⟩ i _ h1, hg5.block i (by omega) h2]
    exact hB.block i h3
  · rcases hat with e | ⟨q, e, hq⟩
    · exact .inl e
    · exact .inr ⟨q, e, by omega⟩
set_option maxRecDepth 100000 in
set_option maxHeartbeats 2000000 in
theorem sfill_some_k {w : World} {g base k : Nat} {buy : Bool} {L : Nat → Array Value} (n : Int) (h : SideIs w g base k buy L) (hk : 0 < k) (hn1 : 1 ≤ n) (hn2 : n < N (L 0) 4) :
    Calls Try.prog 42 #[.pointer (some ⟨g, 0, none⟩), .int .i64 n] w fun e w' => e = .returned (.tuple #[.agg (lo L 0 (N (L 0) 4 - n) 0), .int .i64 0]) ∧ SideIs w' g base k buy (lo L 0 (N (L 0) 4 - n)) ∧ Below base w w' ∧ Ko g w w' ∧ Ks g w w' := by
  obtain ⟨gb, rc, A, hA, hbb, hsz, hkr, hrc, htk⟩ := h.at_row hk
  have hb0 := below_new w (Obj.cells zo 30)
  have hA0 := hA.kept hb0
  have hg0 := cellF hA0.1
  have ha0 := cellF hA0.2.1
  have hf0 := (cells_of hA0.2.1).2.1
  have hx4 := (h.ord 0).l
  have hc4 := hA.cell (i := 0) (j := 4) hk (by omega)
  rw [hx4.1] at hc4
  have hwf : F64 (N (L 0) 4) := hx4.2
  obtain ⟨hw1, hw2⟩ := hwf
  have hst := side_set (i := 0) (y := N (L 0) 4 - n) h hA hbb hsz hkr hrc htk hk ⟨by omega, by omega⟩ (Below.refl _ w)
  rw [show 0 * 5 + 4 = 4 from rfl] at hst hc4
  have hszS : (w.setCell ⟨gb, 4, none⟩ (.int .i64 (N (L 0) 4 - n))).heap.size = w.heap.size := by simp [World.setCell]
  obtain ⟨gb2, rc2, A2, hA2, hbb2, hsz2, hkr2, hrc2, htk2⟩ := hst.1.at_row hk
  have e2 : gb2 = gb ∧ rc2 = rc := by
    have h1 := hA2.1
    rw [heap_set_other hA.1 hA.ne] at h1
    simp at h1
    exact ⟨h1.1.symm, h1.2.symm⟩
  obtain ⟨rfl, rfl⟩ := e2
  have hbz := below_new (w.setCell ⟨gb2, 4, none⟩ (.int .i64 (N (L 0) 4 - n))) (Obj.cells zo 30)
  have hA3 := hA2.kept hbz
  have hg3 := cellF hA3.1
  have ha3 := cellF hA3.2.1
  have hz3 := heap_alloc_new (w.setCell ⟨gb2, 4, none⟩ (.int .i64 (N (L 0) 4 - n))) (Obj.cells zo 30)
  have hM := hst.1.ord 0
  have hM4 : (lo L 0 (N (L 0) 4 - n) 0)[4]? = some (.int .i64 (N (L 0) 4 - n)) := by
    unfold lo; rw [if_pos rfl, Array.getElem?_setIfInBounds_self, if_pos (by rw [(h.ord 0).size]; omega)]
  have cr := sready_yes (h.kept hb0)
  have hgu : gb2 < w.heap.size := (cells_of hA.2.1).2.2
  have HX3 := Lib.hid (hA3.2.2 0 hk)
  have HG3 := Lib.hid hA3.2.1
  have HFIN := Lib.hid hst
  have HM := Lib.hid hM.size
  have HMa := Lib.hid hM.all
  have HZ := Lib.hid zo_size
  have hk0 : ¬ (k : Int) = 0 := by omega
  have hk1 : (0 : Int) < k := by omega
  have HNEb := Lib.hid hA.ne
  have hA2g := hA2
  clear hA hA0 hx4 htk hst hM hA3 hA2 hA2g htk2
  generalize hx : N (L 0) 4 = x at *
  generalize lo L 0 (x - n) 0 = M at *
  clear hx
  have hm1 : (((w.setCell ⟨gb2, 4, none⟩ (.int .i64 (x - n))).alloc (Obj.cells zo 30)).alloc (Obj.cells M 30)).heap[w.heap.size + 1]? = some (.cells M 30 (0, 0)) := by
    have := heap_alloc_new ((w.setCell ⟨gb2, 4, none⟩ (.int .i64 (x - n))).alloc (Obj.cells zo 30)) (Obj.cells M 30)
    rwa [show ((w.setCell ⟨gb2, 4, none⟩ (.int .i64 (x - n))).alloc (Obj.cells zo 30)).heap.size = w.heap.size + 1 by simp [hszS]] at this
  have hz4 : (((w.setCell ⟨gb2, 4, none⟩ (.int .i64 (x - n))).alloc (Obj.cells zo 30)).alloc (Obj.cells M 30)).heap[w.heap.size]? = some (.cells zo 30 (0, 0)) := by
    rw [hszS] at hz3
    exact heap_up hz3
  have HB4 := Lib.hid (below_alloc (below_new (w.setCell ⟨gb2, 4, none⟩ (.int .i64 (x - n))) (Obj.cells zo 30)) (Obj.cells M 30))
  have HMX := Lib.hid (show M.extract 0 (0 + 5) = M by rw [show 0 + 5 = M.size by rw [HM.out]]; simp)
  have hn3 : ¬ n < 1 := by omega
  have hn4 : ¬ x < n := by omega
  have hn5 : ¬ x - n = 0 := by omega
  have hne : gb2 ≠ w.heap.size := by omega
  go_enter Try.func42, Try.ntmps42
  go_wp2_with (first | ((with_reducible refine at_alloc 30 ?_); refine wpList_alloc_named rfl 30 rfl zo (by kernel_rfl) ?_) | (go_at_call 39; (with_reducible refine (cr).mono ?_); rintro e w1 ⟨rfl, rfl⟩) | ((with_reducible refine at_load 30 ?_); refine wpList_load_part rfl 30 _ rfl (gb2) (0) rfl _ (A2) _ _ 5 (HG3.out) Try.underlying30 rfl (by kernel_rfl) (by have := HX3.out.1; omega) (M) (by have := HX3.out.2; simpa using this) ?_) | ((with_reducible refine at_store 30 ?_); refine wpList_store_new rfl 30 _ _ rfl (M) _ _ _ rfl (by simp) rfl (by rw [HM.out]; kernel_rfl) (by rw [HM.out]; rfl) (HMa.out) ?_) | ((with_reducible refine at_load 30 ?_); refine wpList_load_part rfl 30 _ rfl (w.heap.size + 1) (0) rfl _ (M) _ _ 5 (hm1) Try.underlying30 rfl (by kernel_rfl) (by rw [HM.out]; omega) (M) (HMX.out) ?_) | ((with_reducible refine at_store 30 ?_); refine wpList_store_over rfl 30 _ _ rfl (w.heap.size) (M) rfl rfl _ _ (hz4) (by rw [HM.out]; kernel_rfl) (by rw [HM.out]; rfl) (HMa.out) ?_; intro w3 hg5 hs5 ho5 hb5))
  have hfr : ∀ j c t fr, j < w.heap.size → (w.setCell ⟨gb2, 4, none⟩ (.int .i64 (x - n))).heap[j]? = some (.cells c t fr) → w3.heap[j]? = some (.cells c t fr) := fun j c t fr hj h => (ho5 j (by omega)).trans (Ytmjfbilhalkegaa.kept HB4.out h)
  have hB5 : Below (w.setCell ⟨gb2, 4, none⟩ (.int .i64 (x - n))).heap.size (w.setCell ⟨gb2, 4, none⟩ (.int .i64 (x - n))) w3 := HB4.out.trans (hb5 _ (by omega))
  obtain ⟨f1, f2, f3, f4⟩ := HFIN.out
  have hbg := f1.bg
  obtain ⟨_, hgr, _⟩ := f1.row
  have hgl := (cells_of hgr).2.2
  refine post_cell_tmp (g := w.heap.size) (t := 30) (v := .int .i64 0) rfl rfl rfl rfl hg5 Try.underlying30 rfl (by rw [HM.out]; kernel_rfl) ⟨rfl, f1.kept hB5, f2.trans (hB5.mono (by omega)), f3.trans (ko_below hB5), fun v b hv => ⟨fun i hi hne hlt => (hB5.block i (by omega)).trans (f4 v b hv i hi hne hlt), v, (hB5.block g (by omega)).trans (heap_set_other hv HNEb.out), .inl rfl⟩⟩
set_option maxRecDepth 100000 in
set_option maxHeartbeats 2000000 in
theorem sfill_all_k {w : World} {g base k : Nat} {buy : Bool} {L : Nat → Array Value} (h : SideIs w g base k buy L) (hk : 0 < k) (hn1 : 1 ≤ N (L 0) 4) :
    Calls Try.prog 42 #[.pointer (some ⟨g, 0, none⟩), .int .i64 (N (L 0) 4)] w fun e w' => e = .returned (.tuple #[.agg (lo L 0 0 0), .int .i64 0]) ∧ SideIs w' g base (k - 1) buy (rem L 0) ∧ Below base w w' ∧ Ko g w w' ∧ Ks g w w' := by
  obtain ⟨gb, rc, A, hA, hbb, hsz, hkr, hrc, htk⟩ := h.at_row hk
  have hb0 := below_new w (Obj.cells zo 30)
  have hA0 := hA.kept hb0
  have hg0 := cellF hA0.1
  have ha0 := cellF hA0.2.1
  have hf0 := (cells_of hA0.2.1).2.1
  have hx4 := (h.ord 0).l
  have hc4 := hA.cell (i := 0) (j := 4) hk (by omega)
  rw [hx4.1] at hc4
  have hwf : F64 (N (L 0) 4) := hx4.2
  obtain ⟨hw1, hw2⟩ := hwf
  have hst := side_set (i := 0) (y := 0) h hA hbb hsz hkr hrc htk hk ⟨by omega, by omega⟩ (Below.refl _ w)
  rw [show 0 * 5 + 4 = 4 from rfl] at hst hc4
  have hszS : (w.setCell ⟨gb, 4, none⟩ (.int .i64 0)).heap.size = w.heap.size := by simp [World.setCell]
  obtain ⟨gb2, rc2, A2, hA2, hbb2, hsz2, hkr2, hrc2, htk2⟩ := hst.1.at_row hk
  have e2 : gb2 = gb ∧ rc2 = rc := by
    have h1 := hA2.1
    rw [heap_set_other hA.1 hA.ne] at h1
    simp at h1
    exact ⟨h1.1.symm, h1.2.symm⟩
  obtain ⟨rfl, rfl⟩ := e2
  have hbz := below_new (w.setCell ⟨gb2, 4, none⟩ (.int .i64 0)) (Obj.cells zo 30)
  have hA3 := hA2.kept hbz
  have hg3 := cellF hA3.1
  have ha3 := cellF hA3.2.1
  have hz3 := heap_alloc_new (w.setCell ⟨gb2, 4, none⟩ (.int .i64 0)) (Obj.cells zo 30)
  have hM := hst.1.ord 0
  have hM4 : (lo L 0 0 0)[4]? = some (.int .i64 0) := by
    unfold lo; rw [if_pos rfl, Array.getElem?_setIfInBounds_self, if_pos (by rw [(h.ord 0).size]; omega)]
  have cr := sready_yes (h.kept hb0)
  have hgu : gb2 < w.heap.size := (cells_of hA.2.1).2.2
  have HX3 := Lib.hid (hA3.2.2 0 hk)
  have HG3 := Lib.hid hA3.2.1
  have HFIN := Lib.hid hst
  have HM := Lib.hid hM.size
  have HMa := Lib.hid hM.all
  have HZ := Lib.hid zo_size
  have hk0 : ¬ (k : Int) = 0 := by omega
  have hk1 : (0 : Int) < k := by omega
  have HOW := Lib.hid (show (w.setCell ⟨gb2, 4, none⟩ (.int .i64 0)).ownsRow base 30 5 (.slice (some ⟨gb2, 0, none⟩) k rc2) k (flat (lo L 0 0) k) from ⟨flatc_len (fun i => (hst.1.ord i).size) k, .inr ⟨gb2, rc2, A2, rfl, hbb2, hA2.2.1, hkr2, by unfold maxLen; omega, hsz2, htk2⟩⟩)
  have HREM := Lib.hid (show rem (lo L 0 0) 0 = rem L 0 from funext fun r => by unfold rem lo; rw [if_neg (by omega), if_neg (by omega), if_neg (by omega)])
  have HOS := Lib.hid hst.1.ord
  have HAG := Lib.hid hA2.1
  have HGW := Lib.hid hA.1
  have HNE := Lib.hid hA2.ne
  have hA2g := hA2
  clear hA hA0 hx4 htk hst hM hA3 hA2 hA2g htk2
  generalize hx : N (L 0) 4 = x at *
  generalize hLS : lo L 0 0 = LS at *
  generalize hM0 : LS 0 = M at *
  clear hLS hM0
  clear hx
  have hm1 : (((w.setCell ⟨gb2, 4, none⟩ (.int .i64 0)).alloc (Obj.cells zo 30)).alloc (Obj.cells M 30)).heap[w.heap.size + 1]? = some (.cells M 30 (0, 0)) := by
    have := heap_alloc_new ((w.setCell ⟨gb2, 4, none⟩ (.int .i64 0)).alloc (Obj.cells zo 30)) (Obj.cells M 30)
    rwa [show ((w.setCell ⟨gb2, 4, none⟩ (.int .i64 0)).alloc (Obj.cells zo 30)).heap.size = w.heap.size + 1 by simp [hszS]] at this
  have hz4 : (((w.setCell ⟨gb2, 4, none⟩ (.int .i64 0)).alloc (Obj.cells zo 30)).alloc (Obj.cells M 30)).heap[w.heap.size]? = some (.cells zo 30 (0, 0)) := by
    rw [hszS] at hz3
    exact heap_up hz3
  have HB4 := Lib.hid (below_alloc (below_new (w.setCell ⟨gb2, 4, none⟩ (.int .i64 0)) (Obj.cells zo 30)) (Obj.cells M 30))
  have HMX := Lib.hid (show M.extract 0 (0 + 5) = M by rw [show 0 + 5 = M.size by rw [HM.out]]; simp)
  have cd : Calls Try.prog 45 #[.slice (some ⟨gb2, 0, none⟩) k rc2, .int .i64 0, .int .i64 1] (((w.setCell ⟨gb2, 4, none⟩ (.int .i64 0)).alloc (Obj.cells zo 30)).alloc (Obj.cells M 30)) _ := delo_any base k 0 LS (some ⟨gb2, 0, none⟩) rc2 (((w.setCell ⟨gb2, 4, none⟩ (.int .i64 0)).alloc (Obj.cells zo 30)).alloc (Obj.cells M 30)) (fun j => (HOS.out j).size) (fun j => (HOS.out j).all) (own_below HB4.out HOW.out) hk
  have CD := Lib.hid cd
  have hgg : g < w.heap.size := by
    have := (cells_of HAG.out).2.2
    omega
  have hgD := cellF (Ytmjfbilhalkegaa.kept HB4.out HAG.out)
  clear cd
  have hn3 : ¬ x < 1 := by omega
  have hne : gb2 ≠ w.heap.size := by omega
  go_enter Try.func42, Try.ntmps42
  go_wp2_with (first | ((with_reducible refine at_alloc 30 ?_); refine wpList_alloc_named rfl 30 rfl zo (by kernel_rfl) ?_) | (go_at_call 39; (with_reducible refine (cr).mono ?_); rintro e w1 ⟨rfl, rfl⟩) | ((with_reducible refine at_load 30 ?_); refine wpList_load_part rfl 30 _ rfl (gb2) (0) rfl _ (A2) _ _ 5 (HG3.out) Try.underlying30 rfl (by kernel_rfl) (by have := HX3.out.1; omega) (M) (by have := HX3.out.2; simpa using this) ?_) | ((with_reducible refine at_store 30 ?_); refine wpList_store_new rfl 30 _ _ rfl (M) _ _ _ rfl (by simp) rfl (by rw [HM.out]; kernel_rfl) (by rw [HM.out]; rfl) (HMa.out) ?_) | (go_at_call 45; (with_reducible refine (CD.out).mono ?_); rintro e w5 ⟨rfl, ho5, hb5, hoth⟩; have hsh := side_shrunk HFIN.out.1 HAG.out HB4.out (own_below HB4.out HOW.out) hoth hb5 ho5; have cg5 := cellF hsh.1; have fg5 := (cells_of hsh.1).2.1; have hm6 := heap_set_other (g := g) (i := 2) (v := Value.slice (some ⟨gb2, 0, none⟩) (k - 1) rc2) ((hoth (w.heap.size + 1) (by simp [Value.ownBlock]; omega)).trans hm1) (by omega); have hz6 := heap_set_other (g := g) (i := 2) (v := Value.slice (some ⟨gb2, 0, none⟩) (k - 1) rc2) ((hoth w.heap.size (by simp [Value.ownBlock]; omega)).trans hz4) (by omega)) | ((with_reducible refine at_load 30 ?_); refine wpList_load_part rfl 30 _ rfl (w.heap.size + 1) (0) rfl _ (M) _ _ 5 (hm6) Try.underlying30 rfl (by kernel_rfl) (by rw [HM.out]; omega) (M) (HMX.out) ?_) | ((with_reducible refine at_store 30 ?_); refine wpList_store_over rfl 30 _ _ rfl (w.heap.size) (M) rfl rfl _ _ (hz6) (by rw [HM.out]; kernel_rfl) (by rw [HM.out]; rfl) (HMa.out) ?_; intro w3 hg5 hs5 ho6 hb6))
  have hB6 := hb6 _ (Nat.le_refl _)
  obtain ⟨hsh1, f1, f2, f3, f4⟩ := hsh
  rw [HREM.out] at f1
  obtain ⟨p1, p2, p3, p4⟩ := HFIN.out
  have hbg := f1.bg
  obtain ⟨vr, hgr, hrow⟩ := f1.row
  have hvr : vr = .slice (some ⟨gb2, 0, none⟩) (k - 1) rc2 := by
    have := heap_set (i := 2) (v := Value.slice (some ⟨gb2, 0, none⟩) (k - 1) rc2) hsh1
    rw [hgr] at this
    simpa using this
  have hF1 : SideIs w3 g base (k - 1) buy (rem L 0) := ⟨⟨vr, (ho6 g (by omega)).trans hgr, hrow.kept (row := some w.heap.size) ⟨hB6.os, hB6.tape, hB6.output, hB6.size, fun j _ hne => ho6 j (fun e => hne (by rw [e]))⟩ (.inr (by rw [hvr]; simp [Value.ownBlock]; omega))⟩, f1.ord, hbg, f1.hk⟩
  refine post_cell_tmp (g := w.heap.size) (t := 30) (v := .int .i64 0) rfl rfl rfl rfl hg5 Try.underlying30 rfl (by rw [HM.out]; kernel_rfl) ⟨rfl, hF1, ?_, ?_, fun v b hv => ?_⟩
  · exact (p2.trans f2).trans (hB6.mono (by omega))
  · exact p3.trans (f3.trans (fun i o ho hi hc => (ho6 i (fun e => by subst e; rw [hz6] at hc; exact ho _ _ (Option.some.inj hc).symm)).trans hc))
  · have hv2 := HAG.out
    have hg2 : v.ownBlock = some gb2 := by
      have h2 := hv
      have h3 := HGW.out
      rw [h3] at h2
      simp at h2
      rw [← h2.2]; rfl
    refine ⟨fun i hi hne hlt => (ho6 i (by omega)).trans ((f4 _ _ hv2 i hi (by rw [hg2] at hne; exact hne) (by rw [hszS]; exact hlt)).trans (p4 v b hv i hi hne hlt)), vr, ?_, .inl (by rw [hvr, hg2]; rfl)⟩
    have h2 := hv
    rw [HGW.out] at h2
    simp at h2
    obtain ⟨rfl, _⟩ := h2
    exact (ho6 g (by omega)).trans hgr
set_option maxHeartbeats 1000000 in
theorem slower_in_k {w : World} {g base k : Nat} {buy : Bool} {L : Nat → Array Value} (n x : Int) {i : Nat} (h : SideIs w g base k buy L) (hi : fi (fun j => decide (N (L j) 0 = n)) k = i) (hx : F64 x) :
    Calls Try.prog 32 #[.pointer (some ⟨g, 0, none⟩), .int .u64 n, .int .i64 x] w fun e w' => (e = .returned (.int .i64 2) ∧ ¬ (1 ≤ x ∧ x ≤ N (L i) 4) ∧ Below w.heap.size w w') ∨
      (e = .returned (.int .i64 0) ∧ (1 ≤ x ∧ x ≤ N (L i) 4) ∧ SideIs w' g base k buy (lo L i x) ∧ Below base w w' ∧ Ko g w w' ∧ Ks g w w') := by
  have cf := sfind_yes n h hi
  have hik := (fi_at k i hi).1
  obtain ⟨gb, rc, A, hA, hbb, hsz, hkr, hrc, htk⟩ := h.at_row (by omega)
  have HF := Lib.hid (fun (w1 : World) (hb1 : Below w.heap.size w w1) => side_set h hA hbb hsz hkr hrc htk hik hx hb1)
  have hc4 := hA.cell (i := i) (j := 4) hik (by omega)
  rw [(h.ord i).l.1] at hc4
  have hfi := fi_bd (q := fun j => decide (N (L j) 0 = n)) k
  have HA := Lib.hid hA
  have hiz : (i : Int) < k := by omega
  clear h hi hA htk hfi
  generalize hN : N (L i) 4 = y at *
  clear hN
  have hA := HA.out
  by_cases h1 : x < 1
  · go_enter Try.func32, Try.ntmps32
    go_wp2_with ((go_at_call 44; (with_reducible refine (cf).mono ?_); rintro e w1 ⟨rfl, hb1⟩; have hA1 := hA.kept hb1; have c1 := cellF hA1.1; have c2 := cellF hA1.2.1))
    go_ret
    exact .inl ⟨rfl, by omega, hb1⟩
  · by_cases h2 : y < x
    · go_enter Try.func32, Try.ntmps32
      go_wp2_with ((go_at_call 44; (with_reducible refine (cf).mono ?_); rintro e w1 ⟨rfl, hb1⟩; have hA1 := hA.kept hb1; have c1 := cellF hA1.1; have c2 := cellF hA1.2.1))
      go_ret
      exact .inl ⟨rfl, by omega, hb1⟩
    · go_enter Try.func32, Try.ntmps32
      go_wp2_with ((go_at_call 44; (with_reducible refine (cf).mono ?_); rintro e w1 ⟨rfl, hb1⟩; have hA1 := hA.kept hb1; have c1 := cellF hA1.1; have c2 := cellF hA1.2.1; have f2 := (cells_of hA1.2.1).2.1))
      go_ret
      obtain ⟨q1, q2, q3, q4⟩ := HF.out w1 hb1
      exact .inr ⟨rfl, by omega, q1, q2, q3, fun v b hv => ⟨q4 v b hv, v, heap_set_other (Ytmjfbilhalkegaa.kept hb1 hv) hA.ne, .inl rfl⟩⟩
set_option maxRecDepth 100000 in
set_option maxHeartbeats 2000000 in
theorem sdrop_in_k {w : World} {g base k : Nat} {buy : Bool} {L : Nat → Array Value} (n : Int) {i : Nat} (h : SideIs w g base k buy L) (hi : fi (fun j => decide (N (L j) 0 = n)) k = i) :
    Calls Try.prog 33 #[.pointer (some ⟨g, 0, none⟩), .int .u64 n] w fun e w' => e = .returned (.tuple #[.agg (L i), .int .i64 0]) ∧ SideIs w' g base (k - 1) buy (rem L i) ∧ Below base w w' ∧ Ko g w w' ∧ Ks g w w' := by
  have h1 := h.kept (below_new w (Obj.cells zo 30))
  have hb0 := below_new w (Obj.cells zo 30)
  have hc := heap_alloc_new w (Obj.cells zo 30)
  have HZ := Lib.hid zo_size
  have HA := Lib.hid zo_all
  have cf := sfind_yes n h1 hi
  have hik := (fi_at k i hi).1
  obtain ⟨gb, rc, A, hR, hbb, hsz, hkr, hrc, htk⟩ := h.at_row (by omega)
  have HR := Lib.hid hR
  have HH := Lib.hid h
  have hgw := (cells_of hR.1).2.2
  have hgb := (cells_of hR.2.1).2.2
  have HOW := Lib.hid (show w.ownsRow base 30 5 (.slice (some ⟨gb, 0, none⟩) k rc) k (flat L k) from ⟨flatc_len (fun i => (h.ord i).size) k, .inr ⟨gb, rc, A, rfl, hbb, hR.2.1, hkr, by unfold maxLen; omega, hsz, htk⟩⟩)
  have HM := Lib.hid (h.ord i).size
  have HMA := Lib.hid (h.ord i).all
  have HMX := Lib.hid (extract_all (h.ord i).size)
  have HOS := Lib.hid h.ord
  have hiz : (i : Int) < k := by omega
  have hk9 := h.hk
  generalize hLi : L i = M at *
  have HLI := Lib.hid hLi
  clear h h1 hi htk hR hLi
  go_enter Try.func33, Try.ntmps33
  go_wp2_with (first | ((with_reducible refine at_alloc 30 ?_); refine wpList_alloc_named rfl 30 rfl zo (by kernel_rfl) ?_) | (go_at_call 44; (with_reducible refine (cf).mono ?_); rintro e w1 ⟨rfl, hb1⟩; have hb01 := below_then hb0 hb1; have hc1 := Ytmjfbilhalkegaa.kept hb1 hc; have hR1 := HR.out.kept hb01; have c1 := cellF hR1.1; have hA1 := hR1.2.1; have hbm := below_then hb01 (below_new w1 (Obj.cells M 30)); have cm := cellF (heap_up (o := Obj.cells M 30) hR1.1); have HX := Lib.hid (hR1.2.2 i hik); clear hR1; have hm1 := heap_alloc_new w1 (Obj.cells M 30); have hcm := heap_up (o := Obj.cells M 30) hc1) | ((with_reducible refine at_load 30 ?_); refine wpList_load_part rfl 30 _ rfl (gb) (i * 5) rfl _ (A) _ _ 5 (hA1) Try.underlying30 rfl (by kernel_rfl) (HX.out.1) (M) (by rw [← HLI.out]; exact HX.out.2) ?_) | ((with_reducible refine at_store 30 ?_); refine wpList_store_new rfl 30 _ _ rfl (M) _ _ _ rfl (by simp) rfl (by rw [HM.out]; kernel_rfl) (by rw [HM.out]; rfl) (HMA.out) ?_) | (go_at_call 45; (with_reducible refine (delo_any base k i L (some ⟨gb, 0, none⟩) rc _ (fun j => (HOS.out j).size) (fun j => (HOS.out j).all) (own_below hbm HOW.out) hik).mono ?_); rintro e w5 ⟨rfl, ho5, hb5, hoth⟩; have hsh := side_shrunk HH.out HR.out.1 hbm (own_below hbm HOW.out) hoth hb5 ho5; have cg5 := cellF hsh.1; have fg5 := (cells_of hsh.1).2.1; have hszw := hb01.size; have hm6 := heap_set_other (g := g) (i := 2) (v := Value.slice (some ⟨gb, 0, none⟩) (k - 1) rc) ((hoth w1.heap.size (by simp [Value.ownBlock]; omega)).trans hm1) (by omega); have hz6 := heap_set_other (g := g) (i := 2) (v := Value.slice (some ⟨gb, 0, none⟩) (k - 1) rc) ((hoth w.heap.size (by simp [Value.ownBlock]; omega)).trans hcm) (by omega)) | ((with_reducible refine at_load 30 ?_); refine wpList_load_part rfl 30 _ rfl (w1.heap.size) (0) rfl _ (M) _ _ 5 (hm6) Try.underlying30 rfl (by kernel_rfl) (by rw [HM.out]; omega) (M) (HMX.out) ?_) | ((with_reducible refine at_store 30 ?_); refine wpList_store_over rfl 30 _ _ rfl (w.heap.size) (M) rfl rfl _ _ (hz6) (by rw [HM.out]; kernel_rfl) (by rw [HM.out]; rfl) (HMA.out) ?_; intro w3 hg5 hs5 ho6 hb6))
  have hB6 := hb6 _ (Nat.le_refl _)
  obtain ⟨hsh1, f1, f2, f3, f4⟩ := hsh
  have hbg := f1.bg
  obtain ⟨vr, hgr, hrow⟩ := f1.row
  have hvr : vr = .slice (some ⟨gb, 0, none⟩) (k - 1) rc := by
    have := heap_set (i := 2) (v := Value.slice (some ⟨gb, 0, none⟩) (k - 1) rc) hsh1
    rw [hgr] at this
    simpa using this
  have hF1 : SideIs w3 g base (k - 1) buy (rem L i) := ⟨⟨vr, (ho6 g (by omega)).trans hgr, hrow.kept (row := some w.heap.size) ⟨hB6.os, hB6.tape, hB6.output, hB6.size, fun j _ hne => ho6 j (fun e => hne (by rw [e]))⟩ (.inr (by rw [hvr]; simp [Value.ownBlock]; omega))⟩, f1.ord, hbg, f1.hk⟩
  refine post_cell_tmp (g := w.heap.size) (t := 30) (v := .int .i64 0) rfl rfl rfl rfl hg5 Try.underlying30 rfl (by rw [HM.out]; kernel_rfl) ⟨rfl, hF1, f2.trans (hB6.mono (by omega)), ?_, fun v b hv => ?_⟩
  · exact f3.trans (fun j o ho hj hcc => (ho6 j (fun e => by subst e; rw [hz6] at hcc; exact ho _ _ (Option.some.inj hcc).symm)).trans hcc)
  · have h2 := hv
    rw [HR.out.1] at h2
    simp at h2
    obtain ⟨rfl, rfl⟩ := h2
    exact ⟨fun j hj hne hlt => (ho6 j (by omega)).trans (f4 _ _ hv j hj hne hlt), vr, (ho6 g (by omega)).trans hgr, .inl (by rw [hvr]; rfl)⟩
end Go.Proofs.Ytmjfbilhalkegaa
/-! slices.Insert of one element into a row of the call's own: the row is the same block, or a new one. No condition. -/
namespace Go.Proofs.Ytmjfbilhalkegaa
set_option linter.unusedVariables false
set_option linter.unusedSimpArgs false
open Go.RowKit

theorem own_some {w : World} {b c k : Nat} {e : TypeId} {v : Value} {xs : List Value} (h : w.ownsRow b e c v (k + 1) xs) : v.ownBlock ≠ none := by
  obtain ⟨_, ⟨_, h0⟩ | ⟨g, cap, cur, rfl, _⟩⟩ := h
  · omega
  · intro e; cases e
set_option maxRecDepth 100000 in
set_option maxHeartbeats 2000000 in
/-- behind the last -/
theorem insend_at (base k : Nat) (xs : List Value) (v : Value) (gx : Nat) (B : Array Value) (w : World) (ho : w.ownsRow base 30 5 v k xs) (hk : k ≤ 1000) (hB : B.size = 5) (hB1 : B.all (·.oneCell') = true) (hx : w.heap[gx]? = some (.cells B 30 (0, 0))) (hb : base ≤ w.heap.size) :
    Calls Try.prog 51 #[v, .int .i64 k, .slice (some ⟨gx, 0, none⟩) 1 1] w fun e w' => ∃ v', e = .returned v' ∧ w'.ownsRow base 30 5 v' (k + 1) (xs ++ B.toList) ∧ w.grownBy w' v.ownBlock ∧ (v'.ownBlock = v.ownBlock ∨ ∃ q, v'.ownBlock = some q ∧ w.heap.size ≤ q) := by
  obtain ⟨i, z, h1, h2, h3, h4, h5⟩ := info_ord
  have HO := Lib.hid ho
  have HX := Lib.hid (fun j u (hj : B.toList[j]? = some u) => show w.cell? ((⟨gx, 0, none⟩ : Addr).add j) = some u from by
    have h2 : (⟨gx, 0, none⟩ : Addr).add j = ⟨gx, j, none⟩ := by unfold Addr.add; split <;> simp_all
    rw [h2, cellF hx]
    simpa using hj)
  have HB := Lib.hid (fun u (hu : u ∈ B.toList) => show u.oneCell' = true from by rw [Array.all_eq_true'] at hB1; exact hB1 u (by simpa using hu))
  have HL := Lib.hid (show B.toList.length = 1 * 5 by simp [hB])
  have HBY := Lib.hid (show (k + 1) * i.bytes ≤ 140737488355328 from by have := Nat.mul_le_mul (show k + 1 ≤ 1001 by omega) h4; omega)
  have hm : ((v = .slice none 0 0 ∧ k = 0) ∨ ∃ g rc, v = .slice (some ⟨g, 0, none⟩) k rc ∧ k ≤ rc ∧ rc ≤ 9223372036854775807) := by
    rcases ho.2 with h | ⟨g, cap, cur, hv, _, _, hn, hm, _⟩
    · exact .inl h
    · exact .inr ⟨g, cap, hv, hn, by unfold maxLen at hm; omega⟩
  clear ho hB1 hx
  rcases hm with ⟨rfl, rfl⟩ | ⟨g, rc, rfl, hkr, hrc⟩
  · go_enter Try.func51, Try.ntmps51
    go_wp2_with ((with_reducible refine at_append_ord ?_); refine wpList_append_own_at w rfl _ _ _ rfl base 30 i z 5 i.bytes Try.underlying35 h1 h2 h3 rfl h5 (by omega) _ _ _ rfl HO.out ⟨gx, 0, none⟩ 1 1 B.toList rfl HL.out HX.out HB.out (by unfold maxLen; omega) HBY.out hb ?_; intro v' w1 ho1 hg1 _ hat1)
    go_ret
    exact ⟨_, rfl, ho1, hg1, hat1.imp id (fun e => ⟨_, e, Nat.le_refl _⟩)⟩
  · by_cases hck : rc = k
    · subst hck
      go_enter Try.func51, Try.ntmps51
      go_wp2_with ((with_reducible refine at_append_ord ?_); refine wpList_append_own_at w rfl _ _ _ rfl base 30 i z 5 i.bytes Try.underlying35 h1 h2 h3 rfl h5 (by omega) _ _ _ rfl HO.out ⟨gx, 0, none⟩ 1 1 B.toList rfl HL.out HX.out HB.out (by unfold maxLen; omega) HBY.out hb ?_; intro v' w1 ho1 hg1 _ hat1)
      go_ret
      exact ⟨_, rfl, ho1, hg1, hat1.imp id (fun e => ⟨_, e, Nat.le_refl _⟩)⟩
    · go_enter Try.func51, Try.ntmps51
      go_wp2_with ((with_reducible refine at_append_ord ?_); refine wpList_append_own_at w rfl _ _ _ rfl base 30 i z 5 i.bytes Try.underlying35 h1 h2 h3 rfl h5 (by omega) _ _ _ rfl HO.out ⟨gx, 0, none⟩ 1 1 B.toList rfl HL.out HX.out HB.out (by unfold maxLen; omega) HBY.out hb ?_; intro v' w1 ho1 hg1 _ hat1)
      go_ret
      exact ⟨_, rfl, ho1, hg1, hat1.imp id (fun e => ⟨_, e, Nat.le_refl _⟩)⟩
/-- slices.Insert of one element at whatever place of a row of the call's own -/
theorem insany_at (base k i : Nat) (L : Nat → Array Value) (v : Value) (gx : Nat) (B : Array Value) (w : World) (hL : ∀ i, (L i).size = 5) (h1L : ∀ i, (L i).all (·.oneCell') = true) (ho : w.ownsRow base 30 5 v k (flat L k)) (hk : k ≤ 1000) (hi : i ≤ k) (hB : B.size = 5) (hB1 : B.all (·.oneCell') = true)
    (hx : w.heap[gx]? = some (.cells B 30 (0, 0))) (hne : some gx ≠ v.ownBlock) (hb : base ≤ w.heap.size) :
    Calls Try.prog 51 #[v, .int .i64 i, .slice (some ⟨gx, 0, none⟩) 1 1] w fun e w' => ∃ v', e = .returned v' ∧ w'.ownsRow base 30 5 v' (k + 1) (flat (ins L i B) (k + 1)) ∧ w.grownBy w' v.ownBlock ∧ (v'.ownBlock = v.ownBlock ∨ ∃ q, v'.ownBlock = some q ∧ w.heap.size ≤ q) := by
  have hfl := flatc_len hL k
  rw [← flat_ins (by omega) hL hB hi]
  by_cases hik : i = k
  · subst hik
    rw [List.take_of_length_le (by rw [hfl]; omega), List.drop_of_length_le (by rw [hfl]; omega), List.append_nil]
    exact insend_at base i (flat L i) v gx B w ho hk hB hB1 hx hb
  · obtain ⟨_, ⟨rfl, h0⟩ | ⟨g, cap, cur, rfl, hbg, hg, hn, hm, hc, ht⟩⟩ := ho
    · omega
    · have hng : gx ≠ g := fun e => hne (by rw [e]; rfl)
      unfold maxLen at hm
      by_cases hroom : k + 1 ≤ cap
      · exact (insroom_ord base k i g cap gx (flat L k) B cur w hbg hg hc ht hfl (flatc_one h1L k) (by omega) hroom (by omega) hB hB1 hx hng).mono fun e w' ⟨h1, h2, h3⟩ => ⟨_, h1, h2, h3, .inl rfl⟩
      · exact (insgrow_ord w.heap.size k i g cap gx (flat L k) B cur w hg ht hfl (flatc_one h1L k) (by omega) hk hn (by omega) hB hB1 hx (Nat.le_refl _)).mono fun e w' ⟨v', h1, h2, h3⟩ => ⟨v', h1, Go.Joins.ownsRow_le h2 hb, h3, by
        cases hq : v'.ownBlock with
        | none => exact absurd hq (own_some h2)
        | some q => exact .inr ⟨q, rfl, (h2.lt q hq).1⟩⟩
end Go.Proofs.Ytmjfbilhalkegaa
/-! Add of a side: only its own two blocks are written. Condition: the side is one, the order may come. -/
namespace Go.Proofs.Ytmjfbilhalkegaa
set_option linter.unusedVariables false
set_option linter.unusedSimpArgs false
open Go.RowKit

set_option maxRecDepth 100000 in
set_option maxHeartbeats 4000000 in
theorem sadd_ok_k {w : World} {g base k : Nat} {L : Nat → Array Value} {B : Array Value} (buy : Bool) (h : SideIs w g base k buy L) (hB : IsOrd B) (hok : okO B = true) (hbuy : Bo B 2 = buy) (hfr : ∀ i, i < k → N (L i) 0 ≠ N B 0) (hk : k < 100) :
    Calls Try.prog 43 #[.pointer (some ⟨g, 0, none⟩), .agg B] w fun e w' => e = .returned (.int .i64 0) ∧ SideIs w' g base (k + 1) buy (ins L (plc buy L B k) B) ∧ Below base w w' ∧ Ko g w w' ∧ Ks g w w' := by
  have hb2 := below_alloc (below_new w (Obj.cells #[.pointer (some ⟨g, 0, none⟩)] 54)) (Obj.cells B 30)
  have hgo : ((w.alloc (Obj.cells #[.pointer (some ⟨g, 0, none⟩)] 54)).alloc (Obj.cells B 30)).heap[w.heap.size + 1]? = some (.cells B 30 (0, 0)) := by repeat (first | exact heap_new (by simp; done) | refine heap_up ?_)
  have hgs : ((w.alloc (Obj.cells #[.pointer (some ⟨g, 0, none⟩)] 54)).alloc (Obj.cells B 30)).heap[w.heap.size]? = some (.cells #[.pointer (some ⟨g, 0, none⟩)] 54 (0, 0)) := by repeat (first | exact heap_new (by simp; done) | refine heap_up ?_)
  obtain ⟨w2, hw2⟩ : ∃ w2, w2 = (w.alloc (Obj.cells #[.pointer (some ⟨g, 0, none⟩)] 54)).alloc (Obj.cells B 30) := ⟨_, rfl⟩
  have HS := Lib.hid h
  obtain ⟨v, hg, hrow⟩ := h.row
  obtain ⟨ra, rc, rfl, hR, _⟩ := own_rows (c := 5) (fun i => (h.ord i).size) hrow
  have HR := Lib.hid hR
  have HG := Lib.hid hg
  have HROW := Lib.hid hrow
  have hN0 := hB.n.1
  have hB2 : B[2]? = some (.bool buy) := by rw [← hbuy]; exact hB.b
  have HB := Lib.hid hB
  have HEX := Lib.hid (extract_all hB.size)
  have CM := Lib.hid (fun w1 => smay_yes B w1 hB hok)
  have HAT := Lib.hid (fi_no (q := fun i => decide (N (L i) 0 = N B 0)) k fun j hj => decide_eq_false (hfr j hj))
  clear h hB hok hfr hg hrow hbuy hR
  go_enter Try.func43, Try.ntmps43
  rw [← hw2] at hb2 hgo hgs
  have hS2 := HS.out.kept hb2
  have hg2 := Ytmjfbilhalkegaa.kept hb2 HG.out
  have cs2 := cellF hgs
  have co2 := cellF hgo
  have cg2 := cellF hg2
  have cr := sready_yes hS2
  rw [hw2] at cs2 co2 cg2 cr
  go_wp2_with ((go_at_call 39; (with_reducible refine (cr).mono ?_); rintro e w1 ⟨rfl, rfl⟩))
  rw [← hw2] at cs2 co2 cg2 cr ⊢
  have hsz2 : w2.heap.size = w.heap.size + 2 := by rw [hw2]; simp
  clear hw2 cr cs2 co2 cg2
  refine wp_region_below (by kernel_rfl) (by kernel_rfl) ?_
  repeat (first | ((with_reducible apply q_skip); (case hw => rfl); (try simp only [Act.put, List.setIfInBounds_toArray, List.set_cons_zero, List.set_cons_succ])) | ((with_reducible refine at_qload 30 ?_); refine q_load_part (by rfl) 30 _ rfl (w.heap.size + 1) (0) rfl _ (B) _ 5 (hgo) Try.underlying30 rfl (by kernel_rfl) (by rw [HB.out.size]; omega) (B) (HEX.out) ?_; try simp only [Act.put, List.setIfInBounds_toArray, List.set_cons_zero, List.set_cons_succ]) | ((with_reducible refine at_qcall 26 ?_); refine q_call_below _ 26 _ (by rfl) (CM.out) (fun wq hbq => by go_simp) ?_; try simp only [Act.put, List.setIfInBounds_toArray, List.set_cons_zero, List.set_cons_succ]) | ((with_reducible apply q_val); (case hw => rfl); (case hv => intro wq hbq; have hcq := cellF (Ytmjfbilhalkegaa.kept hbq hgo); have hcr := cellF (Ytmjfbilhalkegaa.kept hbq hg2); have hcs := cellF (Ytmjfbilhalkegaa.kept hbq hgs); go_simp; try rfl); (try simp only [Act.put, List.setIfInBounds_toArray, List.set_cons_zero, List.set_cons_succ])))
  refine q_nil ?_
  intro w6 hb6
  have hb62 := below_then hb2 hb6
  have hS6 := HS.out.kept hb62
  have hgo6 := Ytmjfbilhalkegaa.kept hb6 hgo
  have hgs6 := Ytmjfbilhalkegaa.kept hb6 hgs
  have hg6 := Ytmjfbilhalkegaa.kept hb6 hg2
  have ca := sat_any (N B 0) hS6
  rw [HAT.out] at ca
  clear hS2 hg2 hgo hgs
  have co := cellF hgo6
  have cs := cellF hgs6
  have hmf : ∀ (fn : Fn) (first cap : Array Value) (w : World), (Instr.makeFunc fn first cap).run Try.prog w = .ok (.func fn first cap) w := fun _ _ _ _ => rfl
  have h100 : ¬ (100 : Int) ≤ k := by omega
  go_wp2_with ((go_at_call 48; (with_reducible refine (ca).mono ?_); rintro e w7 ⟨rfl, hb7⟩; have cs7 := cellF (Ytmjfbilhalkegaa.kept hb7 hgs6); have cg7 := cellF (Ytmjfbilhalkegaa.kept hb7 hg6)))
  have hb67 := below_then hb62 hb7
  refine (idxadd_any ra rc k L B HB.out buy (.slice ra k rc) g w.heap.size (w.heap.size + 1) w7 HS.out.ord (rowsT_kept HR.out hb67) (by omega) (Ytmjfbilhalkegaa.kept hb7 hgs6) (Ytmjfbilhalkegaa.kept hb7 hgo6) (Ytmjfbilhalkegaa.kept hb7 hg6)).mono ?_
  rintro e w8 ⟨rfl, hb8⟩
  have hb78 := below_then hb7 hb8
  have hg8 := Ytmjfbilhalkegaa.kept hb78 hg6
  have hgs8 := Ytmjfbilhalkegaa.kept hb78 hgs6
  have hgo8 := Ytmjfbilhalkegaa.kept hb78 hgo6
  have hb86 := below_then hb62 hb78
  have HPL := Lib.hid (show plc buy L B k = if fi (fun i => bet buy (N B 3) (N (L i) 3)) k < 0 then k else (fi (fun i => bet buy (N B 3) (N (L i) 3)) k).toNat from rfl)
  have hfb := fi_bd (q := fun i => bet buy (N B 3) (N (L i) 3)) k
  generalize fi (fun i => bet buy (N B 3) (N (L i) 3)) k = pv at *
  clear co cs hmf h100 hS6 hg6 hgs6 hgo6 cs7 cg7 ca
  have cs8 := cellF hgs8
  have cg8 := cellF hg8
  by_cases hp : pv < 0
  · have hplc : plc buy L B k = k := by rw [HPL.out, if_pos hp]
    have HPC := Lib.hid hplc
    have hple : k ≤ k := Nat.le_refl _
    clear hplc
    go_wp2_with fail
    clear cs8 cg8
    refine wp_region_held (S := fun wt => wt.heap[w.heap.size + 1]? = some (.cells B 30 (0, 0)) ∧ wt.heap[w.heap.size]? = some (.cells #[.pointer (some ⟨g, 0, none⟩)] 54 (0, 0))) (by kernel_rfl) ?_
    change wpAnyH _ _ _ _ _ _ _ _ (World.drew _)
    obtain ⟨wq, hwq⟩ : ∃ wq, wq = w8.drew := ⟨_, rfl⟩
    have hBq : Below w.heap.size w wq := by rw [hwq]; exact Below.drew hb86
    have hoq := own_below hBq HROW.out
    have hgq := Ytmjfbilhalkegaa.kept hBq HG.out
    have HSH : wq.heap[w.heap.size + 1]? = some (.cells B 30 (0, 0)) ∧ wq.heap[w.heap.size]? = some (.cells #[.pointer (some ⟨g, 0, none⟩)] 54 (0, 0)) := by rw [hwq]; exact ⟨hgo8, hgs8⟩
    have hszq : w.heap.size + 1 < wq.heap.size := (Array.getElem?_eq_some_iff.1 HSH.1).1
    have HS0 := HS
    clear HS
    have HS := HSH
    rw [← hwq]
    clear hwq HSH hgo8 hgs8 hg8
    (refine wpAnyH_take (i := 0) (v := ?_) rfl (by kernel_rfl) (by kernel_rfl) (by kernel_rfl) (fun _ _ _ h => h) (Or.inl ⟨by rfl, ?ht_0⟩) HS ?_); (case ht_0 => (intro wt hS; have cg := cellF hS.2; go_simp; try with_reducible rfl)); (try simp only [Act.put, List.getElem_toArray, List.getElem_cons_zero, List.getElem_cons_succ, List.setIfInBounds_toArray, List.set_cons_zero, List.set_cons_succ])
    (refine wpAnyH_take (i := 1) (v := ?_) rfl (by kernel_rfl) (by kernel_rfl) (by kernel_rfl) (fun _ _ _ h => h) (Or.inl ⟨by rfl, ?ht_1⟩) HS ?_); (case ht_1 => (intro wt hS; have cg := cellF hS.2; go_simp; try with_reducible rfl)); (try simp only [Act.put, List.getElem_toArray, List.getElem_cons_zero, List.getElem_cons_succ, List.setIfInBounds_toArray, List.set_cons_zero, List.set_cons_succ])
    (refine wpAnyH_take (i := 2) (v := ?_) rfl (by kernel_rfl) (by kernel_rfl) (by kernel_rfl) (fun _ _ _ h => h) (Or.inl ⟨by rfl, ?ht_2⟩) HS ?_); (case ht_2 => (intro wt hS; go_simp; try with_reducible rfl)); (try simp only [Act.put, List.getElem_toArray, List.getElem_cons_zero, List.getElem_cons_succ, List.setIfInBounds_toArray, List.set_cons_zero, List.set_cons_succ]); (refine wpAnyH_take (i := 3) (v := ?_) rfl (by kernel_rfl) (by kernel_rfl) (by kernel_rfl) (fun _ _ _ h => h) (Or.inl ⟨by rfl, ?ht_3⟩) HS ?_); (case ht_3 => (intro wt hS; go_simp; try with_reducible rfl)); (try simp only [Act.put, List.getElem_toArray, List.getElem_cons_zero, List.getElem_cons_succ, List.setIfInBounds_toArray, List.set_cons_zero, List.set_cons_succ]); (refine wpAnyH_take (i := 5) (v := ?_) rfl (by kernel_rfl) (by kernel_rfl) (by kernel_rfl) (fun _ _ _ h => h) (Or.inl ⟨by rfl, ?ht_5⟩) HS ?_); (case ht_5 => (intro wt hS; go_simp; try with_reducible rfl)); (try simp only [Act.put, List.getElem_toArray, List.getElem_cons_zero, List.getElem_cons_succ, List.setIfInBounds_toArray, List.set_cons_zero, List.set_cons_succ])
    (refine wpAnyH_take (i := 6) (v := .agg B) rfl (by kernel_rfl) (by kernel_rfl) (by kernel_rfl) (fun _ _ _ h => h) (Or.inl ⟨by rfl, ?ht_6⟩) HS ?_); (case ht_6 => (intro wt hS; exact exec_load_part 30 _ rfl (w.heap.size + 1) 0 (by rfl) _ B _ _ 5 hS.1 Try.underlying30 rfl (by kernel_rfl) (by rw [HB.out.size]; omega) B HEX.out)); (try simp only [Act.put, List.getElem_toArray, List.getElem_cons_zero, List.getElem_cons_succ, List.setIfInBounds_toArray, List.set_cons_zero, List.set_cons_succ])
    refine wpAnyH_ready (rs := [4, 7]) (by kernel_rfl) (by decide) ?_
    obtain ⟨ip, zp, ip1, ip2, ip3, ip4, ip5⟩ := info_ord
    refine AllReadyH.cons rfl (fun K' hK => ?_) (AllReadyH.cons rfl (fun K' hK => ?_) AllReadyH.nil)
    · have cgA := cellF hgq
      go_simp
      refine hK.out _ _ HS (fun HS => ?_)
      clear hK K' cgA
      (try simp only [Act.put, List.getElem_toArray, List.getElem_cons_zero, List.getElem_cons_succ, List.setIfInBounds_toArray, List.set_cons_zero, List.set_cons_succ])
      (refine wpAnyH_ready (rs := [7]) (by kernel_rfl) (by decide) ?_); (refine AllReadyH.cons rfl (fun K' hK => ?_) AllReadyH.nil); (rw [if_pos (by rfl)])
      refine op_slice1 35 30 _ rfl B 5 rfl HB.out.size ip zp Try.underlying35 ip1 ip2 ip3 ip5 (by omega) (by omega) (hK.out _ _ ⟨heap_up HS.1, heap_up HS.2⟩ (fun HS => ?_))
      clear hK K'
      (try simp only [Act.put, List.getElem_toArray, List.getElem_cons_zero, List.getElem_cons_succ, List.setIfInBounds_toArray, List.set_cons_zero, List.set_cons_succ])
      obtain ⟨gx, hgx0⟩ : ∃ gx, gx = wq.heap.size := ⟨_, rfl⟩
      have hgx : (wq.alloc (Obj.cells B 30)).heap[gx]? = some (.cells B 30 (0, 0)) := by rw [hgx0]; exact heap_alloc_new _ _
      have hgxq : wq.heap.size ≤ gx := by omega
      rw [← hgx0]
      clear hgx0
      (refine wpAnyH_ready (rs := [8]) (by kernel_rfl) (by decide) ?_); (refine AllReadyH.cons rfl (fun K' hK => ?_) AllReadyH.nil); (rw [if_pos (by rfl)])
      have hoq1 := hoq.alloc (Obj.cells B 30)
      refine op_call 51 #[.slice ra k rc, .int .i64 k, .slice (some ⟨gx, 0, none⟩) 1 1] (by go_simp) (fun v' w1 => w1.ownsRow base 30 5 v' (k + 1) (flat (ins L k B) (k + 1)) ∧ (wq.alloc (Obj.cells B 30)).grownBy w1 (Value.slice ra k rc).ownBlock ∧ (v'.ownBlock = (Value.slice ra k rc).ownBlock ∨ ∃ q, v'.ownBlock = some q ∧ (wq.alloc (Obj.cells B 30)).heap.size ≤ q)) (insany_at base k k L (.slice ra k rc) gx B _ (fun i => (HS0.out.ord i).size) (fun i => (HS0.out.ord i).all) hoq1 (by omega) hple HB.out.size HB.out.all hgx (fun e => by have := (hoq.lt _ e.symm).2; omega) (by simp; have := HS0.out.bg; have := (Array.getElem?_eq_some_iff.1 hgq).1; omega)) ?_
      rintro v5 w5 ⟨ho5, hg5, hat5⟩
      have hfin := side_grown HS0.out (by omega) HG.out (below_then hBq (below_new wq _)) HB.out hoq1 hg5 ho5
      have hoth : ∀ j, j < wq.heap.size → (∀ A fr, wq.heap[j]? ≠ some (.cells A 30 fr) ∨ w.heap.size ≤ j) → w5.heap[j]? = wq.heap[j]? := fun j hj hd => by
        refine (hg5.block j (by simp; omega) (fun e => ?_)).trans ?_
        · obtain ⟨A9, fr9, h9⟩ := own_tag HROW.out _ e.symm
          have hjw := (Array.getElem?_eq_some_iff.1 h9).1
          rcases hd A9 fr9 with hd | hd
          · exact hd (Ytmjfbilhalkegaa.kept hBq h9)
          · omega
        · rw [Below.heap_alloc _ _ _ hj]
      have hS5 : w5.heap[w.heap.size + 1]? = some (.cells B 30 (0, 0)) ∧ w5.heap[w.heap.size]? = some (.cells #[.pointer (some ⟨g, 0, none⟩)] 54 (0, 0)) := by
        have e1 := hoth (w.heap.size + 1) (by omega) (fun _ _ => .inr (by omega))
        have e2 := hoth w.heap.size (by omega) (fun _ _ => .inr (by omega))
        have h1 := HS.1
        have h2 := HS.2
        rw [Below.heap_alloc _ _ _ (by omega)] at h1 h2
        exact ⟨e1.trans h1, e2.trans h2⟩
      refine hK.out _ _ hS5 (fun HS => ?_)
      clear hK K'
      (try simp only [Act.put, List.getElem_toArray, List.getElem_cons_zero, List.getElem_cons_succ, List.setIfInBounds_toArray, List.set_cons_zero, List.set_cons_succ])
      (refine wpAnyH_take (i := 9) (v := ?_) rfl (by kernel_rfl) (by kernel_rfl) (by kernel_rfl) (fun _ _ _ h => h) (Or.inl ⟨by rfl, ?ht_9⟩) HS ?_); (case ht_9 => (intro wt hS; go_simp; try with_reducible rfl)); (try simp only [Act.put, List.getElem_toArray, List.getElem_cons_zero, List.getElem_cons_succ, List.setIfInBounds_toArray, List.set_cons_zero, List.set_cons_succ]); (refine wpAnyH_take (i := 10) (v := ?_) rfl (by kernel_rfl) (by kernel_rfl) (by kernel_rfl) (fun _ _ _ h => h) (Or.inl ⟨by rfl, ?ht_10⟩) HS ?_); (case ht_10 => (intro wt hS; go_simp; try with_reducible rfl)); (try simp only [Act.put, List.getElem_toArray, List.getElem_cons_zero, List.getElem_cons_succ, List.setIfInBounds_toArray, List.set_cons_zero, List.set_cons_succ])
      have c5 := cellF hfin.1
      have f5 := (cells_of hfin.1).2.1
      obtain ⟨ra5, rc5, rfl, _⟩ := own_rows (c := 5) (L := ins L k B) (fun i => (hfin.2.1.ord i).size) ho5
      have hgw := (Array.getElem?_eq_some_iff.1 HG.out).1
      (refine wpAnyH_ready (rs := [11]) (by kernel_rfl) (by decide) ?_); (refine AllReadyH.cons rfl (fun K' hK => ?_) AllReadyH.nil); (rw [if_pos (by rfl)])
      go_simp
      refine hK.out _ _ ⟨heap_set_other HS.1 (by omega), heap_set_other HS.2 (by omega)⟩ (fun HS => ?_)
      clear hK K' c5 f5
      (try simp only [Act.put, List.getElem_toArray, List.getElem_cons_zero, List.getElem_cons_succ, List.setIfInBounds_toArray, List.set_cons_zero, List.set_cons_succ])
      refine wpAnyH_done (by kernel_rfl) ?_ _
      go_wp2
      go_ret
      exact ⟨rfl, by rw [HPC.out]; exact ⟨hfin.2.1, hfin.2.2.1, hfin.2.2.2, ks_grown HG.out (below_then hBq (below_new wq _)) hg5 hfin.1 hat5⟩⟩
    · rw [if_pos (by rfl)]
      refine op_slice1 35 30 _ rfl B 5 rfl HB.out.size ip zp Try.underlying35 ip1 ip2 ip3 ip5 (by omega) (by omega) (hK.out _ _ ⟨heap_up HS.1, heap_up HS.2⟩ (fun HS => ?_))
      clear hK K'
      (try simp only [Act.put, List.getElem_toArray, List.getElem_cons_zero, List.getElem_cons_succ, List.setIfInBounds_toArray, List.set_cons_zero, List.set_cons_succ])
      have cgA := cellF (heap_up (o := Obj.cells B 30) hgq)
      (refine wpAnyH_ready (rs := [4]) (by kernel_rfl) (by decide) ?_); (refine AllReadyH.cons rfl (fun K' hK => ?_) AllReadyH.nil); (rw [if_pos (by rfl)])
      go_simp
      refine hK.out _ _ HS (fun HS => ?_)
      clear hK K' cgA
      (try simp only [Act.put, List.getElem_toArray, List.getElem_cons_zero, List.getElem_cons_succ, List.setIfInBounds_toArray, List.set_cons_zero, List.set_cons_succ])
      obtain ⟨gx, hgx0⟩ : ∃ gx, gx = wq.heap.size := ⟨_, rfl⟩
      have hgx : (wq.alloc (Obj.cells B 30)).heap[gx]? = some (.cells B 30 (0, 0)) := by rw [hgx0]; exact heap_alloc_new _ _
      have hgxq : wq.heap.size ≤ gx := by omega
      rw [← hgx0]
      clear hgx0
      (refine wpAnyH_ready (rs := [8]) (by kernel_rfl) (by decide) ?_); (refine AllReadyH.cons rfl (fun K' hK => ?_) AllReadyH.nil); (rw [if_pos (by rfl)])
      have hoq1 := hoq.alloc (Obj.cells B 30)
      refine op_call 51 #[.slice ra k rc, .int .i64 k, .slice (some ⟨gx, 0, none⟩) 1 1] (by go_simp) (fun v' w1 => w1.ownsRow base 30 5 v' (k + 1) (flat (ins L k B) (k + 1)) ∧ (wq.alloc (Obj.cells B 30)).grownBy w1 (Value.slice ra k rc).ownBlock ∧ (v'.ownBlock = (Value.slice ra k rc).ownBlock ∨ ∃ q, v'.ownBlock = some q ∧ (wq.alloc (Obj.cells B 30)).heap.size ≤ q)) (insany_at base k k L (.slice ra k rc) gx B _ (fun i => (HS0.out.ord i).size) (fun i => (HS0.out.ord i).all) hoq1 (by omega) hple HB.out.size HB.out.all hgx (fun e => by have := (hoq.lt _ e.symm).2; omega) (by simp; have := HS0.out.bg; have := (Array.getElem?_eq_some_iff.1 hgq).1; omega)) ?_
      rintro v5 w5 ⟨ho5, hg5, hat5⟩
      have hfin := side_grown HS0.out (by omega) HG.out (below_then hBq (below_new wq _)) HB.out hoq1 hg5 ho5
      have hoth : ∀ j, j < wq.heap.size → (∀ A fr, wq.heap[j]? ≠ some (.cells A 30 fr) ∨ w.heap.size ≤ j) → w5.heap[j]? = wq.heap[j]? := fun j hj hd => by
        refine (hg5.block j (by simp; omega) (fun e => ?_)).trans ?_
        · obtain ⟨A9, fr9, h9⟩ := own_tag HROW.out _ e.symm
          have hjw := (Array.getElem?_eq_some_iff.1 h9).1
          rcases hd A9 fr9 with hd | hd
          · exact hd (Ytmjfbilhalkegaa.kept hBq h9)
          · omega
        · rw [Below.heap_alloc _ _ _ hj]
      have hS5 : w5.heap[w.heap.size + 1]? = some (.cells B 30 (0, 0)) ∧ w5.heap[w.heap.size]? = some (.cells #[.pointer (some ⟨g, 0, none⟩)] 54 (0, 0)) := by
        have e1 := hoth (w.heap.size + 1) (by omega) (fun _ _ => .inr (by omega))
        have e2 := hoth w.heap.size (by omega) (fun _ _ => .inr (by omega))
        have h1 := HS.1
        have h2 := HS.2
        rw [Below.heap_alloc _ _ _ (by omega)] at h1 h2
        exact ⟨e1.trans h1, e2.trans h2⟩
      refine hK.out _ _ hS5 (fun HS => ?_)
      clear hK K'
      (try simp only [Act.put, List.getElem_toArray, List.getElem_cons_zero, List.getElem_cons_succ, List.setIfInBounds_toArray, List.set_cons_zero, List.set_cons_succ])
      (refine wpAnyH_take (i := 9) (v := ?_) rfl (by kernel_rfl) (by kernel_rfl) (by kernel_rfl) (fun _ _ _ h => h) (Or.inl ⟨by rfl, ?ht_9⟩) HS ?_); (case ht_9 => (intro wt hS; go_simp; try with_reducible rfl)); (try simp only [Act.put, List.getElem_toArray, List.getElem_cons_zero, List.getElem_cons_succ, List.setIfInBounds_toArray, List.set_cons_zero, List.set_cons_succ]); (refine wpAnyH_take (i := 10) (v := ?_) rfl (by kernel_rfl) (by kernel_rfl) (by kernel_rfl) (fun _ _ _ h => h) (Or.inl ⟨by rfl, ?ht_10⟩) HS ?_); (case ht_10 => (intro wt hS; go_simp; try with_reducible rfl)); (try simp only [Act.put, List.getElem_toArray, List.getElem_cons_zero, List.getElem_cons_succ, List.setIfInBounds_toArray, List.set_cons_zero, List.set_cons_succ])
      have c5 := cellF hfin.1
      have f5 := (cells_of hfin.1).2.1
      obtain ⟨ra5, rc5, rfl, _⟩ := own_rows (c := 5) (L := ins L k B) (fun i => (hfin.2.1.ord i).size) ho5
      have hgw := (Array.getElem?_eq_some_iff.1 HG.out).1
      (refine wpAnyH_ready (rs := [11]) (by kernel_rfl) (by decide) ?_); (refine AllReadyH.cons rfl (fun K' hK => ?_) AllReadyH.nil); (rw [if_pos (by rfl)])
      go_simp
      refine hK.out _ _ ⟨heap_set_other HS.1 (by omega), heap_set_other HS.2 (by omega)⟩ (fun HS => ?_)
      clear hK K' c5 f5
      (try simp only [Act.put, List.getElem_toArray, List.getElem_cons_zero, List.getElem_cons_succ, List.setIfInBounds_toArray, List.set_cons_zero, List.set_cons_succ])
      refine wpAnyH_done (by kernel_rfl) ?_ _
      go_wp2
      go_ret
      exact ⟨rfl, by rw [HPC.out]; exact ⟨hfin.2.1, hfin.2.2.1, hfin.2.2.2, ks_grown HG.out (below_then hBq (below_new wq _)) hg5 hfin.1 hat5⟩⟩
  · obtain ⟨pi, rfl⟩ : ∃ pi : Nat, pv = pi := ⟨pv.toNat, by omega⟩
    have hplc : plc buy L B k = pi := by rw [HPL.out, if_neg hp]; omega
    have HPC := Lib.hid hplc
    have hple : pi ≤ k := by omega
    clear hplc
    go_wp2_with fail
    clear cs8 cg8
    refine wp_region_held (S := fun wt => wt.heap[w.heap.size + 1]? = some (.cells B 30 (0, 0)) ∧ wt.heap[w.heap.size]? = some (.cells #[.pointer (some ⟨g, 0, none⟩)] 54 (0, 0))) (by kernel_rfl) ?_
    change wpAnyH _ _ _ _ _ _ _ _ (World.drew _)
    obtain ⟨wq, hwq⟩ : ∃ wq, wq = w8.drew := ⟨_, rfl⟩
    have hBq : Below w.heap.size w wq := by rw [hwq]; exact Below.drew hb86
    have hoq := own_below hBq HROW.out
    have hgq := Ytmjfbilhalkegaa.kept hBq HG.out
    have HSH : wq.heap[w.heap.size + 1]? = some (.cells B 30 (0, 0)) ∧ wq.heap[w.heap.size]? = some (.cells #[.pointer (some ⟨g, 0, none⟩)] 54 (0, 0)) := by rw [hwq]; exact ⟨hgo8, hgs8⟩
    have hszq : w.heap.size + 1 < wq.heap.size := (Array.getElem?_eq_some_iff.1 HSH.1).1
    have HS0 := HS
    clear HS
    have HS := HSH
    rw [← hwq]
    clear hwq HSH hgo8 hgs8 hg8
    (refine wpAnyH_take (i := 0) (v := ?_) rfl (by kernel_rfl) (by kernel_rfl) (by kernel_rfl) (fun _ _ _ h => h) (Or.inl ⟨by rfl, ?ht_0⟩) HS ?_); (case ht_0 => (intro wt hS; have cg := cellF hS.2; go_simp; try with_reducible rfl)); (try simp only [Act.put, List.getElem_toArray, List.getElem_cons_zero, List.getElem_cons_succ, List.setIfInBounds_toArray, List.set_cons_zero, List.set_cons_succ])
    (refine wpAnyH_take (i := 1) (v := ?_) rfl (by kernel_rfl) (by kernel_rfl) (by kernel_rfl) (fun _ _ _ h => h) (Or.inl ⟨by rfl, ?ht_1⟩) HS ?_); (case ht_1 => (intro wt hS; have cg := cellF hS.2; go_simp; try with_reducible rfl)); (try simp only [Act.put, List.getElem_toArray, List.getElem_cons_zero, List.getElem_cons_succ, List.setIfInBounds_toArray, List.set_cons_zero, List.set_cons_succ])
    (refine wpAnyH_take (i := 2) (v := ?_) rfl (by kernel_rfl) (by kernel_rfl) (by kernel_rfl) (fun _ _ _ h => h) (Or.inl ⟨by rfl, ?ht_2⟩) HS ?_); (case ht_2 => (intro wt hS; go_simp; try with_reducible rfl)); (try simp only [Act.put, List.getElem_toArray, List.getElem_cons_zero, List.getElem_cons_succ, List.setIfInBounds_toArray, List.set_cons_zero, List.set_cons_succ]); (refine wpAnyH_take (i := 3) (v := ?_) rfl (by kernel_rfl) (by kernel_rfl) (by kernel_rfl) (fun _ _ _ h => h) (Or.inl ⟨by rfl, ?ht_3⟩) HS ?_); (case ht_3 => (intro wt hS; go_simp; try with_reducible rfl)); (try simp only [Act.put, List.getElem_toArray, List.getElem_cons_zero, List.getElem_cons_succ, List.setIfInBounds_toArray, List.set_cons_zero, List.set_cons_succ]); (refine wpAnyH_take (i := 5) (v := ?_) rfl (by kernel_rfl) (by kernel_rfl) (by kernel_rfl) (fun _ _ _ h => h) (Or.inl ⟨by rfl, ?ht_5⟩) HS ?_); (case ht_5 => (intro wt hS; go_simp; try with_reducible rfl)); (try simp only [Act.put, List.getElem_toArray, List.getElem_cons_zero, List.getElem_cons_succ, List.setIfInBounds_toArray, List.set_cons_zero, List.set_cons_succ])
    (refine wpAnyH_take (i := 6) (v := .agg B) rfl (by kernel_rfl) (by kernel_rfl) (by kernel_rfl) (fun _ _ _ h => h) (Or.inl ⟨by rfl, ?ht_6⟩) HS ?_); (case ht_6 => (intro wt hS; exact exec_load_part 30 _ rfl (w.heap.size + 1) 0 (by rfl) _ B _ _ 5 hS.1 Try.underlying30 rfl (by kernel_rfl) (by rw [HB.out.size]; omega) B HEX.out)); (try simp only [Act.put, List.getElem_toArray, List.getElem_cons_zero, List.getElem_cons_succ, List.setIfInBounds_toArray, List.set_cons_zero, List.set_cons_succ])
    refine wpAnyH_ready (rs := [4, 7]) (by kernel_rfl) (by decide) ?_
    obtain ⟨ip, zp, ip1, ip2, ip3, ip4, ip5⟩ := info_ord
    refine AllReadyH.cons rfl (fun K' hK => ?_) (AllReadyH.cons rfl (fun K' hK => ?_) AllReadyH.nil)
    · have cgA := cellF hgq
      go_simp
      refine hK.out _ _ HS (fun HS => ?_)
      clear hK K' cgA
      (try simp only [Act.put, List.getElem_toArray, List.getElem_cons_zero, List.getElem_cons_succ, List.setIfInBounds_toArray, List.set_cons_zero, List.set_cons_succ])
      (refine wpAnyH_ready (rs := [7]) (by kernel_rfl) (by decide) ?_); (refine AllReadyH.cons rfl (fun K' hK => ?_) AllReadyH.nil); (rw [if_pos (by rfl)])
      refine op_slice1 35 30 _ rfl B 5 rfl HB.out.size ip zp Try.underlying35 ip1 ip2 ip3 ip5 (by omega) (by omega) (hK.out _ _ ⟨heap_up HS.1, heap_up HS.2⟩ (fun HS => ?_))
      clear hK K'
      (try simp only [Act.put, List.getElem_toArray, List.getElem_cons_zero, List.getElem_cons_succ, List.setIfInBounds_toArray, List.set_cons_zero, List.set_cons_succ])
      obtain ⟨gx, hgx0⟩ : ∃ gx, gx = wq.heap.size := ⟨_, rfl⟩
      have hgx : (wq.alloc (Obj.cells B 30)).heap[gx]? = some (.cells B 30 (0, 0)) := by rw [hgx0]; exact heap_alloc_new _ _
      have hgxq : wq.heap.size ≤ gx := by omega
      rw [← hgx0]
      clear hgx0
      (refine wpAnyH_ready (rs := [8]) (by kernel_rfl) (by decide) ?_); (refine AllReadyH.cons rfl (fun K' hK => ?_) AllReadyH.nil); (rw [if_pos (by rfl)])
      have hoq1 := hoq.alloc (Obj.cells B 30)
      refine op_call 51 #[.slice ra k rc, .int .i64 pi, .slice (some ⟨gx, 0, none⟩) 1 1] (by go_simp) (fun v' w1 => w1.ownsRow base 30 5 v' (k + 1) (flat (ins L pi B) (k + 1)) ∧ (wq.alloc (Obj.cells B 30)).grownBy w1 (Value.slice ra k rc).ownBlock ∧ (v'.ownBlock = (Value.slice ra k rc).ownBlock ∨ ∃ q, v'.ownBlock = some q ∧ (wq.alloc (Obj.cells B 30)).heap.size ≤ q)) (insany_at base k pi L (.slice ra k rc) gx B _ (fun i => (HS0.out.ord i).size) (fun i => (HS0.out.ord i).all) hoq1 (by omega) hple HB.out.size HB.out.all hgx (fun e => by have := (hoq.lt _ e.symm).2; omega) (by simp; have := HS0.out.bg; have := (Array.getElem?_eq_some_iff.1 hgq).1; omega)) ?_
      rintro v5 w5 ⟨ho5, hg5, hat5⟩
      have hfin := side_grown HS0.out (by omega) HG.out (below_then hBq (below_new wq _)) HB.out hoq1 hg5 ho5
      have hoth : ∀ j, j < wq.heap.size → (∀ A fr, wq.heap[j]? ≠ some (.cells A 30 fr) ∨ w.heap.size ≤ j) → w5.heap[j]? = wq.heap[j]? := fun j hj hd => by
        refine (hg5.block j (by simp; omega) (fun e => ?_)).trans ?_
        · obtain ⟨A9, fr9, h9⟩ := own_tag HROW.out _ e.symm
          have hjw := (Array.getElem?_eq_some_iff.1 h9).1
          rcases hd A9 fr9 with hd | hd
          · exact hd (Ytmjfbilhalkegaa.kept hBq h9)
          · omega
        · rw [Below.heap_alloc _ _ _ hj]
      have hS5 : w5.heap[w.heap.size + 1]? = some (.cells B 30 (0, 0)) ∧ w5.heap[w.heap.size]? = some (.cells #[.pointer (some ⟨g, 0, none⟩)] 54 (0, 0)) := by
        have e1 := hoth (w.heap.size + 1) (by omega) (fun _ _ => .inr (by omega))
        have e2 := hoth w.heap.size (by omega) (fun _ _ => .inr (by omega))
        have h1 := HS.1
        have h2 := HS.2
        rw [Below.heap_alloc _ _ _ (by omega)] at h1 h2
        exact ⟨e1.trans h1, e2.trans h2⟩
      refine hK.out _ _ hS5 (fun HS => ?_)
      clear hK K'
      (try simp only [Act.put, List.getElem_toArray, List.getElem_cons_zero, List.getElem_cons_succ, List.setIfInBounds_toArray, List.set_cons_zero, List.set_cons_succ])
      (refine wpAnyH_take (i := 9) (v := ?_) rfl (by kernel_rfl) (by kernel_rfl) (by kernel_rfl) (fun _ _ _ h => h) (Or.inl ⟨by rfl, ?ht_9⟩) HS ?_); (case ht_9 => (intro wt hS; go_simp; try with_reducible rfl)); (try simp only [Act.put, List.getElem_toArray, List.getElem_cons_zero, List.getElem_cons_succ, List.setIfInBounds_toArray, List.set_cons_zero, List.set_cons_succ]); (refine wpAnyH_take (i := 10) (v := ?_) rfl (by kernel_rfl) (by kernel_rfl) (by kernel_rfl) (fun _ _ _ h => h) (Or.inl ⟨by rfl, ?ht_10⟩) HS ?_); (case ht_10 => (intro wt hS; go_simp; try with_reducible rfl)); (try simp only [Act.put, List.getElem_toArray, List.getElem_cons_zero, List.getElem_cons_succ, List.setIfInBounds_toArray, List.set_cons_zero, List.set_cons_succ])
      have c5 := cellF hfin.1
      have f5 := (cells_of hfin.1).2.1
      obtain ⟨ra5, rc5, rfl, _⟩ := own_rows (c := 5) (L := ins L pi B) (fun i => (hfin.2.1.ord i).size) ho5
      have hgw := (Array.getElem?_eq_some_iff.1 HG.out).1
      (refine wpAnyH_ready (rs := [11]) (by kernel_rfl) (by decide) ?_); (refine AllReadyH.cons rfl (fun K' hK => ?_) AllReadyH.nil); (rw [if_pos (by rfl)])
      go_simp
      refine hK.out _ _ ⟨heap_set_other HS.1 (by omega), heap_set_other HS.2 (by omega)⟩ (fun HS => ?_)
      clear hK K' c5 f5
      (try simp only [Act.put, List.getElem_toArray, List.getElem_cons_zero, List.getElem_cons_succ, List.setIfInBounds_toArray, List.set_cons_zero, List.set_cons_succ])
      refine wpAnyH_done (by kernel_rfl) ?_ _
      go_wp2
      go_ret
      exact ⟨rfl, by rw [HPC.out]; exact ⟨hfin.2.1, hfin.2.2.1, hfin.2.2.2, ks_grown HG.out (below_then hBq (below_new wq _)) hg5 hfin.1 hat5⟩⟩
    · rw [if_pos (by rfl)]
      refine op_slice1 35 30 _ rfl B 5 rfl HB.out.size ip zp Try.underlying35 ip1 ip2 ip3 ip5 (by omega) (by omega) (hK.out _ _ ⟨heap_up HS.1, heap_up HS.2⟩ (fun HS => ?_))
      clear hK K'
      (try simp only [Act.put, List.getElem_toArray, List.getElem_cons_zero, List.getElem_cons_succ, List.setIfInBounds_toArray, List.set_cons_zero, List.set_cons_succ])
      have cgA := cellF (heap_up (o := Obj.cells B 30) hgq)
      (refine wpAnyH_ready (rs := [4]) (by kernel_rfl) (by decide) ?_); (refine AllReadyH.cons rfl (fun K' hK => ?_) AllReadyH.nil); (rw [if_pos (by rfl)])
      go_simp
      refine hK.out _ _ HS (fun HS => ?_)
      clear hK K' cgA
      (try simp only [Act.put, List.getElem_toArray, List.getElem_cons_zero, List.getElem_cons_succ, List.setIfInBounds_toArray, List.set_cons_zero, List.set_cons_succ])
      obtain ⟨gx, hgx0⟩ : ∃ gx, gx = wq.heap.size := ⟨_, rfl⟩
      have hgx : (wq.alloc (Obj.cells B 30)).heap[gx]? = some (.cells B 30 (0, 0)) := by rw [hgx0]; exact heap_alloc_new _ _
      have hgxq : wq.heap.size ≤ gx := by omega
      rw [← hgx0]
      clear hgx0
      (refine wpAnyH_ready (rs := [8]) (by kernel_rfl) (by decide) ?_); (refine AllReadyH.cons rfl (fun K' hK => ?_) AllReadyH.nil); (rw [if_pos (by rfl)])
      have hoq1 := hoq.alloc (Obj.cells B 30)
      refine op_call 51 #[.slice ra k rc, .int .i64 pi, .slice (some ⟨gx, 0, none⟩) 1 1] (by go_simp) (fun v' w1 => w1.ownsRow base 30 5 v' (k + 1) (flat (ins L pi B) (k + 1)) ∧ (wq.alloc (Obj.cells B 30)).grownBy w1 (Value.slice ra k rc).ownBlock ∧ (v'.ownBlock = (Value.slice ra k rc).ownBlock ∨ ∃ q, v'.ownBlock = some q ∧ (wq.alloc (Obj.cells B 30)).heap.size ≤ q)) (insany_at base k pi L (.slice ra k rc) gx B _ (fun i => (HS0.out.ord i).size) (fun i => (HS0.out.ord i).all) hoq1 (by omega) hple HB.out.size HB.out.all hgx (fun e => by have := (hoq.lt _ e.symm).2; omega) (by simp; have := HS0.out.bg; have := (Array.getElem?_eq_some_iff.1 hgq).1; omega)) ?_
      rintro v5 w5 ⟨ho5, hg5, hat5⟩
      have hfin := side_grown HS0.out (by omega) HG.out (below_then hBq (below_new wq _)) HB.out hoq1 hg5 ho5
      have hoth : ∀ j, j < wq.heap.size → (∀ A fr, wq.heap[j]? ≠ some (.cells A 30 fr) ∨ w.heap.size ≤ j) → w5.heap[j]? = wq.heap[j]? := fun j hj hd => by
        refine (hg5.block j (by simp; omega) (fun e => ?_)).trans ?_
        · obtain ⟨A9, fr9, h9⟩ := own_tag HROW.out _ e.symm
          have hjw := (Array.getElem?_eq_some_iff.1 h9).1
          rcases hd A9 fr9 with hd | hd
          · exact hd (Ytmjfbilhalkegaa.kept hBq h9)
          · omega
        · rw [Below.heap_alloc _ _ _ hj]
      have hS5 : w5.heap[w.heap.size + 1]? = some (.cells B 30 (0, 0)) ∧ w5.heap[w.heap.size]? = some (.cells #[.pointer (some ⟨g, 0, none⟩)] 54 (0, 0)) := by
        have e1 := hoth (w.heap.size + 1) (by omega) (fun _ _ => .inr (by omega))
        have e2 := hoth w.heap.size (by omega) (fun _ _ => .inr (by omega))
        have h1 := HS.1
        have h2 := HS.2
        rw [Below.heap_alloc _ _ _ (by omega)] at h1 h2
        exact ⟨e1.trans h1, e2.trans h2⟩
      refine hK.out _ _ hS5 (fun HS => ?_)
      clear hK K'
      (try simp only [Act.put, List.getElem_toArray, List.getElem_cons_zero, List.getElem_cons_succ, List.setIfInBounds_toArray, List.set_cons_zero, List.set_cons_succ])
      (refine wpAnyH_take (i := 9) (v := ?_) rfl (by kernel_rfl) (by kernel_rfl) (by kernel_rfl) (fun _ _ _ h => h) (Or.inl ⟨by rfl, ?ht_9⟩) HS ?_); (case ht_9 => (intro wt hS; go_simp; try with_reducible rfl)); (try simp only [Act.put, List.getElem_toArray, List.getElem_cons_zero, List.getElem_cons_succ, List.setIfInBounds_toArray, List.set_cons_zero, List.set_cons_succ]); (refine wpAnyH_take (i := 10) (v := ?_) rfl (by kernel_rfl) (by kernel_rfl) (by kernel_rfl) (fun _ _ _ h => h) (Or.inl ⟨by rfl, ?ht_10⟩) HS ?_); (case ht_10 => (intro wt hS; go_simp; try with_reducible rfl)); (try simp only [Act.put, List.getElem_toArray, List.getElem_cons_zero, List.getElem_cons_succ, List.setIfInBounds_toArray, List.set_cons_zero, List.set_cons_succ])
      have c5 := cellF hfin.1
      have f5 := (cells_of hfin.1).2.1
      obtain ⟨ra5, rc5, rfl, _⟩ := own_rows (c := 5) (L := ins L pi B) (fun i => (hfin.2.1.ord i).size) ho5
      have hgw := (Array.getElem?_eq_some_iff.1 HG.out).1
      (refine wpAnyH_ready (rs := [11]) (by kernel_rfl) (by decide) ?_); (refine AllReadyH.cons rfl (fun K' hK => ?_) AllReadyH.nil); (rw [if_pos (by rfl)])
      go_simp
      refine hK.out _ _ ⟨heap_set_other HS.1 (by omega), heap_set_other HS.2 (by omega)⟩ (fun HS => ?_)
      clear hK K' c5 f5
      (try simp only [Act.put, List.getElem_toArray, List.getElem_cons_zero, List.getElem_cons_succ, List.setIfInBounds_toArray, List.set_cons_zero, List.set_cons_succ])
      refine wpAnyH_done (by kernel_rfl) ?_ _
      go_wp2
      go_ret
      exact ⟨rfl, by rw [HPC.out]; exact ⟨hfin.2.1, hfin.2.2.1, hfin.2.2.2, ks_grown HG.out (below_then hBq (below_new wq _)) hg5 hfin.1 hat5⟩⟩
end Go.Proofs.Ytmjfbilhalkegaa
