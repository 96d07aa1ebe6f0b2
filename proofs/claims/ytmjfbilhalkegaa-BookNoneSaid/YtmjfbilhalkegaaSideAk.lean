/- Add of a side: only its own two blocks are written. Condition: the side is one, the order may come. -/
import Derived.Test.YtmjfbilhalkegaaSideAd
import Derived.Test.YtmjfbilhalkegaaSideK
import Derived.Test.YtmjfbilhalkegaaInsAt
namespace Go.Proofs.Ytmjfbilhalkegaa
set_option linter.unusedVariables false
set_option linter.unusedSimpArgs false
open Go.RowKit

set_option maxRecDepth 100000 in
set_option maxHeartbeats 4000000 in
theorem sadd_ok_k {w : World} {g base k : Nat} {L : Nat → Array Value} {B : Array Value} (buy : Bool) (h : SideIs w g base k buy L) (hB : IsOrd B) (hok : okO B = true) (hbuy : Bo B 2 = buy) (hfr : ∀ i, i < k → N (L i) 0 ≠ N B 0) (hk : k < 100) :
    Calls Try.prog 43 #[.pointer (some ⟨g, 0, none⟩), .agg B] w fun e w' => e = .returned (.int .i64 0) ∧ SideIs w' g base (k + 1) buy (ins L (plc buy L B k) B) ∧ Below base w w' ∧ Ko g w w' ∧ Ks g w w' := by
  have hb2 := below_alloc (below_new w (Obj.cells #[.pointer (some ⟨g, 0, none⟩)] 54)) (Obj.cells B 30)
  have hgo : ((w.alloc (Obj.cells #[.pointer (some ⟨g, 0, none⟩)] 54)).alloc (Obj.cells B 30)).heap[w.heap.size + 1]? = some (.cells B 30 (0, 0)) := by repeat (first | exact heap_new (by simp; done) | refine heap_up ?_)
  have hgs : ((w.alloc (Obj.cells #[.pointer (some ⟨g, 0, none⟩)] 54)).alloc (Obj.cells B 30)).heap[w.heap.size]? = some (.cells #[.pointer (some ⟨g, 0, none⟩)] 54 (0, 0)) := by repeat (first | exact heap_new (by simp; done) | refine heap_up ?_)
  obtain ⟨w2, hw2⟩ : ∃ w2, w2 = (w.alloc (Obj.cells #[.pointer (some ⟨g, 0, none⟩)] 54)).alloc (Obj.cells B 30) := ⟨_, rfl⟩
  have HS := Lib.hid h
  obtain ⟨v, hg, hrow⟩ := h.row
  obtain ⟨ra, rc, rfl, hR, _⟩ := own_rows (c := 5) (fun i => (h.ord i).size) hrow
  have HR := Lib.hid hR
  have HG := Lib.hid hg
  have HROW := Lib.hid hrow
  have hN0 := hB.n.1
  have hB2 : B[2]? = some (.bool buy) := by rw [← hbuy]; exact hB.b
  have HB := Lib.hid hB
  have HEX := Lib.hid (extract_all hB.size)
  have CM := Lib.hid (fun w1 => smay_yes B w1 hB hok)
  have HAT := Lib.hid (fi_no (q := fun i => decide (N (L i) 0 = N B 0)) k fun j hj => decide_eq_false (hfr j hj))
  clear h hB hok hfr hg hrow hbuy hR
  go_enter Try.func43, Try.ntmps43
  rw [← hw2] at hb2 hgo hgs
  have hS2 := HS.out.kept hb2
  have hg2 := Ytmjfbilhalkegaa.kept hb2 HG.out
  have cs2 := cellF hgs
  have co2 := cellF hgo
  have cg2 := cellF hg2
  have cr := sready_yes hS2
  rw [hw2] at cs2 co2 cg2 cr
  go_wp2_with ((go_at_call 39; (with_reducible refine (cr).mono ?_); rintro e w1 ⟨rfl, rfl⟩))
  rw [← hw2] at cs2 co2 cg2 cr ⊢
  have hsz2 : w2.heap.size = w.heap.size + 2 := by rw [hw2]; simp
  clear hw2 cr cs2 co2 cg2
  refine wp_region_below (by kernel_rfl) (by kernel_rfl) ?_
  repeat (first | ((with_reducible apply q_skip); (case hw => rfl); (try simp only [Act.put, List.setIfInBounds_toArray, List.set_cons_zero, List.set_cons_succ])) | ((with_reducible refine at_qload 30 ?_); refine q_load_part (by rfl) 30 _ rfl (w.heap.size + 1) (0) rfl _ (B) _ 5 (hgo) Try.underlying30 rfl (by kernel_rfl) (by rw [HB.out.size]; omega) (B) (HEX.out) ?_; try simp only [Act.put, List.setIfInBounds_toArray, List.set_cons_zero, List.set_cons_succ]) | ((with_reducible refine at_qcall 26 ?_); refine q_call_below _ 26 _ (by rfl) (CM.out) (fun wq hbq => by go_simp) ?_; try simp only [Act.put, List.setIfInBounds_toArray, List.set_cons_zero, List.set_cons_succ]) | ((with_reducible apply q_val); (case hw => rfl); (case hv => intro wq hbq; have hcq := cellF (Ytmjfbilhalkegaa.kept hbq hgo); have hcr := cellF (Ytmjfbilhalkegaa.kept hbq hg2); have hcs := cellF (Ytmjfbilhalkegaa.kept hbq hgs); go_simp; try rfl); (try simp only [Act.put, List.setIfInBounds_toArray, List.set_cons_zero, List.set_cons_succ])))
  refine q_nil ?_
  intro w6 hb6
  have hb62 := below_then hb2 hb6
  have hS6 := HS.out.kept hb62
  have hgo6 := Ytmjfbilhalkegaa.kept hb6 hgo
  have hgs6 := Ytmjfbilhalkegaa.kept hb6 hgs
  have hg6 := Ytmjfbilhalkegaa.kept hb6 hg2
  have ca := sat_any (N B 0) hS6
  rw [HAT.out] at ca
  clear hS2 hg2 hgo hgs
  have co := cellF hgo6
  have cs := cellF hgs6
  have hmf : ∀ (fn : Fn) (first cap : Array Value) (w : World), (Instr.makeFunc fn first cap).run Try.prog w = .ok (.func fn first cap) w := fun _ _ _ _ => rfl
  have h100 : ¬ (100 : Int) ≤ k := by omega
  go_wp2_with ((go_at_call 48; (with_reducible refine (ca).mono ?_); rintro e w7 ⟨rfl, hb7⟩; have cs7 := cellF (Ytmjfbilhalkegaa.kept hb7 hgs6); have cg7 := cellF (Ytmjfbilhalkegaa.kept hb7 hg6)))
  have hb67 := below_then hb62 hb7
  refine (idxadd_any ra rc k L B HB.out buy (.slice ra k rc) g w.heap.size (w.heap.size + 1) w7 HS.out.ord (rowsT_kept HR.out hb67) (by omega) (Ytmjfbilhalkegaa.kept hb7 hgs6) (Ytmjfbilhalkegaa.kept hb7 hgo6) (Ytmjfbilhalkegaa.kept hb7 hg6)).mono ?_
  rintro e w8 ⟨rfl, hb8⟩
  have hb78 := below_then hb7 hb8
  have hg8 := Ytmjfbilhalkegaa.kept hb78 hg6
  have hgs8 := Ytmjfbilhalkegaa.kept hb78 hgs6
  have hgo8 := Ytmjfbilhalkegaa.kept hb78 hgo6
  have hb86 := below_then hb62 hb78
  have HPL := Lib.hid (show plc buy L B k = if fi (fun i => bet buy (N B 3) (N (L i) 3)) k < 0 then k else (fi (fun i => bet buy (N B 3) (N (L i) 3)) k).toNat from rfl)
  have hfb := fi_bd (q := fun i => bet buy (N B 3) (N (L i) 3)) k
  generalize fi (fun i => bet buy (N B 3) (N (L i) 3)) k = pv at *
  clear co cs hmf h100 hS6 hg6 hgs6 hgo6 cs7 cg7 ca
  have cs8 := cellF hgs8
  have cg8 := cellF hg8
  by_cases hp : pv < 0
  · have hplc : plc buy L B k = k := by rw [HPL.out, if_pos hp]
    have HPC := Lib.hid hplc
    have hple : k ≤ k := Nat.le_refl _
    clear hplc
    go_wp2_with fail
    clear cs8 cg8
    refine wp_region_held (S := fun wt => wt.heap[w.heap.size + 1]? = some (.cells B 30 (0, 0)) ∧ wt.heap[w.heap.size]? = some (.cells #[.pointer (some ⟨g, 0, none⟩)] 54 (0, 0))) (by kernel_rfl) ?_
    change wpAnyH _ _ _ _ _ _ _ _ (World.drew _)
    obtain ⟨wq, hwq⟩ : ∃ wq, wq = w8.drew := ⟨_, rfl⟩
    have hBq : Below w.heap.size w wq := by rw [hwq]; exact Below.drew hb86
    have hoq := own_below hBq HROW.out
    have hgq := Ytmjfbilhalkegaa.kept hBq HG.out
    have HSH : wq.heap[w.heap.size + 1]? = some (.cells B 30 (0, 0)) ∧ wq.heap[w.heap.size]? = some (.cells #[.pointer (some ⟨g, 0, none⟩)] 54 (0, 0)) := by rw [hwq]; exact ⟨hgo8, hgs8⟩
    have hszq : w.heap.size + 1 < wq.heap.size := (Array.getElem?_eq_some_iff.1 HSH.1).1
    have HS0 := HS
    clear HS
    have HS := HSH
    rw [← hwq]
    clear hwq HSH hgo8 hgs8 hg8
    (refine wpAnyH_take (i := 0) (v := ?_) rfl (by kernel_rfl) (by kernel_rfl) (by kernel_rfl) (fun _ _ _ h => h) (Or.inl ⟨by rfl, ?ht_0⟩) HS ?_); (case ht_0 => (intro wt hS; have cg := cellF hS.2; go_simp; try with_reducible rfl)); (try simp only [Act.put, List.getElem_toArray, List.getElem_cons_zero, List.getElem_cons_succ, List.setIfInBounds_toArray, List.set_cons_zero, List.set_cons_succ])
    (refine wpAnyH_take (i := 1) (v := ?_) rfl (by kernel_rfl) (by kernel_rfl) (by kernel_rfl) (fun _ _ _ h => h) (Or.inl ⟨by rfl, ?ht_1⟩) HS ?_); (case ht_1 => (intro wt hS; have cg := cellF hS.2; go_simp; try with_reducible rfl)); (try simp only [Act.put, List.getElem_toArray, List.getElem_cons_zero, List.getElem_cons_succ, List.setIfInBounds_toArray, List.set_cons_zero, List.set_cons_succ])
    (refine wpAnyH_take (i := 2) (v := ?_) rfl (by kernel_rfl) (by kernel_rfl) (by kernel_rfl) (fun _ _ _ h => h) (Or.inl ⟨by rfl, ?ht_2⟩) HS ?_); (case ht_2 => (intro wt hS; go_simp; try with_reducible rfl)); (try simp only [Act.put, List.getElem_toArray, List.getElem_cons_zero, List.getElem_cons_succ, List.setIfInBounds_toArray, List.set_cons_zero, List.set_cons_succ]); (refine wpAnyH_take (i := 3) (v := ?_) rfl (by kernel_rfl) (by kernel_rfl) (by kernel_rfl) (fun _ _ _ h => h) (Or.inl ⟨by rfl, ?ht_3⟩) HS ?_); (case ht_3 => (intro wt hS; go_simp; try with_reducible rfl)); (try simp only [Act.put, List.getElem_toArray, List.getElem_cons_zero, List.getElem_cons_succ, List.setIfInBounds_toArray, List.set_cons_zero, List.set_cons_succ]); (refine wpAnyH_take (i := 5) (v := ?_) rfl (by kernel_rfl) (by kernel_rfl) (by kernel_rfl) (fun _ _ _ h => h) (Or.inl ⟨by rfl, ?ht_5⟩) HS ?_); (case ht_5 => (intro wt hS; go_simp; try with_reducible rfl)); (try simp only [Act.put, List.getElem_toArray, List.getElem_cons_zero, List.getElem_cons_succ, List.setIfInBounds_toArray, List.set_cons_zero, List.set_cons_succ])
    (refine wpAnyH_take (i := 6) (v := .agg B) rfl (by kernel_rfl) (by kernel_rfl) (by kernel_rfl) (fun _ _ _ h => h) (Or.inl ⟨by rfl, ?ht_6⟩) HS ?_); (case ht_6 => (intro wt hS; exact exec_load_part 30 _ rfl (w.heap.size + 1) 0 (by rfl) _ B _ _ 5 hS.1 Try.underlying30 rfl (by kernel_rfl) (by rw [HB.out.size]; omega) B HEX.out)); (try simp only [Act.put, List.getElem_toArray, List.getElem_cons_zero, List.getElem_cons_succ, List.setIfInBounds_toArray, List.set_cons_zero, List.set_cons_succ])
    refine wpAnyH_ready (rs := [4, 7]) (by kernel_rfl) (by decide) ?_
    obtain ⟨ip, zp, ip1, ip2, ip3, ip4, ip5⟩ := info_ord
    refine AllReadyH.cons rfl (fun K' hK => ?_) (AllReadyH.cons rfl (fun K' hK => ?_) AllReadyH.nil)
    · have cgA := cellF hgq
      go_simp
      refine hK.out _ _ HS (fun HS => ?_)
      clear hK K' cgA
      (try simp only [Act.put, List.getElem_toArray, List.getElem_cons_zero, List.getElem_cons_succ, List.setIfInBounds_toArray, List.set_cons_zero, List.set_cons_succ])
      (refine wpAnyH_ready (rs := [7]) (by kernel_rfl) (by decide) ?_); (refine AllReadyH.cons rfl (fun K' hK => ?_) AllReadyH.nil); (rw [if_pos (by rfl)])
      refine op_slice1 35 30 _ rfl B 5 rfl HB.out.size ip zp Try.underlying35 ip1 ip2 ip3 ip5 (by omega) (by omega) (hK.out _ _ ⟨heap_up HS.1, heap_up HS.2⟩ (fun HS => ?_))
      clear hK K'
      (try simp only [Act.put, List.getElem_toArray, List.getElem_cons_zero, List.getElem_cons_succ, List.setIfInBounds_toArray, List.set_cons_zero, List.set_cons_succ])
      obtain ⟨gx, hgx0⟩ : ∃ gx, gx = wq.heap.size := ⟨_, rfl⟩
      have hgx : (wq.alloc (Obj.cells B 30)).heap[gx]? = some (.cells B 30 (0, 0)) := by rw [hgx0]; exact heap_alloc_new _ _
      have hgxq : wq.heap.size ≤ gx := by omega
      rw [← hgx0]
      clear hgx0
      (refine wpAnyH_ready (rs := [8]) (by kernel_rfl) (by decide) ?_); (refine AllReadyH.cons rfl (fun K' hK => ?_) AllReadyH.nil); (rw [if_pos (by rfl)])
      have hoq1 := hoq.alloc (Obj.cells B 30)
      refine op_call 51 #[.slice ra k rc, .int .i64 k, .slice (some ⟨gx, 0, none⟩) 1 1] (by go_simp) (fun v' w1 => w1.ownsRow base 30 5 v' (k + 1) (flat (ins L k B) (k + 1)) ∧ (wq.alloc (Obj.cells B 30)).grownBy w1 (Value.slice ra k rc).ownBlock ∧ (v'.ownBlock = (Value.slice ra k rc).ownBlock ∨ ∃ q, v'.ownBlock = some q ∧ (wq.alloc (Obj.cells B 30)).heap.size ≤ q)) (insany_at base k k L (.slice ra k rc) gx B _ (fun i => (HS0.out.ord i).size) (fun i => (HS0.out.ord i).all) hoq1 (by omega) hple HB.out.size HB.out.all hgx (fun e => by have := (hoq.lt _ e.symm).2; omega) (by simp; have := HS0.out.bg; have := (Array.getElem?_eq_some_iff.1 hgq).1; omega)) ?_
      rintro v5 w5 ⟨ho5, hg5, hat5⟩
      have hfin := side_grown HS0.out (by omega) HG.out (below_then hBq (below_new wq _)) HB.out hoq1 hg5 ho5
      have hoth : ∀ j, j < wq.heap.size → (∀ A fr, wq.heap[j]? ≠ some (.cells A 30 fr) ∨ w.heap.size ≤ j) → w5.heap[j]? = wq.heap[j]? := fun j hj hd => by
        refine (hg5.block j (by simp; omega) (fun e => ?_)).trans ?_
        · obtain ⟨A9, fr9, h9⟩ := own_tag HROW.out _ e.symm
          have hjw := (Array.getElem?_eq_some_iff.1 h9).1
          rcases hd A9 fr9 with hd | hd
          · exact hd (Ytmjfbilhalkegaa.kept hBq h9)
          · omega
        · rw [Below.heap_alloc _ _ _ hj]
      have hS5 : w5.heap[w.heap.size + 1]? = some (.cells B 30 (0, 0)) ∧ w5.heap[w.heap.size]? = some (.cells #[.pointer (some ⟨g, 0, none⟩)] 54 (0, 0)) := by
        have e1 := hoth (w.heap.size + 1) (by omega) (fun _ _ => .inr (by omega))
        have e2 := hoth w.heap.size (by omega) (fun _ _ => .inr (by omega))
        have h1 := HS.1
        have h2 := HS.2
        rw [Below.heap_alloc _ _ _ (by omega)] at h1 h2
        exact ⟨e1.trans h1, e2.trans h2⟩
      refine hK.out _ _ hS5 (fun HS => ?_)
      clear hK K'
      (try simp only [Act.put, List.getElem_toArray, List.getElem_cons_zero, List.getElem_cons_succ, List.setIfInBounds_toArray, List.set_cons_zero, List.set_cons_succ])
      (refine wpAnyH_take (i := 9) (v := ?_) rfl (by kernel_rfl) (by kernel_rfl) (by kernel_rfl) (fun _ _ _ h => h) (Or.inl ⟨by rfl, ?ht_9⟩) HS ?_); (case ht_9 => (intro wt hS; go_simp; try with_reducible rfl)); (try simp only [Act.put, List.getElem_toArray, List.getElem_cons_zero, List.getElem_cons_succ, List.setIfInBounds_toArray, List.set_cons_zero, List.set_cons_succ]); (refine wpAnyH_take (i := 10) (v := ?_) rfl (by kernel_rfl) (by kernel_rfl) (by kernel_rfl) (fun _ _ _ h => h) (Or.inl ⟨by rfl, ?ht_10⟩) HS ?_); (case ht_10 => (intro wt hS; go_simp; try with_reducible rfl)); (try simp only [Act.put, List.getElem_toArray, List.getElem_cons_zero, List.getElem_cons_succ, List.setIfInBounds_toArray, List.set_cons_zero, List.set_cons_succ])
      have c5 := cellF hfin.1
      have f5 := (cells_of hfin.1).2.1
      obtain ⟨ra5, rc5, rfl, _⟩ := own_rows (c := 5) (L := ins L k B) (fun i => (hfin.2.1.ord i).size) ho5
      have hgw := (Array.getElem?_eq_some_iff.1 HG.out).1
      (refine wpAnyH_ready (rs := [11]) (by kernel_rfl) (by decide) ?_); (refine AllReadyH.cons rfl (fun K' hK => ?_) AllReadyH.nil); (rw [if_pos (by rfl)])
      go_simp
      refine hK.out _ _ ⟨heap_set_other HS.1 (by omega), heap_set_other HS.2 (by omega)⟩ (fun HS => ?_)
      clear hK K' c5 f5
      (try simp only [Act.put, List.getElem_toArray, List.getElem_cons_zero, List.getElem_cons_succ, List.setIfInBounds_toArray, List.set_cons_zero, List.set_cons_succ])
      refine wpAnyH_done (by kernel_rfl) ?_ _
      go_wp2
      go_ret
      exact ⟨rfl, by rw [HPC.out]; exact ⟨hfin.2.1, hfin.2.2.1, hfin.2.2.2, ks_grown HG.out (below_then hBq (below_new wq _)) hg5 hfin.1 hat5⟩⟩
    · rw [if_pos (by rfl)]
      refine op_slice1 35 30 _ rfl B 5 rfl HB.out.size ip zp Try.underlying35 ip1 ip2 ip3 ip5 (by omega) (by omega) (hK.out _ _ ⟨heap_up HS.1, heap_up HS.2⟩ (fun HS => ?_))
      clear hK K'
      (try simp only [Act.put, List.getElem_toArray, List.getElem_cons_zero, List.getElem_cons_succ, List.setIfInBounds_toArray, List.set_cons_zero, List.set_cons_succ])
      have cgA := cellF (heap_up (o := Obj.cells B 30) hgq)
      (refine wpAnyH_ready (rs := [4]) (by kernel_rfl) (by decide) ?_); (refine AllReadyH.cons rfl (fun K' hK => ?_) AllReadyH.nil); (rw [if_pos (by rfl)])
      go_simp
      refine hK.out _ _ HS (fun HS => ?_)
      clear hK K' cgA
      (try simp only [Act.put, List.getElem_toArray, List.getElem_cons_zero, List.getElem_cons_succ, List.setIfInBounds_toArray, List.set_cons_zero, List.set_cons_succ])
      obtain ⟨gx, hgx0⟩ : ∃ gx, gx = wq.heap.size := ⟨_, rfl⟩
      have hgx : (wq.alloc (Obj.cells B 30)).heap[gx]? = some (.cells B 30 (0, 0)) := by rw [hgx0]; exact heap_alloc_new _ _
      have hgxq : wq.heap.size ≤ gx := by omega
      rw [← hgx0]
      clear hgx0
      (refine wpAnyH_ready (rs := [8]) (by kernel_rfl) (by decide) ?_); (refine AllReadyH.cons rfl (fun K' hK => ?_) AllReadyH.nil); (rw [if_pos (by rfl)])
      have hoq1 := hoq.alloc (Obj.cells B 30)
      refine op_call 51 #[.slice ra k rc, .int .i64 k, .slice (some ⟨gx, 0, none⟩) 1 1] (by go_simp) (fun v' w1 => w1.ownsRow base 30 5 v' (k + 1) (flat (ins L k B) (k + 1)) ∧ (wq.alloc (Obj.cells B 30)).grownBy w1 (Value.slice ra k rc).ownBlock ∧ (v'.ownBlock = (Value.slice ra k rc).ownBlock ∨ ∃ q, v'.ownBlock = some q ∧ (wq.alloc (Obj.cells B 30)).heap.size ≤ q)) (insany_at base k k L (.slice ra k rc) gx B _ (fun i => (HS0.out.ord i).size) (fun i => (HS0.out.ord i).all) hoq1 (by omega) hple HB.out.size HB.out.all hgx (fun e => by have := (hoq.lt _ e.symm).2; omega) (by simp; have := HS0.out.bg; have := (Array.getElem?_eq_some_iff.1 hgq).1; omega)) ?_
      rintro v5 w5 ⟨ho5, hg5, hat5⟩
      have hfin := side_grown HS0.out (by omega) HG.out (below_then hBq (below_new wq _)) HB.out hoq1 hg5 ho5
      have hoth : ∀ j, j < wq.heap.size → (∀ A fr, wq.heap[j]? ≠ some (.cells A 30 fr) ∨ w.heap.size ≤ j) → w5.heap[j]? = wq.heap[j]? := fun j hj hd => by
        refine (hg5.block j (by simp; omega) (fun e => ?_)).trans ?_
        · obtain ⟨A9, fr9, h9⟩ := own_tag HROW.out _ e.symm
          have hjw := (Array.getElem?_eq_some_iff.1 h9).1
          rcases hd A9 fr9 with hd | hd
          · exact hd (Ytmjfbilhalkegaa.kept hBq h9)
          · omega
        · rw [Below.heap_alloc _ _ _ hj]
      have hS5 : w5.heap[w.heap.size + 1]? = some (.cells B 30 (0, 0)) ∧ w5.heap[w.heap.size]? = some (.cells #[.pointer (some ⟨g, 0, none⟩)] 54 (0, 0)) := by
        have e1 := hoth (w.heap.size + 1) (by omega) (fun _ _ => .inr (by omega))
        have e2 := hoth w.heap.size (by omega) (fun _ _ => .inr (by omega))
        have h1 := HS.1
        have h2 := HS.2
        rw [Below.heap_alloc _ _ _ (by omega)] at h1 h2
        exact ⟨e1.trans h1, e2.trans h2⟩
      refine hK.out _ _ hS5 (fun HS => ?_)
      clear hK K'
      (try simp only [Act.put, List.getElem_toArray, List.getElem_cons_zero, List.getElem_cons_succ, List.setIfInBounds_toArray, List.set_cons_zero, List.set_cons_succ])
      (refine wpAnyH_take (i := 9) (v := ?_) rfl (by kernel_rfl) (by kernel_rfl) (by kernel_rfl) (fun _ _ _ h => h) (Or.inl ⟨by rfl, ?ht_9⟩) HS ?_); (case ht_9 => (intro wt hS; go_simp; try with_reducible rfl)); (try simp only [Act.put, List.getElem_toArray, List.getElem_cons_zero, List.getElem_cons_succ, List.setIfInBounds_toArray, List.set_cons_zero, List.set_cons_succ]); (refine wpAnyH_take (i := 10) (v := ?_) rfl (by kernel_rfl) (by kernel_rfl) (by kernel_rfl) (fun _ _ _ h => h) (Or.inl ⟨by rfl, ?ht_10⟩) HS ?_); (case ht_10 => (intro wt hS; go_simp; try with_reducible rfl)); (try simp only [Act.put, List.getElem_toArray, List.getElem_cons_zero, List.getElem_cons_succ, List.setIfInBounds_toArray, List.set_cons_zero, List.set_cons_succ])
      have c5 := cellF hfin.1
      have f5 := (cells_of hfin.1).2.1
      obtain ⟨ra5, rc5, rfl, _⟩ := own_rows (c := 5) (L := ins L k B) (fun i => (hfin.2.1.ord i).size) ho5
      have hgw := (Array.getElem?_eq_some_iff.1 HG.out).1
      (refine wpAnyH_ready (rs := [11]) (by kernel_rfl) (by decide) ?_); (refine AllReadyH.cons rfl (fun K' hK => ?_) AllReadyH.nil); (rw [if_pos (by rfl)])
      go_simp
      refine hK.out _ _ ⟨heap_set_other HS.1 (by omega), heap_set_other HS.2 (by omega)⟩ (fun HS => ?_)
      clear hK K' c5 f5
      (try simp only [Act.put, List.getElem_toArray, List.getElem_cons_zero, List.getElem_cons_succ, List.setIfInBounds_toArray, List.set_cons_zero, List.set_cons_succ])
      refine wpAnyH_done (by kernel_rfl) ?_ _
      go_wp2
      go_ret
      exact ⟨rfl, by rw [HPC.out]; exact ⟨hfin.2.1, hfin.2.2.1, hfin.2.2.2, ks_grown HG.out (below_then hBq (below_new wq _)) hg5 hfin.1 hat5⟩⟩
  · obtain ⟨pi, rfl⟩ : ∃ pi : Nat, pv = pi := ⟨pv.toNat, by omega⟩
    have hplc : plc buy L B k = pi := by rw [HPL.out, if_neg hp]; omega
    have HPC := Lib.hid hplc
    have hple : pi ≤ k := by omega
    clear hplc
    go_wp2_with fail
    clear cs8 cg8
    refine wp_region_held (S := fun wt => wt.heap[w.heap.size + 1]? = some (.cells B 30 (0, 0)) ∧ wt.heap[w.heap.size]? = some (.cells #[.pointer (some ⟨g, 0, none⟩)] 54 (0, 0))) (by kernel_rfl) ?_
    change wpAnyH _ _ _ _ _ _ _ _ (World.drew _)
    obtain ⟨wq, hwq⟩ : ∃ wq, wq = w8.drew := ⟨_, rfl⟩
    have hBq : Below w.heap.size w wq := by rw [hwq]; exact Below.drew hb86
    have hoq := own_below hBq HROW.out
    have hgq := Ytmjfbilhalkegaa.kept hBq HG.out
    have HSH : wq.heap[w.heap.size + 1]? = some (.cells B 30 (0, 0)) ∧ wq.heap[w.heap.size]? = some (.cells #[.pointer (some ⟨g, 0, none⟩)] 54 (0, 0)) := by rw [hwq]; exact ⟨hgo8, hgs8⟩
    have hszq : w.heap.size + 1 < wq.heap.size := (Array.getElem?_eq_some_iff.1 HSH.1).1
    have HS0 := HS
    clear HS
    have HS := HSH
    rw [← hwq]
    clear hwq HSH hgo8 hgs8 hg8
    (refine wpAnyH_take (i := 0) (v := ?_) rfl (by kernel_rfl) (by kernel_rfl) (by kernel_rfl) (fun _ _ _ h => h) (Or.inl ⟨by rfl, ?ht_0⟩) HS ?_); (case ht_0 => (intro wt hS; have cg := cellF hS.2; go_simp; try with_reducible rfl)); (try simp only [Act.put, List.getElem_toArray, List.getElem_cons_zero, List.getElem_cons_succ, List.setIfInBounds_toArray, List.set_cons_zero, List.set_cons_succ])
    (refine wpAnyH_take (i := 1) (v := ?_) rfl (by kernel_rfl) (by kernel_rfl) (by kernel_rfl) (fun _ _ _ h => h) (Or.inl ⟨by rfl, ?ht_1⟩) HS ?_); (case ht_1 => (intro wt hS; have cg := cellF hS.2; go_simp; try with_reducible rfl)); (try simp only [Act.put, List.getElem_toArray, List.getElem_cons_zero, List.getElem_cons_succ, List.setIfInBounds_toArray, List.set_cons_zero, List.set_cons_succ])
    (refine wpAnyH_take (i := 2) (v := ?_) rfl (by kernel_rfl) (by kernel_rfl) (by kernel_rfl) (fun _ _ _ h => h) (Or.inl ⟨by rfl, ?ht_2⟩) HS ?_); (case ht_2 => (intro wt hS; go_simp; try with_reducible rfl)); (try simp only [Act.put, List.getElem_toArray, List.getElem_cons_zero, List.getElem_cons_succ, List.setIfInBounds_toArray, List.set_cons_zero, List.set_cons_succ]); (refine wpAnyH_take (i := 3) (v := ?_) rfl (by kernel_rfl) (by kernel_rfl) (by kernel_rfl) (fun _ _ _ h => h) (Or.inl ⟨by rfl, ?ht_3⟩) HS ?_); (case ht_3 => (intro wt hS; go_simp; try with_reducible rfl)); (try simp only [Act.put, List.getElem_toArray, List.getElem_cons_zero, List.getElem_cons_succ, List.setIfInBounds_toArray, List.set_cons_zero, List.set_cons_succ]); (refine wpAnyH_take (i := 5) (v := ?_) rfl (by kernel_rfl) (by kernel_rfl) (by kernel_rfl) (fun _ _ _ h => h) (Or.inl ⟨by rfl, ?ht_5⟩) HS ?_); (case ht_5 => (intro wt hS; go_simp; try with_reducible rfl)); (try simp only [Act.put, List.getElem_toArray, List.getElem_cons_zero, List.getElem_cons_succ, List.setIfInBounds_toArray, List.set_cons_zero, List.set_cons_succ])
    (refine wpAnyH_take (i := 6) (v := .agg B) rfl (by kernel_rfl) (by kernel_rfl) (by kernel_rfl) (fun _ _ _ h => h) (Or.inl ⟨by rfl, ?ht_6⟩) HS ?_); (case ht_6 => (intro wt hS; exact exec_load_part 30 _ rfl (w.heap.size + 1) 0 (by rfl) _ B _ _ 5 hS.1 Try.underlying30 rfl (by kernel_rfl) (by rw [HB.out.size]; omega) B HEX.out)); (try simp only [Act.put, List.getElem_toArray, List.getElem_cons_zero, List.getElem_cons_succ, List.setIfInBounds_toArray, List.set_cons_zero, List.set_cons_succ])
    refine wpAnyH_ready (rs := [4, 7]) (by kernel_rfl) (by decide) ?_
    obtain ⟨ip, zp, ip1, ip2, ip3, ip4, ip5⟩ := info_ord
    refine AllReadyH.cons rfl (fun K' hK => ?_) (AllReadyH.cons rfl (fun K' hK => ?_) AllReadyH.nil)
    · have cgA := cellF hgq
      go_simp
      refine hK.out _ _ HS (fun HS => ?_)
      clear hK K' cgA
      (try simp only [Act.put, List.getElem_toArray, List.getElem_cons_zero, List.getElem_cons_succ, List.setIfInBounds_toArray, List.set_cons_zero, List.set_cons_succ])
      (refine wpAnyH_ready (rs := [7]) (by kernel_rfl) (by decide) ?_); (refine AllReadyH.cons rfl (fun K' hK => ?_) AllReadyH.nil); (rw [if_pos (by rfl)])
      refine op_slice1 35 30 _ rfl B 5 rfl HB.out.size ip zp Try.underlying35 ip1 ip2 ip3 ip5 (by omega) (by omega) (hK.out _ _ ⟨heap_up HS.1, heap_up HS.2⟩ (fun HS => ?_))
      clear hK K'
      (try simp only [Act.put, List.getElem_toArray, List.getElem_cons_zero, List.getElem_cons_succ, List.setIfInBounds_toArray, List.set_cons_zero, List.set_cons_succ])
      obtain ⟨gx, hgx0⟩ : ∃ gx, gx = wq.heap.size := ⟨_, rfl⟩
      have hgx : (wq.alloc (Obj.cells B 30)).heap[gx]? = some (.cells B 30 (0, 0)) := by rw [hgx0]; exact heap_alloc_new _ _
      have hgxq : wq.heap.size ≤ gx := by omega
      rw [← hgx0]
      clear hgx0
      (refine wpAnyH_ready (rs := [8]) (by kernel_rfl) (by decide) ?_); (refine AllReadyH.cons rfl (fun K' hK => ?_) AllReadyH.nil); (rw [if_pos (by rfl)])
      have hoq1 := hoq.alloc (Obj.cells B 30)
      refine op_call 51 #[.slice ra k rc, .int .i64 pi, .slice (some ⟨gx, 0, none⟩) 1 1] (by go_simp) (fun v' w1 => w1.ownsRow base 30 5 v' (k + 1) (flat (ins L pi B) (k + 1)) ∧ (wq.alloc (Obj.cells B 30)).grownBy w1 (Value.slice ra k rc).ownBlock ∧ (v'.ownBlock = (Value.slice ra k rc).ownBlock ∨ ∃ q, v'.ownBlock = some q ∧ (wq.alloc (Obj.cells B 30)).heap.size ≤ q)) (insany_at base k pi L (.slice ra k rc) gx B _ (fun i => (HS0.out.ord i).size) (fun i => (HS0.out.ord i).all) hoq1 (by omega) hple HB.out.size HB.out.all hgx (fun e => by have := (hoq.lt _ e.symm).2; omega) (by simp; have := HS0.out.bg; have := (Array.getElem?_eq_some_iff.1 hgq).1; omega)) ?_
      rintro v5 w5 ⟨ho5, hg5, hat5⟩
      have hfin := side_grown HS0.out (by omega) HG.out (below_then hBq (below_new wq _)) HB.out hoq1 hg5 ho5
      have hoth : ∀ j, j < wq.heap.size → (∀ A fr, wq.heap[j]? ≠ some (.cells A 30 fr) ∨ w.heap.size ≤ j) → w5.heap[j]? = wq.heap[j]? := fun j hj hd => by
        refine (hg5.block j (by simp; omega) (fun e => ?_)).trans ?_
        · obtain ⟨A9, fr9, h9⟩ := own_tag HROW.out _ e.symm
          have hjw := (Array.getElem?_eq_some_iff.1 h9).1
          rcases hd A9 fr9 with hd | hd
          · exact hd (Ytmjfbilhalkegaa.kept hBq h9)
          · omega
        · rw [Below.heap_alloc _ _ _ hj]
      have hS5 : w5.heap[w.heap.size + 1]? = some (.cells B 30 (0, 0)) ∧ w5.heap[w.heap.size]? = some (.cells #[.pointer (some ⟨g, 0, none⟩)] 54 (0, 0)) := by
        have e1 := hoth (w.heap.size + 1) (by omega) (fun _ _ => .inr (by omega))
        have e2 := hoth w.heap.size (by omega) (fun _ _ => .inr (by omega))
        have h1 := HS.1
        have h2 := HS.2
        rw [Below.heap_alloc _ _ _ (by omega)] at h1 h2
        exact ⟨e1.trans h1, e2.trans h2⟩
      refine hK.out _ _ hS5 (fun HS => ?_)
      clear hK K'
      (try simp only [Act.put, List.getElem_toArray, List.getElem_cons_zero, List.getElem_cons_succ, List.setIfInBounds_toArray, List.set_cons_zero, List.set_cons_succ])
      (refine wpAnyH_take (i := 9) (v := ?_) rfl (by kernel_rfl) (by kernel_rfl) (by kernel_rfl) (fun _ _ _ h => h) (Or.inl ⟨by rfl, ?ht_9⟩) HS ?_); (case ht_9 => (intro wt hS; go_simp; try with_reducible rfl)); (try simp only [Act.put, List.getElem_toArray, List.getElem_cons_zero, List.getElem_cons_succ, List.setIfInBounds_toArray, List.set_cons_zero, List.set_cons_succ]); (refine wpAnyH_take (i := 10) (v := ?_) rfl (by kernel_rfl) (by kernel_rfl) (by kernel_rfl) (fun _ _ _ h => h) (Or.inl ⟨by rfl, ?ht_10⟩) HS ?_); (case ht_10 => (intro wt hS; go_simp; try with_reducible rfl)); (try simp only [Act.put, List.getElem_toArray, List.getElem_cons_zero, List.getElem_cons_succ, List.setIfInBounds_toArray, List.set_cons_zero, List.set_cons_succ])
      have c5 := cellF hfin.1
      have f5 := (cells_of hfin.1).2.1
      obtain ⟨ra5, rc5, rfl, _⟩ := own_rows (c := 5) (L := ins L pi B) (fun i => (hfin.2.1.ord i).size) ho5
      have hgw := (Array.getElem?_eq_some_iff.1 HG.out).1
      (refine wpAnyH_ready (rs := [11]) (by kernel_rfl) (by decide) ?_); (refine AllReadyH.cons rfl (fun K' hK => ?_) AllReadyH.nil); (rw [if_pos (by rfl)])
      go_simp
      refine hK.out _ _ ⟨heap_set_other HS.1 (by omega), heap_set_other HS.2 (by omega)⟩ (fun HS => ?_)
      clear hK K' c5 f5
      (try simp only [Act.put, List.getElem_toArray, List.getElem_cons_zero, List.getElem_cons_succ, List.setIfInBounds_toArray, List.set_cons_zero, List.set_cons_succ])
      refine wpAnyH_done (by kernel_rfl) ?_ _
      go_wp2
      go_ret
      exact ⟨rfl, by rw [HPC.out]; exact ⟨hfin.2.1, hfin.2.2.1, hfin.2.2.2, ks_grown HG.out (below_then hBq (below_new wq _)) hg5 hfin.1 hat5⟩⟩
    · rw [if_pos (by rfl)]
      refine op_slice1 35 30 _ rfl B 5 rfl HB.out.size ip zp Try.underlying35 ip1 ip2 ip3 ip5 (by omega) (by omega) (hK.out _ _ ⟨heap_up HS.1, heap_up HS.2⟩ (fun HS => ?_))
      clear hK K'
      (try simp only [Act.put, List.getElem_toArray, List.getElem_cons_zero, List.getElem_cons_succ, List.setIfInBounds_toArray, List.set_cons_zero, List.set_cons_succ])
      have cgA := cellF (heap_up (o := Obj.cells B 30) hgq)
      (refine wpAnyH_ready (rs := [4]) (by kernel_rfl) (by decide) ?_); (refine AllReadyH.cons rfl (fun K' hK => ?_) AllReadyH.nil); (rw [if_pos (by rfl)])
      go_simp
      refine hK.out _ _ HS (fun HS => ?_)
      clear hK K' cgA
      (try simp only [Act.put, List.getElem_toArray, List.getElem_cons_zero, List.getElem_cons_succ, List.setIfInBounds_toArray, List.set_cons_zero, List.set_cons_succ])
      obtain ⟨gx, hgx0⟩ : ∃ gx, gx = wq.heap.size := ⟨_, rfl⟩
      have hgx : (wq.alloc (Obj.cells B 30)).heap[gx]? = some (.cells B 30 (0, 0)) := by rw [hgx0]; exact heap_alloc_new _ _
      have hgxq : wq.heap.size ≤ gx := by omega
      rw [← hgx0]
      clear hgx0
      (refine wpAnyH_ready (rs := [8]) (by kernel_rfl) (by decide) ?_); (refine AllReadyH.cons rfl (fun K' hK => ?_) AllReadyH.nil); (rw [if_pos (by rfl)])
      have hoq1 := hoq.alloc (Obj.cells B 30)
      refine op_call 51 #[.slice ra k rc, .int .i64 pi, .slice (some ⟨gx, 0, none⟩) 1 1] (by go_simp) (fun v' w1 => w1.ownsRow base 30 5 v' (k + 1) (flat (ins L pi B) (k + 1)) ∧ (wq.alloc (Obj.cells B 30)).grownBy w1 (Value.slice ra k rc).ownBlock ∧ (v'.ownBlock = (Value.slice ra k rc).ownBlock ∨ ∃ q, v'.ownBlock = some q ∧ (wq.alloc (Obj.cells B 30)).heap.size ≤ q)) (insany_at base k pi L (.slice ra k rc) gx B _ (fun i => (HS0.out.ord i).size) (fun i => (HS0.out.ord i).all) hoq1 (by omega) hple HB.out.size HB.out.all hgx (fun e => by have := (hoq.lt _ e.symm).2; omega) (by simp; have := HS0.out.bg; have := (Array.getElem?_eq_some_iff.1 hgq).1; omega)) ?_
      rintro v5 w5 ⟨ho5, hg5, hat5⟩
      have hfin := side_grown HS0.out (by omega) HG.out (below_then hBq (below_new wq _)) HB.out hoq1 hg5 ho5
      have hoth : ∀ j, j < wq.heap.size → (∀ A fr, wq.heap[j]? ≠ some (.cells A 30 fr) ∨ w.heap.size ≤ j) → w5.heap[j]? = wq.heap[j]? := fun j hj hd => by
        refine (hg5.block j (by simp; omega) (fun e => ?_)).trans ?_
        · obtain ⟨A9, fr9, h9⟩ := own_tag HROW.out _ e.symm
          have hjw := (Array.getElem?_eq_some_iff.1 h9).1
          rcases hd A9 fr9 with hd | hd
          · exact hd (Ytmjfbilhalkegaa.kept hBq h9)
          · omega
        · rw [Below.heap_alloc _ _ _ hj]
      have hS5 : w5.heap[w.heap.size + 1]? = some (.cells B 30 (0, 0)) ∧ w5.heap[w.heap.size]? = some (.cells #[.pointer (some ⟨g, 0, none⟩)] 54 (0, 0)) := by
        have e1 := hoth (w.heap.size + 1) (by omega) (fun _ _ => .inr (by omega))
        have e2 := hoth w.heap.size (by omega) (fun _ _ => .inr (by omega))
        have h1 := HS.1
        have h2 := HS.2
        rw [Below.heap_alloc _ _ _ (by omega)] at h1 h2
        exact ⟨e1.trans h1, e2.trans h2⟩
      refine hK.out _ _ hS5 (fun HS => ?_)
      clear hK K'
      (try simp only [Act.put, List.getElem_toArray, List.getElem_cons_zero, List.getElem_cons_succ, List.setIfInBounds_toArray, List.set_cons_zero, List.set_cons_succ])
      (refine wpAnyH_take (i := 9) (v := ?_) rfl (by kernel_rfl) (by kernel_rfl) (by kernel_rfl) (fun _ _ _ h => h) (Or.inl ⟨by rfl, ?ht_9⟩) HS ?_); (case ht_9 => (intro wt hS; go_simp; try with_reducible rfl)); (try simp only [Act.put, List.getElem_toArray, List.getElem_cons_zero, List.getElem_cons_succ, List.setIfInBounds_toArray, List.set_cons_zero, List.set_cons_succ]); (refine wpAnyH_take (i := 10) (v := ?_) rfl (by kernel_rfl) (by kernel_rfl) (by kernel_rfl) (fun _ _ _ h => h) (Or.inl ⟨by rfl, ?ht_10⟩) HS ?_); (case ht_10 => (intro wt hS; go_simp; try with_reducible rfl)); (try simp only [Act.put, List.getElem_toArray, List.getElem_cons_zero, List.getElem_cons_succ, List.setIfInBounds_toArray, List.set_cons_zero, List.set_cons_succ])
      have c5 := cellF hfin.1
      have f5 := (cells_of hfin.1).2.1
      obtain ⟨ra5, rc5, rfl, _⟩ := own_rows (c := 5) (L := ins L pi B) (fun i => (hfin.2.1.ord i).size) ho5
      have hgw := (Array.getElem?_eq_some_iff.1 HG.out).1
      (refine wpAnyH_ready (rs := [11]) (by kernel_rfl) (by decide) ?_); (refine AllReadyH.cons rfl (fun K' hK => ?_) AllReadyH.nil); (rw [if_pos (by rfl)])
      go_simp
      refine hK.out _ _ ⟨heap_set_other HS.1 (by omega), heap_set_other HS.2 (by omega)⟩ (fun HS => ?_)
      clear hK K' c5 f5
      (try simp only [Act.put, List.getElem_toArray, List.getElem_cons_zero, List.getElem_cons_succ, List.setIfInBounds_toArray, List.set_cons_zero, List.set_cons_succ])
      refine wpAnyH_done (by kernel_rfl) ?_ _
      go_wp2
      go_ret
      exact ⟨rfl, by rw [HPC.out]; exact ⟨hfin.2.1, hfin.2.2.1, hfin.2.2.2, ks_grown HG.out (below_then hBq (below_new wq _)) hg5 hfin.1 hat5⟩⟩
end Go.Proofs.Ytmjfbilhalkegaa
