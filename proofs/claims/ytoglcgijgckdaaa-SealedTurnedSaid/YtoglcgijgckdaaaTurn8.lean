/- SealedTurned, walked: it returns true. Condition: the numbers fit their kinds. -/
import Derived.Test.YtoglcgijgckdaaaTwo8
namespace Go.Proofs.Ytoglcgijgckdaaa
set_option linter.unusedVariables false
set_option linter.unusedSimpArgs false
open Go.RowKit

theorem rowsC_of_T {w : World} {t : TypeId} {c n : Nat} {a : Option Addr} {L : Nat → Array Value} (h : RowsT w t c a n L) : RowsC w c a n L := fun i hi => by
  obtain ⟨g, off, A, fr, h1, h2, h3, h4⟩ := h i hi
  exact ⟨g, off, A, t, fr, h1, h2, h3, h4⟩
set_option maxRecDepth 100000 in
set_option maxHeartbeats 8000000 in
theorem turn8_law (Q : Int) (ad : Option Addr) (n cap : Nat) (L : Nat → Array Value) (w : World) (hQ : F64 Q) (hL : ∀ i, IsOrd (L i)) (hR : RowsC w 5 ad n L) (_ : n ≤ cap) (_ : cap ≤ 9223372036854775807) (hz : ad = none → n = 0 ∧ cap = 0) :
    Calls Try.prog 6 #[.int .i64 Q, .slice ad n cap] w fun e w' => e = .returned (.bool true) ∧ Below w.heap.size w w' := by
  have HR := Lib.hid hR
  have HL := Lib.hid hL
  have HQ := Lib.hid hQ
  clear hR hL hz hQ
  by_cases h50 : 50 < n
  · have h50i : (50 : Int) < n := by omega
    go_enter Try.func6, Try.ntmps6
    go_wp2_with ((go_at_call 7; (with_reducible refine (known08 _).mono ?_); rintro e w9 ⟨rfl, hb9⟩))
    go_ret
    exact ⟨rfl, hb9⟩
  have h50i : ¬ (50 : Int) < n := by omega
  go_enter Try.func6, Try.ntmps6
  go_wp2
  go_loopg [5, 6, 23] n (fun gh va vb vi wr => ∃ i : Nat, i ≤ n ∧ gh = n - i ∧ vi = .int .i64 i ∧ Two w wr i i (fun i => oB (L i)) (fun i => oS (L i)) va vb ∧ ∀ j, j < i → 1 ≤ N (L j) 3 ∧ N (L j) 3 ≤ 1000)
  case atStart => exact ⟨0, by omega, by omega, rfl, ⟨World.ownsRow_nil _ _ _ _, World.ownsRow_nil _ _ _ _, (fun q e => by cases e), Below.refl _ _⟩, fun j hj => by omega⟩
  case round =>
    obtain ⟨i, hi, rfl, rfl, ht, hpr⟩ := hrel
    have HT := Lib.hid ht
    have HP := Lib.hid hpr
    clear ht hpr
    by_cases hlt : i < n
    · have hlti : (i : Int) < (n : Int) := by omega
      obtain ⟨ga, oa, A5, ta, fa, rfl, hgA, hsA, hxA⟩ := (HR.out.kept HT.out.be) i hlt
      have hO := HL.out i
      have HZ := Lib.hid hsA
      have HEX := Lib.hid hxA
      have Hos := Lib.hid hO.size
      have Hoa := Lib.hid hO.all
      have Hoe := Lib.hid (extract_all hO.size)
      have a2 : (L i)[2]? = some (.bool (Bo (L i) 2)) := hO.b
      have a3 : (L i)[3]? = some (.int .i64 (N (L i) 3)) := hO.p.1
      have hF3 := hO.p.2
      have HB0 := Lib.hid HT.out.be
      clear hsA hxA hO
      have hp3 : ∃ p, p = N (L i) 3 := ⟨_, rfl⟩
      obtain ⟨p, hp⟩ := hp3
      rw [← hp] at a3 hF3
      have HPP := Lib.hid hp
      clear hp
      obtain ⟨hF3a, hF3b⟩ : -9223372036854775808 ≤ p ∧ p ≤ 9223372036854775807 := hF3
      by_cases hp1 : p < 1
      · go_wp2_with (first | ((with_reducible refine at_load 31 ?_); refine wpList_load_part rfl 31 _ rfl (ga) (oa + i * 5) rfl _ (A5) _ _ 5 (hgA) Try.underlying31 rfl (by kernel_rfl) (HZ.out) (L i) (HEX.out) ?_) | ((with_reducible refine at_alloc 31 ?_); refine wpList_alloc_named rfl 31 rfl (zo5) (by kernel_rfl) ?_) | ((with_reducible refine at_store 31 ?_); refine wpList_store_new rfl 31 _ _ rfl (L i) _ _ _ rfl (by simp) rfl (by rw [Hos.out]; kernel_rfl) (by rw [Hos.out]; rfl) (Hoa.out) ?_) | ((with_reducible refine at_load 31 ?_); refine wpList_load_part rfl 31 _ rfl (wr.heap.size) (0) rfl _ (L i) _ _ 5 (heap_alloc_new _ _) Try.underlying31 rfl (by kernel_rfl) (by rw [Hos.out]; omega) (L i) (Hoe.out) ?_) | (go_at_call 7; (with_reducible refine (known08 _).mono ?_); rintro e w9 ⟨rfl, hb9⟩)
          )
        go_ret
        exact ⟨rfl, below_then (below_alloc HB0.out _) hb9⟩
      by_cases hp2 : 1000 < p
      · go_wp2_with (first | ((with_reducible refine at_load 31 ?_); refine wpList_load_part rfl 31 _ rfl (ga) (oa + i * 5) rfl _ (A5) _ _ 5 (hgA) Try.underlying31 rfl (by kernel_rfl) (HZ.out) (L i) (HEX.out) ?_) | ((with_reducible refine at_alloc 31 ?_); refine wpList_alloc_named rfl 31 rfl (zo5) (by kernel_rfl) ?_) | ((with_reducible refine at_store 31 ?_); refine wpList_store_new rfl 31 _ _ rfl (L i) _ _ _ rfl (by simp) rfl (by rw [Hos.out]; kernel_rfl) (by rw [Hos.out]; rfl) (Hoa.out) ?_) | ((with_reducible refine at_load 31 ?_); refine wpList_load_part rfl 31 _ rfl (wr.heap.size) (0) rfl _ (L i) _ _ 5 (heap_alloc_new _ _) Try.underlying31 rfl (by kernel_rfl) (by rw [Hos.out]; omega) (L i) (Hoe.out) ?_) | (go_at_call 7; (with_reducible refine (known08 _).mono ?_); rintro e w9 ⟨rfl, hb9⟩)
          )
        go_ret
        exact ⟨rfl, below_then (below_alloc HB0.out _) hb9⟩
      go_upto_region 12 with (first | ((with_reducible refine at_load 31 ?_); refine wpList_load_part rfl 31 _ rfl (ga) (oa + i * 5) rfl _ (A5) _ _ 5 (hgA) Try.underlying31 rfl (by kernel_rfl) (HZ.out) (L i) (HEX.out) ?_) | ((with_reducible refine at_alloc 31 ?_); refine wpList_alloc_named rfl 31 rfl (zo5) (by kernel_rfl) ?_) | ((with_reducible refine at_store 31 ?_); refine wpList_store_new rfl 31 _ _ rfl (L i) _ _ _ rfl (by simp) rfl (by rw [Hos.out]; kernel_rfl) (by rw [Hos.out]; rfl) (Hoa.out) ?_) | ((with_reducible refine at_load 31 ?_); refine wpList_load_part rfl 31 _ rfl (wr.heap.size) (0) rfl _ (L i) _ _ 5 (heap_alloc_new _ _) Try.underlying31 rfl (by kernel_rfl) (by rw [Hos.out]; omega) (L i) (Hoe.out) ?_) | (go_at_call 7; (with_reducible refine (known08 _).mono ?_); rintro e w9 ⟨rfl, hb9⟩)
        )
      rw [show (L i).setIfInBounds 2 (.bool true) = oB (L i) from rfl, show ((L i).setIfInBounds 2 (.bool false)).setIfInBounds 3 (.int .i64 (1001 - p)) = oS (L i) from by rw [HPP.out]; rfl]
      have hp12 : 1 ≤ N (L i) 3 ∧ N (L i) 3 ≤ 1000 := by rw [← HPP.out]; omega
      have HXO := Lib.hid (oB_ord (HL.out i))
      have HYO := Lib.hid (oS_ord (HL.out i) hp12)
      have HPN := Lib.hid (show ∀ j, j < i + 1 → 1 ≤ N (L j) 3 ∧ N (L j) 3 ≤ 1000 from fun j hj => by
        by_cases e : j = i
        · subst e; exact hp12
        · exact HP.out j (by omega))
      clear hp12
      refine wp_region_held (S := fun wt => wt.heap[wr.heap.size]? = some (.cells (oB (L i)) 31 (0, 0)) ∧ wt.heap[wr.heap.size + 1]? = some (.cells (oS (L i)) 31 (0, 0))) (by kernel_rfl) ?_
      change wpAnyH _ _ _ _ _ _ _ _ (World.drew _)
      obtain ⟨wc, hwc⟩ : ∃ wc, wc = ((wr.alloc (Obj.cells (oB (L i)) 31)).alloc (Obj.cells (oS (L i)) 31)).drew := ⟨_, rfl⟩
      have HS : wc.heap[wr.heap.size]? = some (.cells (oB (L i)) 31 (0, 0)) ∧ wc.heap[wr.heap.size + 1]? = some (.cells (oS (L i)) 31 (0, 0)) := by
        rw [hwc]
        refine ⟨?_, ?_⟩
        · show (World.alloc _ _).heap[_]? = _
          exact heap_up (heap_alloc_new _ _)
        · have h2 : ((wr.alloc (Obj.cells (oB (L i)) 31)).alloc (Obj.cells (oS (L i)) 31)).heap[wr.heap.size + 1]? = some (.cells (oS (L i)) 31 (0, 0)) := by
            have := heap_alloc_new (wr.alloc (Obj.cells (oB (L i)) 31)) (Obj.cells (oS (L i)) 31)
            simpa using this
          exact h2
      have hbq : Below wr.heap.size wr wc := by rw [hwc]; exact Below.drew (below_alloc (below_new _ _) _)
      have HNA := Lib.hid (show (∀ q, u5.ownBlock = some q → q < wr.heap.size) ∧ (∀ q, u6.ownBlock = some q → q < wr.heap.size) from ⟨fun q e => (HT.out.a.lt q e).2, fun q e => (HT.out.b.lt q e).2⟩)
      have HT := Lib.hid (HT.out.below hbq)
      have hwcs : wr.heap.size + 2 ≤ wc.heap.size := by rw [hwc]; simp [World.drew]
      rw [← hwc]
      clear hwc hbq HP
      obtain ⟨gw, hgw⟩ : ∃ gw, gw = wr.heap.size := ⟨_, rfl⟩
      rw [← hgw] at HNA HS hwcs ⊢
      clear hgw
      obtain ⟨X, hX⟩ : ∃ X, X = oB (L i) := ⟨_, rfl⟩
      obtain ⟨Y, hY⟩ : ∃ Y, Y = oS (L i) := ⟨_, rfl⟩
      rw [← hX, ← hY] at HS
      rw [← hX, ← hY]
      have HXY := Lib.hid (And.intro hX hY)
      rw [← hX] at HXO
      rw [← hY] at HYO
      clear hX hY
      (refine wpAnyH_take (i := 0) (v := ?_) rfl (by kernel_rfl) (by kernel_rfl) (by kernel_rfl) (fun _ _ _ h => h) (Or.inl ⟨by rfl, ?ht_0⟩) HS ?_); (case ht_0 => (intro wt hS; go_simp; try with_reducible rfl)); (try simp only [Act.put, List.getElem_toArray, List.getElem_cons_zero, List.getElem_cons_succ, List.setIfInBounds_toArray, List.set_cons_zero, List.set_cons_succ]); (refine wpAnyH_take (i := 4) (v := ?_) rfl (by kernel_rfl) (by kernel_rfl) (by kernel_rfl) (fun _ _ _ h => h) (Or.inl ⟨by rfl, ?ht_4⟩) HS ?_); (case ht_4 => (intro wt hS; go_simp; try with_reducible rfl)); (try simp only [Act.put, List.getElem_toArray, List.getElem_cons_zero, List.getElem_cons_succ, List.setIfInBounds_toArray, List.set_cons_zero, List.set_cons_succ])
      (refine wpAnyH_take (i := 1) (v := .agg X) rfl (by kernel_rfl) (by kernel_rfl) (by kernel_rfl) (fun _ _ _ h => h) (Or.inl ⟨by rfl, ?ht_1⟩) HS ?_); (case ht_1 => (intro wt hS; exact exec_load_part 31 _ rfl gw 0 (by rfl) _ X _ _ 5 hS.1 Try.underlying31 rfl (by kernel_rfl) (by rw [HXO.out.size]; omega) X (extract_all HXO.out.size))); (try simp only [Act.put, List.getElem_toArray, List.getElem_cons_zero, List.getElem_cons_succ, List.setIfInBounds_toArray, List.set_cons_zero, List.set_cons_succ])
      (refine wpAnyH_take (i := 5) (v := .agg Y) rfl (by kernel_rfl) (by kernel_rfl) (by kernel_rfl) (fun _ _ _ h => h) (Or.inl ⟨by rfl, ?ht_5⟩) HS ?_); (case ht_5 => (intro wt hS; exact exec_load_part 31 _ rfl (gw + 1) 0 (by rfl) _ Y _ _ 5 hS.2 Try.underlying31 rfl (by kernel_rfl) (by rw [HYO.out.size]; omega) Y (extract_all HYO.out.size))); (try simp only [Act.put, List.getElem_toArray, List.getElem_cons_zero, List.getElem_cons_succ, List.setIfInBounds_toArray, List.set_cons_zero, List.set_cons_succ])
      obtain ⟨ip, zp, ip1, ip2, ip3, ip4, ip5⟩ := info_ord1
      refine wpAnyH_ready (rs := [2, 6]) (by kernel_rfl) (by decide) ?_
      refine AllReadyH.cons rfl (fun K' hK => ?_) (AllReadyH.cons rfl (fun K' hK => ?_) AllReadyH.nil)
      · rw [if_pos (by rfl)]
        refine op_slice1 22 31 _ rfl X 5 rfl HXO.out.size ip zp Try.underlying22 ip1 ip2 ip3 ip5 (by omega) (by omega) (hK.out _ _ ⟨heap_up HS.1, heap_up HS.2⟩ (fun HS => ?_))
        clear hK K'
        (try simp only [Act.put, List.getElem_toArray, List.getElem_cons_zero, List.getElem_cons_succ, List.setIfInBounds_toArray, List.set_cons_zero, List.set_cons_succ])
        obtain ⟨gX, hgX⟩ : ∃ g, g = wc.heap.size := ⟨_, rfl⟩
        have HX := Lib.hid (show (wc.alloc (Obj.cells X 31)).heap[gX]? = some (.cells X 31 (0, 0)) from by rw [hgX]; exact heap_alloc_new _ _)
        have HGX := Lib.hid (show gw + 1 < gX from by omega)
        rw [← hgX]
        have HT := Lib.hid (HT.out.below (below_new wc (Obj.cells X 31)))
        have hwcs : gw + 2 ≤ (wc.alloc (Obj.cells X 31)).heap.size := by simp; omega
        clear hgX
        obtain ⟨wc, hwd⟩ : ∃ wd, wd = wc.alloc (Obj.cells X 31) := ⟨_, rfl⟩
        rw [← hwd] at HX HT hwcs HS ⊢
        clear hwd
        refine wpAnyH_ready (rs := [3, 6]) (by kernel_rfl) (by decide) ?_
        refine AllReadyH.cons rfl (fun K' hK => ?_) (AllReadyH.cons rfl (fun K' hK => ?_) AllReadyH.nil)
        · rw [if_pos (by rfl)]
          refine op_append_row1_at _ _ rfl Try.underlying22 info_ord1 (by omega) HXO.out.size HXO.out.all w.heap.size _ i _ rfl HT.out.a gX rfl HX.out (by omega) HT.out.be.size (fun vX wc ho hg hat => ?_)
          refine hK.out _ _ ⟨(hg.block gw (by omega) (fun e => by have := HNA.out.1 gw e.symm; omega)).trans HS.1, (hg.block (gw + 1) (by omega) (fun e => by have := HNA.out.1 _ e.symm; omega)).trans HS.2⟩ (fun HS => ?_)
          clear hK K'
          (try simp only [Act.put, List.getElem_toArray, List.getElem_cons_zero, List.getElem_cons_succ, List.setIfInBounds_toArray, List.set_cons_zero, List.set_cons_succ])
          have HT := Lib.hid (HT.out.one (show World.ownsRow _ _ _ _ _ _ (flat (fun i => oB (L i)) i ++ (oB (L i)).toList) from by rw [← HXY.out.1]; exact ho) hg hat)
          have hwcs : gw + 2 ≤ wc.heap.size := by have := hg.size; omega
          clear ho hg hat
          (refine wpAnyH_ready (rs := [6]) (by kernel_rfl) (by decide) ?_); (refine AllReadyH.cons rfl (fun K' hK => ?_) AllReadyH.nil); (rw [if_pos (by rfl)])
          refine op_slice1 22 31 _ rfl Y 5 rfl HYO.out.size ip zp Try.underlying22 ip1 ip2 ip3 ip5 (by omega) (by omega) (hK.out _ _ ⟨heap_up HS.1, heap_up HS.2⟩ (fun HS => ?_))
          clear hK K'
          (try simp only [Act.put, List.getElem_toArray, List.getElem_cons_zero, List.getElem_cons_succ, List.setIfInBounds_toArray, List.set_cons_zero, List.set_cons_succ])
          obtain ⟨gY, hgY⟩ : ∃ g, g = wc.heap.size := ⟨_, rfl⟩
          have HY := Lib.hid (show (wc.alloc (Obj.cells Y 31)).heap[gY]? = some (.cells Y 31 (0, 0)) from by rw [hgY]; exact heap_alloc_new _ _)
          have HGY := Lib.hid (show gw + 1 < gY from by omega)
          rw [← hgY]
          have HT := Lib.hid (HT.out.below (below_new wc (Obj.cells Y 31)))
          have hwcs : gw + 2 ≤ (wc.alloc (Obj.cells Y 31)).heap.size := by simp; omega
          clear hgY
          obtain ⟨wc, hwd⟩ : ∃ wd, wd = wc.alloc (Obj.cells Y 31) := ⟨_, rfl⟩
          rw [← hwd] at HY HT hwcs HS ⊢
          clear hwd
          (refine wpAnyH_ready (rs := [7]) (by kernel_rfl) (by decide) ?_); (refine AllReadyH.cons rfl (fun K' hK => ?_) AllReadyH.nil); (rw [if_pos (by rfl)])
          refine op_append_row1_at _ _ rfl Try.underlying22 info_ord1 (by omega) HYO.out.size HYO.out.all w.heap.size _ i _ rfl HT.out.b gY rfl HY.out (by omega) HT.out.be.size (fun vY wc ho hg hat => ?_)
          refine hK.out _ _ ⟨(hg.block gw (by omega) (fun e => by have := HNA.out.2 gw e.symm; omega)).trans HS.1, (hg.block (gw + 1) (by omega) (fun e => by have := HNA.out.2 _ e.symm; omega)).trans HS.2⟩ (fun HS => ?_)
          clear hK K'
          (try simp only [Act.put, List.getElem_toArray, List.getElem_cons_zero, List.getElem_cons_succ, List.setIfInBounds_toArray, List.set_cons_zero, List.set_cons_succ])
          have HT := Lib.hid (Two.swap (HT.out.swap.one (show World.ownsRow _ _ _ _ _ _ (flat (fun i => oS (L i)) i ++ (oS (L i)).toList) from by rw [← HXY.out.2]; exact ho) hg hat))
          have hwcs : gw + 2 ≤ wc.heap.size := by have := hg.size; omega
          clear ho hg hat
          (refine wpAnyH_take (i := 8) (v := ?_) rfl (by kernel_rfl) (by kernel_rfl) (by kernel_rfl) (fun _ _ _ h => h) (Or.inl ⟨by rfl, ?ht_8⟩) HS ?_); (case ht_8 => (intro wt hS; go_simp; try with_reducible rfl)); (try simp only [Act.put, List.getElem_toArray, List.getElem_cons_zero, List.getElem_cons_succ, List.setIfInBounds_toArray, List.set_cons_zero, List.set_cons_succ]); (refine wpAnyH_take (i := 9) (v := ?_) rfl (by kernel_rfl) (by kernel_rfl) (by kernel_rfl) (fun _ _ _ h => h) (Or.inl ⟨by rfl, ?ht_9⟩) HS ?_); (case ht_9 => (intro wt hS; go_simp; try with_reducible rfl)); (try simp only [Act.put, List.getElem_toArray, List.getElem_cons_zero, List.getElem_cons_succ, List.setIfInBounds_toArray, List.set_cons_zero, List.set_cons_succ])
          refine wpAnyH_done (by kernel_rfl) ?_ _
          (try go_simp)
          go_wp2
          go_roundg (n - (i + 1))
          case measure => omega
          case rel => exact ⟨i + 1, by omega, rfl, by go_num, HT.out, HPN.out⟩
        · rw [if_pos (by rfl)]
          refine op_slice1 22 31 _ rfl Y 5 rfl HYO.out.size ip zp Try.underlying22 ip1 ip2 ip3 ip5 (by omega) (by omega) (hK.out _ _ ⟨heap_up HS.1, heap_up HS.2⟩ (fun HS => ?_))
          clear hK K'
          (try simp only [Act.put, List.getElem_toArray, List.getElem_cons_zero, List.getElem_cons_succ, List.setIfInBounds_toArray, List.set_cons_zero, List.set_cons_succ])
          obtain ⟨gY, hgY⟩ : ∃ g, g = wc.heap.size := ⟨_, rfl⟩
          have HY := Lib.hid (show (wc.alloc (Obj.cells Y 31)).heap[gY]? = some (.cells Y 31 (0, 0)) from by rw [hgY]; exact heap_alloc_new _ _)
          have HGY := Lib.hid (show gw + 1 < gY from by omega)
          rw [← hgY]
          have HT := Lib.hid (HT.out.below (below_new wc (Obj.cells Y 31)))
          have hwcs : gw + 2 ≤ (wc.alloc (Obj.cells Y 31)).heap.size := by simp; omega
          have HX := Lib.hid (heap_up (o := Obj.cells Y 31) HX.out)
          clear hgY
          obtain ⟨wc, hwd⟩ : ∃ wd, wd = wc.alloc (Obj.cells Y 31) := ⟨_, rfl⟩
          rw [← hwd] at HY HT hwcs HS ⊢
          rw [← hwd] at HX
          clear hwd
          (refine wpAnyH_ready (rs := [3]) (by kernel_rfl) (by decide) ?_); (refine AllReadyH.cons rfl (fun K' hK => ?_) AllReadyH.nil); (rw [if_pos (by rfl)])
          refine op_append_row1_at _ _ rfl Try.underlying22 info_ord1 (by omega) HXO.out.size HXO.out.all w.heap.size _ i _ rfl HT.out.a gX rfl HX.out (by omega) HT.out.be.size (fun vX wc ho hg hat => ?_)
          refine hK.out _ _ ⟨(hg.block gw (by omega) (fun e => by have := HNA.out.1 gw e.symm; omega)).trans HS.1, (hg.block (gw + 1) (by omega) (fun e => by have := HNA.out.1 _ e.symm; omega)).trans HS.2⟩ (fun HS => ?_)
          clear hK K'
          (try simp only [Act.put, List.getElem_toArray, List.getElem_cons_zero, List.getElem_cons_succ, List.setIfInBounds_toArray, List.set_cons_zero, List.set_cons_succ])
          have HY := Lib.hid ((hg.block gY (Array.getElem?_eq_some_iff.1 HY.out).1 (fun e => by have := HNA.out.1 _ e.symm; have := HGY.out; omega)).trans HY.out)
          have HT := Lib.hid (HT.out.one (show World.ownsRow _ _ _ _ _ _ (flat (fun i => oB (L i)) i ++ (oB (L i)).toList) from by rw [← HXY.out.1]; exact ho) hg hat)
          have hwcs : gw + 2 ≤ wc.heap.size := by have := hg.size; omega
          clear ho hg hat
          (refine wpAnyH_ready (rs := [7]) (by kernel_rfl) (by decide) ?_); (refine AllReadyH.cons rfl (fun K' hK => ?_) AllReadyH.nil); (rw [if_pos (by rfl)])
          refine op_append_row1_at _ _ rfl Try.underlying22 info_ord1 (by omega) HYO.out.size HYO.out.all w.heap.size _ i _ rfl HT.out.b gY rfl HY.out (by omega) HT.out.be.size (fun vY wc ho hg hat => ?_)
          refine hK.out _ _ ⟨(hg.block gw (by omega) (fun e => by have := HNA.out.2 gw e.symm; omega)).trans HS.1, (hg.block (gw + 1) (by omega) (fun e => by have := HNA.out.2 _ e.symm; omega)).trans HS.2⟩ (fun HS => ?_)
          clear hK K'
          (try simp only [Act.put, List.getElem_toArray, List.getElem_cons_zero, List.getElem_cons_succ, List.setIfInBounds_toArray, List.set_cons_zero, List.set_cons_succ])
          have HT := Lib.hid (Two.swap (HT.out.swap.one (show World.ownsRow _ _ _ _ _ _ (flat (fun i => oS (L i)) i ++ (oS (L i)).toList) from by rw [← HXY.out.2]; exact ho) hg hat))
          have hwcs : gw + 2 ≤ wc.heap.size := by have := hg.size; omega
          clear ho hg hat
          (refine wpAnyH_take (i := 8) (v := ?_) rfl (by kernel_rfl) (by kernel_rfl) (by kernel_rfl) (fun _ _ _ h => h) (Or.inl ⟨by rfl, ?ht_8⟩) HS ?_); (case ht_8 => (intro wt hS; go_simp; try with_reducible rfl)); (try simp only [Act.put, List.getElem_toArray, List.getElem_cons_zero, List.getElem_cons_succ, List.setIfInBounds_toArray, List.set_cons_zero, List.set_cons_succ]); (refine wpAnyH_take (i := 9) (v := ?_) rfl (by kernel_rfl) (by kernel_rfl) (by kernel_rfl) (fun _ _ _ h => h) (Or.inl ⟨by rfl, ?ht_9⟩) HS ?_); (case ht_9 => (intro wt hS; go_simp; try with_reducible rfl)); (try simp only [Act.put, List.getElem_toArray, List.getElem_cons_zero, List.getElem_cons_succ, List.setIfInBounds_toArray, List.set_cons_zero, List.set_cons_succ])
          refine wpAnyH_done (by kernel_rfl) ?_ _
          (try go_simp)
          go_wp2
          go_roundg (n - (i + 1))
          case measure => omega
          case rel => exact ⟨i + 1, by omega, rfl, by go_num, HT.out, HPN.out⟩
      · rw [if_pos (by rfl)]
        refine op_slice1 22 31 _ rfl Y 5 rfl HYO.out.size ip zp Try.underlying22 ip1 ip2 ip3 ip5 (by omega) (by omega) (hK.out _ _ ⟨heap_up HS.1, heap_up HS.2⟩ (fun HS => ?_))
        clear hK K'
        (try simp only [Act.put, List.getElem_toArray, List.getElem_cons_zero, List.getElem_cons_succ, List.setIfInBounds_toArray, List.set_cons_zero, List.set_cons_succ])
        obtain ⟨gY, hgY⟩ : ∃ g, g = wc.heap.size := ⟨_, rfl⟩
        have HY := Lib.hid (show (wc.alloc (Obj.cells Y 31)).heap[gY]? = some (.cells Y 31 (0, 0)) from by rw [hgY]; exact heap_alloc_new _ _)
        have HGY := Lib.hid (show gw + 1 < gY from by omega)
        rw [← hgY]
        have HT := Lib.hid (HT.out.below (below_new wc (Obj.cells Y 31)))
        have hwcs : gw + 2 ≤ (wc.alloc (Obj.cells Y 31)).heap.size := by simp; omega
        clear hgY
        obtain ⟨wc, hwd⟩ : ∃ wd, wd = wc.alloc (Obj.cells Y 31) := ⟨_, rfl⟩
        rw [← hwd] at HY HT hwcs HS ⊢
        clear hwd
        (refine wpAnyH_ready (rs := [2]) (by kernel_rfl) (by decide) ?_); (refine AllReadyH.cons rfl (fun K' hK => ?_) AllReadyH.nil); (rw [if_pos (by rfl)])
        refine op_slice1 22 31 _ rfl X 5 rfl HXO.out.size ip zp Try.underlying22 ip1 ip2 ip3 ip5 (by omega) (by omega) (hK.out _ _ ⟨heap_up HS.1, heap_up HS.2⟩ (fun HS => ?_))
        clear hK K'
        (try simp only [Act.put, List.getElem_toArray, List.getElem_cons_zero, List.getElem_cons_succ, List.setIfInBounds_toArray, List.set_cons_zero, List.set_cons_succ])
        obtain ⟨gX, hgX⟩ : ∃ g, g = wc.heap.size := ⟨_, rfl⟩
        have HX := Lib.hid (show (wc.alloc (Obj.cells X 31)).heap[gX]? = some (.cells X 31 (0, 0)) from by rw [hgX]; exact heap_alloc_new _ _)
        have HGX := Lib.hid (show gw + 1 < gX from by omega)
        rw [← hgX]
        have HT := Lib.hid (HT.out.below (below_new wc (Obj.cells X 31)))
        have hwcs : gw + 2 ≤ (wc.alloc (Obj.cells X 31)).heap.size := by simp; omega
        have HY := Lib.hid (heap_up (o := Obj.cells X 31) HY.out)
        clear hgX
        obtain ⟨wc, hwd⟩ : ∃ wd, wd = wc.alloc (Obj.cells X 31) := ⟨_, rfl⟩
        rw [← hwd] at HX HT hwcs HS ⊢
        rw [← hwd] at HY
        clear hwd
        (refine wpAnyH_ready (rs := [3]) (by kernel_rfl) (by decide) ?_); (refine AllReadyH.cons rfl (fun K' hK => ?_) AllReadyH.nil); (rw [if_pos (by rfl)])
        refine op_append_row1_at _ _ rfl Try.underlying22 info_ord1 (by omega) HXO.out.size HXO.out.all w.heap.size _ i _ rfl HT.out.a gX rfl HX.out (by omega) HT.out.be.size (fun vX wc ho hg hat => ?_)
        refine hK.out _ _ ⟨(hg.block gw (by omega) (fun e => by have := HNA.out.1 gw e.symm; omega)).trans HS.1, (hg.block (gw + 1) (by omega) (fun e => by have := HNA.out.1 _ e.symm; omega)).trans HS.2⟩ (fun HS => ?_)
        clear hK K'
        (try simp only [Act.put, List.getElem_toArray, List.getElem_cons_zero, List.getElem_cons_succ, List.setIfInBounds_toArray, List.set_cons_zero, List.set_cons_succ])
        have HY := Lib.hid ((hg.block gY (Array.getElem?_eq_some_iff.1 HY.out).1 (fun e => by have := HNA.out.1 _ e.symm; have := HGY.out; omega)).trans HY.out)
        have HT := Lib.hid (HT.out.one (show World.ownsRow _ _ _ _ _ _ (flat (fun i => oB (L i)) i ++ (oB (L i)).toList) from by rw [← HXY.out.1]; exact ho) hg hat)
        have hwcs : gw + 2 ≤ wc.heap.size := by have := hg.size; omega
        clear ho hg hat
        (refine wpAnyH_ready (rs := [7]) (by kernel_rfl) (by decide) ?_); (refine AllReadyH.cons rfl (fun K' hK => ?_) AllReadyH.nil); (rw [if_pos (by rfl)])
        refine op_append_row1_at _ _ rfl Try.underlying22 info_ord1 (by omega) HYO.out.size HYO.out.all w.heap.size _ i _ rfl HT.out.b gY rfl HY.out (by omega) HT.out.be.size (fun vY wc ho hg hat => ?_)
        refine hK.out _ _ ⟨(hg.block gw (by omega) (fun e => by have := HNA.out.2 gw e.symm; omega)).trans HS.1, (hg.block (gw + 1) (by omega) (fun e => by have := HNA.out.2 _ e.symm; omega)).trans HS.2⟩ (fun HS => ?_)
        clear hK K'
        (try simp only [Act.put, List.getElem_toArray, List.getElem_cons_zero, List.getElem_cons_succ, List.setIfInBounds_toArray, List.set_cons_zero, List.set_cons_succ])
        have HT := Lib.hid (Two.swap (HT.out.swap.one (show World.ownsRow _ _ _ _ _ _ (flat (fun i => oS (L i)) i ++ (oS (L i)).toList) from by rw [← HXY.out.2]; exact ho) hg hat))
        have hwcs : gw + 2 ≤ wc.heap.size := by have := hg.size; omega
        clear ho hg hat
        (refine wpAnyH_take (i := 8) (v := ?_) rfl (by kernel_rfl) (by kernel_rfl) (by kernel_rfl) (fun _ _ _ h => h) (Or.inl ⟨by rfl, ?ht_8⟩) HS ?_); (case ht_8 => (intro wt hS; go_simp; try with_reducible rfl)); (try simp only [Act.put, List.getElem_toArray, List.getElem_cons_zero, List.getElem_cons_succ, List.setIfInBounds_toArray, List.set_cons_zero, List.set_cons_succ]); (refine wpAnyH_take (i := 9) (v := ?_) rfl (by kernel_rfl) (by kernel_rfl) (by kernel_rfl) (fun _ _ _ h => h) (Or.inl ⟨by rfl, ?ht_9⟩) HS ?_); (case ht_9 => (intro wt hS; go_simp; try with_reducible rfl)); (try simp only [Act.put, List.getElem_toArray, List.getElem_cons_zero, List.getElem_cons_succ, List.setIfInBounds_toArray, List.set_cons_zero, List.set_cons_succ])
        refine wpAnyH_done (by kernel_rfl) ?_ _
        (try go_simp)
        go_wp2
        go_roundg (n - (i + 1))
        case measure => omega
        case rel => exact ⟨i + 1, by omega, rfl, by go_num, HT.out, HPN.out⟩
    · obtain rfl : i = n := by omega
      obtain ⟨L1, hL1⟩ : ∃ L1 : Nat → Array Value, L1 = fun j => if j < i then L j else k8a := ⟨_, rfl⟩
      have hO1 : ∀ j, IsOrd (L1 j) := fun j => by
        rw [hL1]; simp only; split
        · exact HL.out j
        · exact k8_ord 0
      have hP1 : ∀ j, 1 ≤ N (L1 j) 3 ∧ N (L1 j) 3 ≤ 1000 := fun j => by
        rw [hL1]; simp only; split
        · exact HP.out j (by assumption)
        · exact ⟨by decide, by decide⟩
      have eA : flat (fun j => oB (L j)) i = flat (fun j => oB (L1 j)) i := flat_congr i (fun j hj => by simp only [hL1, if_pos hj])
      have eB : flat (fun j => oS (L j)) i = flat (fun j => oS (L1 j)) i := flat_congr i (fun j hj => by simp only [hL1, if_pos hj])
      have hoa := HT.out.a
      have hob := HT.out.b
      rw [eA] at hoa
      rw [eB] at hob
      obtain ⟨aa, ca, rfl, hRa, _, _, hza⟩ := own_rows (c := 5) (fun j => (oB_ord (hO1 j)).size) hoa
      obtain ⟨ab, cb, rfl, hRb, _, _, hzb⟩ := own_rows (c := 5) (fun j => (oS_ord (hO1 j) (hP1 j)).size) hob
      have cA := clear_any true Q aa i ca (fun j => oB (L1 j)) wr HQ.out (fun j => oB_ord (hO1 j)) (rowsC_of_T hRa) hza
      have CB := Lib.hid (fun w1 (hb : Below wr.heap.size wr w1) => clear_any false Q ab i cb (fun j => oS (L1 j)) w1 HQ.out (fun j => oS_ord (hO1 j) (hP1 j)) ((rowsC_of_T hRb).kept hb) hzb)
      have HE := Lib.hid (turn_E (Q := Q) (n := i) hO1 (fun j _ => hP1 j))
      have HO1 := Lib.hid hO1
      have HP1 := Lib.hid hP1
      have HBE := Lib.hid HT.out.be
      clear hL1 hO1 hP1 eA eB hoa hob hRa hRb HT HP HL hza hzb
      go_wp2_with (go_at_call 8; refine stop_at ?_)
      refine ⟨?_⟩
      refine cA.mono ?_
      rintro e w1 ⟨ho1, hb1⟩
      have cB := CB.out w1 hb1
      have HB1 := Lib.hid hb1
      clear cA CB hb1
      rcases ho1 with ⟨h0, rfl⟩ | ⟨h0, d, fv, hp, hs, rfl, ho⟩
      · have HH := Lib.hid (show clE false Q (fun j => oS (L1 j)) i = clE true Q (fun j => oB (L1 j)) i from HE.out.symm)
        generalize hEt : clE true Q (fun j => oB (L1 j)) i = E at *
        clear hEt
        go_wp2_with (go_at_call 8; refine stop_at ?_)
        refine ⟨?_⟩
        refine cB.mono ?_
        rintro e w2 ⟨⟨h0', rfl⟩ | ⟨h0', _⟩, hb2⟩
        · rw [HH.out]
          have HB2 := Lib.hid hb2
          clear hb2 cB h0'
          go_wp2
          refine wp_loop_rounds 1 ?_
          rw [rounds_succ]
          go_wp2_with ((go_at_call 7; (with_reducible refine (known08 _).mono ?_); rintro e w9 ⟨rfl, hb9⟩))
          go_ret
          exact ⟨rfl, below_then (below_then (below_then HBE.out HB1.out) HB2.out) hb9⟩
        · rw [HH.out] at h0'
          exact absurd h0' h0
      · have HPS := Lib.hid (And.intro hp hs)
        obtain ⟨m, hm⟩ : ∃ m, m = nf Q (vS (fun j => oB (L1 j)) d) i := ⟨_, rfl⟩
        obtain ⟨pv, hpv⟩ : ∃ pv, pv = prc (fun j => oB (L1 j)) d m := ⟨_, rfl⟩
        rw [← hm] at ho ⊢
        rw [← hpv]
        have HM := Lib.hid hm
        have HPV := Lib.hid hpv
        have HO := Lib.hid ho
        have hE0 : clE false Q (fun j => oS (L1 j)) i = 0 := HE.out.symm.trans h0
        have HFW := Lib.hid (auc_of h0 hp hs)
        clear hp hs hm hpv ho h0
        go_wp2_with (go_at_call 8; refine stop_at ?_)
        refine ⟨?_⟩
        refine cB.mono ?_
        rintro e w2 ⟨⟨h0', _⟩ | ⟨_, d', gv', hp', hs', rfl, ho'⟩, hb2⟩
        · exact absurd hE0 h0'
        obtain ⟨e1, e2, e3⟩ := turn_same (Q := Q) (n := i) HO1.out HPS.out.1 HPS.out.2 hp' hs'
        rw [← e1, ← HM.out] at ho' ⊢
        rw [← e1, ← HM.out, ← HPV.out] at e3
        obtain ⟨qv, hqv⟩ : ∃ qv, qv = prc (fun j => oS (L1 j)) d' m := ⟨_, rfl⟩
        rw [← hqv] at e3 ⊢
        have HB2 := Lib.hid hb2
        have ho1' := own_below hb2 HO.out
        obtain ⟨fa, fc, rfl, hF, _⟩ := own_rows (c := 3) (fun k => fill_size _ _ _ k) ho1'
        obtain ⟨ga, gc, rfl, hG, _⟩ := own_rows (c := 3) (fun k => fill_size _ _ _ k) ho'
        have hmi : m ≤ i := by rw [HM.out]; exact nf_le i
        have HRF := Lib.hid (rowsC_of_T hF)
        have HRG := Lib.hid (show RowsC w2 3 ga m (fillA Q (fun j => oB (L1 j)) d) from (rowsC_of_T hG).congr (fun k hk => (e2 k (by omega)).symm))
        have HFB := Lib.hid (show ∀ k, k < m → (0 ≤ N (oB (L1 (d k))) 0 ∧ N (oB (L1 (d k))) 0 ≤ 18446744073709551615) ∧ (0 ≤ N (oB (L1 (d k))) 1 ∧ N (oB (L1 (d k))) 1 ≤ 4294967295) ∧ F64 (gv Q (vS (fun j => oB (L1 j)) d) k) from fun k hk => by
          obtain ⟨t, hA⟩ := HFW.out
          have hO := oB_ord (HO1.out (d k))
          refine ⟨hO.n.2, hO.a.2, ?_⟩
          have h1 := gv_bd (Q := Q) (v := vS (fun j => oB (L1 j)) d) (by have := hA.q1; omega) hA.v0 (show k < i by omega)
          have h2 := (hA.bd (hA.dl k (show k < i by omega))).2.2
          have h3 : vS (fun j => oB (L1 j)) d k = N (oB (L1 (d k))) 4 := rfl
          have h2' : N (oB (L1 (d k))) 4 ≤ 1000000 := h2
          unfold F64; omega)
        have HPB := Lib.hid (show 0 < m → 1 ≤ pv ∧ pv ≤ 1000 from fun h => by
          have e : pv = N (L1 (d (m - 1))) 3 := by rw [HPV.out]; unfold prc; rw [if_neg (by omega)]; exact oB_N _ (by omega)
          rw [e]; exact HP1.out _)
        clear cB hp' hs' ho' ho1' hF hG hb2 e1 e2 HPS HFW HO hE0 hqv
        by_cases hm0 : m = 0
        · subst hm0
          clear HPB e3 HRF HRG HFB
          go_wp2
          refine wp_loop_rounds 1 ?_
          rw [rounds_succ]
          go_wp2_with ((go_at_call 7; (with_reducible refine (known08 _).mono ?_); rintro e w9 ⟨rfl, hb9⟩))
          go_ret
          exact ⟨rfl, below_then (below_then (below_then HBE.out HB1.out) HB2.out) hb9⟩
        · have hmp : 0 < m := by omega
          have hmpi : (0 : Int) < (m : Int) := by omega
          have hpb := HPB.out hmp
          have hq := e3 hmp
          have hwq : IntKind.i64.wrap (1001 - qv) = pv := by rw [IntKind.wrap_i64]; omega
          clear e3 HPB hq
          go_wp2
          go_loopg [92] m (fun gh vk wx => ∃ k : Nat, k ≤ m ∧ gh = m - k ∧ vk = .int .i64 k ∧ Below w2.heap.size w2 wx)
          case atStart => exact ⟨0, by omega, by omega, rfl, Below.refl _ _⟩
          case round =>
            obtain ⟨k, hk, rfl, rfl, hb⟩ := hrel
            by_cases hlt : k < m
            · have hlti : (k : Int) < (m : Int) := by omega
              obtain ⟨fb1, fb2, fb3⟩ := HFB.out k hlt
              obtain ⟨g1, o1, A1, t1, f1, rfl, hg1, hs1, hx1⟩ := (HRF.out.kept hb) k hlt
              obtain ⟨g2, o2, A2, t2, f2, rfl, hg2, hs2, hx2⟩ := (HRG.out.kept hb) k hlt
              have hneq := neq_fill _ _ _ fb1 fb2 fb3
              have hx1' : A1.extract (o1 + k * 3) (o1 + k * 3 + 3) = fA (N (oB (L1 (d k))) 0) (N (oB (L1 (d k))) 1) (gv Q (vS (fun j => oB (L1 j)) d) k) := hx1
              have hx2' : A2.extract (o2 + k * 3) (o2 + k * 3 + 3) = fA (N (oB (L1 (d k))) 0) (N (oB (L1 (d k))) 1) (gv Q (vS (fun j => oB (L1 j)) d) k) := hx2
              have HBX := Lib.hid hb
              clear hx1 hx2 hb fb1 fb2 fb3
              generalize fA (N (oB (L1 (d k))) 0) (N (oB (L1 (d k))) 1) (gv Q (vS (fun j => oB (L1 j)) d) k) = FV at *
              have HX1 := Lib.hid hx1'
              have HX2 := Lib.hid hx2'
              clear hx1' hx2'
              go_wp2
              refine wp_region_below (by kernel_rfl) (by kernel_rfl) ?_
              repeat (first | ((with_reducible apply q_skip); (case hw => rfl); (try simp only [Act.put, List.setIfInBounds_toArray, List.set_cons_zero, List.set_cons_succ])) | ((with_reducible refine at_qload 36 ?_); refine q_load_fr (by rfl) 36 _ rfl (g1) (o1 + k * 3) rfl _ (A1) _ _ 3 (hg1) Try.underlying36 rfl (by kernel_rfl) (hs1) (FV) (HX1.out) ?_; try simp only [Act.put, List.setIfInBounds_toArray, List.set_cons_zero, List.set_cons_succ]) | ((with_reducible refine at_qload 36 ?_); refine q_load_fr (by rfl) 36 _ rfl (g2) (o2 + k * 3) rfl _ (A2) _ _ 3 (hg2) Try.underlying36 rfl (by kernel_rfl) (hs2) (FV) (HX2.out) ?_; try simp only [Act.put, List.setIfInBounds_toArray, List.set_cons_zero, List.set_cons_succ]) | ((with_reducible apply q_val); (case hw => rfl); (case hv => intro wq hbq; go_simp; try rfl); (try simp only [Act.put, List.setIfInBounds_toArray, List.set_cons_zero, List.set_cons_succ])))
              refine q_nil ?_
              intro w4 hb4
              have HB4 := Lib.hid (below_then HBX.out hb4)
              go_wp2
              go_roundg (m - (k + 1))
              case measure => omega
              case rel => exact ⟨k + 1, by omega, rfl, by go_num, HB4.out⟩
            · obtain rfl : k = m := by omega
              have HBX := Lib.hid hb
              clear hb
              go_wp2_with ((go_at_call 7; (with_reducible refine (known08 _).mono ?_); rintro e w9 ⟨rfl, hb9⟩))
              go_ret
              exact ⟨rfl, below_then (below_then (below_then (below_then HBE.out HB1.out) HB2.out) HBX.out) hb9⟩
end Go.Proofs.Ytoglcgijgckdaaa
