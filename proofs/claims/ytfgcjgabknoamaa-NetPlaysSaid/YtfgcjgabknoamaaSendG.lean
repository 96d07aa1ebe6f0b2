/- net's Send: the bytes that it keeps are new, and only its own blocks are written. Condition: the net is one, the bytes can be read. -/
import Derived.Test.YtfgcjgabknoamaaKg
namespace Go.Proofs.Ytfgcjgabknoamaa
set_option linter.unusedVariables false
set_option linter.unusedSimpArgs false
open Go.RowKit

set_option maxRecDepth 100000 in
set_option maxHeartbeats 40000000 in
theorem send_kg (g base k : Nat) (F T Ag : Nat → Int) (S : Nat → Value) (Ln : Nat → Nat) (X : Nat → Nat → Int) (f t : Int) (a : Option Addr) (n c : Nat) (Y : Nat → Int) (w : World) (hN : NetIs w g base k F T Ag S Ln X) (hY : Byt w a n Y) (hz : a = none → n = 0 ∧ c = 0) (hn : n ≤ 1048576) (hk : k < 2000) :
    Calls Try.prog 9 #[.pointer (some ⟨g, 0, none⟩), .agg (m3 f t (.slice a n c))] w fun e w' => (∃ s : Value, e = .returned (.int .i64 0) ∧ NetIs w' g base (k + 1) (fun i => if i = k then f else F i) (fun i => if i = k then t else T i) (fun i => if i = k then 0 else Ag i) (fun i => if i = k then s else S i) (fun i => if i = k then n else Ln i) (fun i => if i = k then Y else X i) ∧ Fr w.heap.size s) ∧ Below base w w' ∧ Kg g w w' := by
  obtain ⟨v, hg, hrow⟩ := hN.row
  obtain ⟨ra, rc, rfl, _⟩ := own_rows (c := 4) (fun i => rfl) hrow
  have HN := Lib.hid hN
  have CO := Lib.hid (fun wx (hx : Byt wx a n Y) => own_fr f t a n c Y wx hx (by omega) hz)
  have HMs := Lib.hid (show (m3 f t (.slice a n c)).size = 3 from rfl)
  have HME := Lib.hid (extract_all HMs.out)
  have hbg := hN.bg
  have hoq := hrow.alloc (Obj.cells (m3 f t (.slice a n c)) 24)
  have hgq := heap_up (o := Obj.cells (m3 f t (.slice a n c)) 24) hg
  have hMq := heap_alloc_new w (Obj.cells (m3 f t (.slice a n c)) 24)
  have hYq := hY.kept (below_new w (Obj.cells (m3 f t (.slice a n c)) 24))
  have hBq := below_new w (Obj.cells (m3 f t (.slice a n c)) 24)
  have hgw : g < w.heap.size := (Array.getElem?_eq_some_iff.1 hg).1
  have hHN := hN.by_
  clear hN
  have h2 : (m3 f t (.slice a n c))[2]? = some (.slice a n c) := rfl
  have cg := cellF hg
  have cg1 := cellF (heap_up (o := Obj.cells (m3 f t (.slice a n c)) 24) hg)
  generalize m3 f t (.slice a n c) = M at *
  go_enter Try.func9, Try.ntmps9
  go_wp2
  refine wp_region_any (by kernel_rfl) ?_
  change wpAny _ _ _ _ _ _ _ (World.drew _)
  obtain ⟨wq, hwq⟩ : ∃ wq, wq = (w.alloc (Obj.cells M 24)).drew := ⟨_, rfl⟩
  have hoq1 : wq.ownsRow base 60 4 (.slice ra k rc) k (flat (fun i => p4 (F i) (T i) (S i) (Ag i)) k) := by rw [hwq]; exact hoq.drew
  have hgq1 : wq.heap[g]? = some (.cells #[.slice ra k rc] 56 (0, 0)) := by rw [hwq]; exact hgq
  have hMq1 : wq.heap[w.heap.size]? = some (.cells M 24 (0, 0)) := by rw [hwq]; exact hMq
  have hYq1 : Byt wq a n Y := by rw [hwq]; exact hYq
  have hBq1 : Below w.heap.size w wq := by rw [hwq]; exact Below.drew hBq
  rw [← hwq]
  clear hoq hgq hMq hYq hBq hwq cg cg1
  have hoq := hoq1
  have hgq := hgq1
  have hMq := hMq1
  have hYq := hYq1
  have hBq := hBq1
  clear hoq1 hgq1 hMq1 hYq1 hBq1
  refine wpAny_take (i := 0) (v := ?_) rfl (by kernel_rfl) (by kernel_rfl) (by kernel_rfl) (fun _ _ _ h => h) (Or.inl ⟨by rfl, ?tk0⟩) ?_
  case tk0 => (intro wt; go_simp; try with_reducible rfl)
  (try simp only [Act.put, List.setIfInBounds_toArray, List.set_cons_zero, List.set_cons_succ])
  refine wpAny_take (i := 1) (v := ?_) rfl (by kernel_rfl) (by kernel_rfl) (by kernel_rfl) (fun _ _ _ h => h) (Or.inl ⟨by rfl, ?tk1⟩) ?_
  case tk1 => (intro wt; go_simp; try with_reducible rfl)
  (try simp only [Act.put, List.setIfInBounds_toArray, List.set_cons_zero, List.set_cons_succ])
  refine wpAny_take (i := 2) (v := ?_) rfl (by kernel_rfl) (by kernel_rfl) (by kernel_rfl) (fun _ _ _ h => h) (Or.inl ⟨by rfl, ?tk2⟩) ?_
  case tk2 => (intro wt; go_simp; try with_reducible rfl)
  (try simp only [Act.put, List.setIfInBounds_toArray, List.set_cons_zero, List.set_cons_succ])
  refine wpAny_take (i := 3) (v := ?_) rfl (by kernel_rfl) (by kernel_rfl) (by kernel_rfl) (fun _ _ _ h => h) (Or.inl ⟨by rfl, ?tk3⟩) ?_
  case tk3 => (intro wt; go_simp; try with_reducible rfl)
  (try simp only [Act.put, List.setIfInBounds_toArray, List.set_cons_zero, List.set_cons_succ])
  refine wpAny_ready (rs := [4, 5]) (by kernel_rfl) (by decide) ?_
  refine AllReady.cons rfl (fun K' hK => ?_) (AllReady.cons rfl (fun K' hK => ?_) AllReady.nil)
  · have cgA := cellF hgq
    go_simp
    refine hK _ _ ?_
    clear hK K' cgA
    refine wpAny_ready (rs := [5]) (by kernel_rfl) (by decide) ?_
    refine AllReady.cons rfl (fun K' hK => ?_) AllReady.nil
    rw [if_pos (by rfl)]
    refine op_load_all 24 _ rfl w.heap.size 0 rfl _ M _ _ 3 hMq Try.underlying24 rfl (by kernel_rfl) (by rw [HMs.out]; omega) M HME.out (hK _ _ ?_)
    clear hK K'
    (try simp only [Act.put, List.setIfInBounds_toArray, List.set_cons_zero, List.set_cons_succ])
    refine wpAny_ready (rs := [6]) (by kernel_rfl) (by decide) ?_
    refine AllReady.cons rfl (fun K' hK => ?_) AllReady.nil
    rw [if_pos (by rfl)]
    refine op_call 26 #[.agg M] (by go_simp) (fun v' w1 => ∃ v0 : Value, v' = .agg (m3 f t v0) ∧ BytT w1 v0 n Y ∧ Fr w.heap.size v0 ∧ Below wq.heap.size wq w1) ((CO.out wq hYq).mono (fun e w1 h => by obtain ⟨v0, h1, h2, hf, h3⟩ := h; exact ⟨_, h1, v0, rfl, h2, hf.mono hBq.size, h3⟩)) ?_
    rintro v' w1 ⟨v0, rfl, hv0, hf0, hb1⟩
    obtain ⟨sa, sc, rfl, _⟩ := id hv0
    refine hK _ _ ?_
    clear hK K'
    (try simp only [Act.put, List.setIfInBounds_toArray, List.set_cons_zero, List.set_cons_succ])
    have hgq1 := Ytfgcjgabknoamaa.kept hb1 hgq
    have hoq1 := own_below hb1 hoq
    have hBq1 := below_then hBq hb1
    clear hgq hMq hoq hYq hBq hb1
    have hgq := hgq1
    have hoq := hoq1
    have hBq := hBq1
    clear hgq1 hoq1 hBq1
    refine wpAny_take (i := 7) (v := .agg (p4 f t (.slice sa n sc) 0)) rfl (by kernel_rfl) (by kernel_rfl) (by kernel_rfl) (fun _ _ _ h => h) (Or.inl ⟨by rfl, fun wt => exec_build 60 _ rfl _ (by kernel_rfl)⟩) ?_
    (try simp only [Act.put, List.setIfInBounds_toArray, List.set_cons_zero, List.set_cons_succ])
    refine wpAny_ready (rs := [8]) (by kernel_rfl) (by decide) ?_
    refine AllReady.cons rfl (fun K' hK => ?_) AllReady.nil
    rw [if_pos (by rfl)]
    obtain ⟨ip, zp, ip1, ip2, ip3, ip4, ip5⟩ := info_put
    refine op_slice1 54 60 _ rfl (p4 f t (.slice sa n sc) 0) rfl rfl ip zp Try.underlying54 ip1 ip2 ip3 ip5 (hK _ _ ?_)
    clear hK K'
    (try simp only [Act.put, List.setIfInBounds_toArray, List.set_cons_zero, List.set_cons_succ])
    obtain ⟨gs, hgs0⟩ : ∃ gs, gs = w1.heap.size := ⟨_, rfl⟩
    rw [← hgs0]
    have hgs : (w1.alloc (Obj.cells (p4 f t (.slice sa n sc) 0) 60)).heap[gs]? = some (.cells (p4 f t (.slice sa n sc) 0) 60 (0, 0)) := by rw [hgs0]; exact heap_alloc_new _ _
    clear hgs0
    refine wpAny_ready (rs := [9]) (by kernel_rfl) (by decide) ?_
    refine AllReady.cons rfl (fun K' hK => ?_) AllReady.nil
    rw [if_pos (by rfl)]
    obtain ⟨ip, zp, ip1, ip2, ip3, ip4, ip5⟩ := info_put
    refine wp_append_own_at _ _ 54 rfl base 60 ip zp 4 ip.bytes Try.underlying54 ip1 ip2 ip3 rfl ip5 (by omega) (.slice ra k rc) k _ rfl (hoq.alloc (Obj.cells (p4 f t (.slice sa n sc) 0) 60)) ⟨gs, 0, none⟩ 1 1 (p4 f t (.slice sa n sc) 0).toList rfl rfl (fun j u hj => ?_) (fun u hu => ?_) (by unfold maxLen; omega) ?_ ?_ ?_
    · have h2 : (⟨gs, 0, none⟩ : Addr).add j = ⟨gs, j, none⟩ := by unfold Addr.add; split <;> simp_all
      rw [h2, cellF hgs]
      simpa using hj
    · have h1 := p4_all (f := f) (t := t) (ag := 0) (a := sa) (n := n) (c := sc)
      rw [Array.all_eq_true'] at h1
      exact h1 u (by simpa using hu)
    · have := Nat.mul_le_mul (show k + 1 ≤ 2001 by omega) ip4
      omega
    · have := hBq.size
      simp
      omega
    rintro v5 w5 ho5 hg5 hat5
    refine hK _ _ ?_
    clear hK K'
    (try simp only [Act.put, List.setIfInBounds_toArray, List.set_cons_zero, List.set_cons_succ])
    obtain ⟨ra5, rc5, rfl, _⟩ := own_rows (c := 4) (L := fun i => p4 (if i = k then f else F i) (if i = k then t else T i) (if i = k then .slice sa n sc else S i) (if i = k then 0 else Ag i)) (fun i => rfl) (by rw [flat_upd]; exact ho5)
    refine wpAny_take (i := 10) (v := ?_) rfl (by kernel_rfl) (by kernel_rfl) (by kernel_rfl) (fun _ _ _ h => h) (Or.inl ⟨by rfl, ?tka⟩) ?_
    case tka => (intro wt; go_simp; try with_reducible rfl)
    (try simp only [Act.put, List.setIfInBounds_toArray, List.set_cons_zero, List.set_cons_succ])
    refine wpAny_take (i := 11) (v := ?_) rfl (by kernel_rfl) (by kernel_rfl) (by kernel_rfl) (fun _ _ _ h => h) (Or.inl ⟨by rfl, ?tkb⟩) ?_
    case tkb => (intro wt; go_simp; try with_reducible rfl)
    (try simp only [Act.put, List.setIfInBounds_toArray, List.set_cons_zero, List.set_cons_succ])
    refine wpAny_ready (rs := [12]) (by kernel_rfl) (by decide) ?_
    refine AllReady.cons rfl (fun K' hK => ?_) AllReady.nil
    have hne5 : some g ≠ (Value.slice ra k rc).ownBlock := fun e => by
      obtain ⟨A9, fr9, h9⟩ := own_tag hoq g e.symm
      rw [hgq] at h9; injection h9 with h9; injection h9 with _ h9; exact absurd h9 (by decide)
    have hgq5 : w5.heap[g]? = some (.cells #[.slice ra k rc] 56 (0, 0)) := (hg5.block g (by have := (Array.getElem?_eq_some_iff.1 (heap_up (o := Obj.cells (p4 f t (.slice sa n sc) 0) 60) hgq)).1; exact this) hne5).trans (heap_up hgq)
    have c5 := cellF hgq5
    have f5 := (cells_of hgq5).2.1
    go_simp
    refine hK _ _ ?_
    clear hK K' c5 f5
    refine wpAny_done (by kernel_rfl) ?_ _
    go_wp2
    go_ret
    have hfin := net_grown HN.out hn hk hBq hoq hv0 hg5 ho5 hgq5
    exact ⟨⟨.slice sa n sc, rfl, hfin.1, hf0⟩, hfin.2.1, kg_send hg hBq hg5 hgq5 hat5⟩
  · rw [if_pos (by rfl)]
    refine op_load_all 24 _ rfl w.heap.size 0 rfl _ M _ _ 3 hMq Try.underlying24 rfl (by kernel_rfl) (by rw [HMs.out]; omega) M HME.out (hK _ _ ?_)
    clear hK K'
    (try simp only [Act.put, List.setIfInBounds_toArray, List.set_cons_zero, List.set_cons_succ])
    refine wpAny_ready (rs := [4, 6]) (by kernel_rfl) (by decide) ?_
    refine AllReady.cons rfl (fun K' hK => ?_) (AllReady.cons rfl (fun K' hK => ?_) AllReady.nil)
    · have cgA := cellF hgq
      go_simp
      refine hK _ _ ?_
      clear hK K' cgA
      refine wpAny_ready (rs := [6]) (by kernel_rfl) (by decide) ?_
      refine AllReady.cons rfl (fun K' hK => ?_) AllReady.nil
      rw [if_pos (by rfl)]
      refine op_call 26 #[.agg M] (by go_simp) (fun v' w1 => ∃ v0 : Value, v' = .agg (m3 f t v0) ∧ BytT w1 v0 n Y ∧ Fr w.heap.size v0 ∧ Below wq.heap.size wq w1) ((CO.out wq hYq).mono (fun e w1 h => by obtain ⟨v0, h1, h2, hf, h3⟩ := h; exact ⟨_, h1, v0, rfl, h2, hf.mono hBq.size, h3⟩)) ?_
      rintro v' w1 ⟨v0, rfl, hv0, hf0, hb1⟩
      obtain ⟨sa, sc, rfl, _⟩ := id hv0
      refine hK _ _ ?_
      clear hK K'
      (try simp only [Act.put, List.setIfInBounds_toArray, List.set_cons_zero, List.set_cons_succ])
      have hgq1 := Ytfgcjgabknoamaa.kept hb1 hgq
      have hoq1 := own_below hb1 hoq
      have hBq1 := below_then hBq hb1
      clear hgq hMq hoq hYq hBq hb1
      have hgq := hgq1
      have hoq := hoq1
      have hBq := hBq1
      clear hgq1 hoq1 hBq1
      refine wpAny_take (i := 7) (v := .agg (p4 f t (.slice sa n sc) 0)) rfl (by kernel_rfl) (by kernel_rfl) (by kernel_rfl) (fun _ _ _ h => h) (Or.inl ⟨by rfl, fun wt => exec_build 60 _ rfl _ (by kernel_rfl)⟩) ?_
      (try simp only [Act.put, List.setIfInBounds_toArray, List.set_cons_zero, List.set_cons_succ])
      refine wpAny_ready (rs := [8]) (by kernel_rfl) (by decide) ?_
      refine AllReady.cons rfl (fun K' hK => ?_) AllReady.nil
      rw [if_pos (by rfl)]
      obtain ⟨ip, zp, ip1, ip2, ip3, ip4, ip5⟩ := info_put
      refine op_slice1 54 60 _ rfl (p4 f t (.slice sa n sc) 0) rfl rfl ip zp Try.underlying54 ip1 ip2 ip3 ip5 (hK _ _ ?_)
      clear hK K'
      (try simp only [Act.put, List.setIfInBounds_toArray, List.set_cons_zero, List.set_cons_succ])
      obtain ⟨gs, hgs0⟩ : ∃ gs, gs = w1.heap.size := ⟨_, rfl⟩
      rw [← hgs0]
      have hgs : (w1.alloc (Obj.cells (p4 f t (.slice sa n sc) 0) 60)).heap[gs]? = some (.cells (p4 f t (.slice sa n sc) 0) 60 (0, 0)) := by rw [hgs0]; exact heap_alloc_new _ _
      clear hgs0
      refine wpAny_ready (rs := [9]) (by kernel_rfl) (by decide) ?_
      refine AllReady.cons rfl (fun K' hK => ?_) AllReady.nil
      rw [if_pos (by rfl)]
      obtain ⟨ip, zp, ip1, ip2, ip3, ip4, ip5⟩ := info_put
      refine wp_append_own_at _ _ 54 rfl base 60 ip zp 4 ip.bytes Try.underlying54 ip1 ip2 ip3 rfl ip5 (by omega) (.slice ra k rc) k _ rfl (hoq.alloc (Obj.cells (p4 f t (.slice sa n sc) 0) 60)) ⟨gs, 0, none⟩ 1 1 (p4 f t (.slice sa n sc) 0).toList rfl rfl (fun j u hj => ?_) (fun u hu => ?_) (by unfold maxLen; omega) ?_ ?_ ?_
      · have h2 : (⟨gs, 0, none⟩ : Addr).add j = ⟨gs, j, none⟩ := by unfold Addr.add; split <;> simp_all
        rw [h2, cellF hgs]
        simpa using hj
      · have h1 := p4_all (f := f) (t := t) (ag := 0) (a := sa) (n := n) (c := sc)
        rw [Array.all_eq_true'] at h1
        exact h1 u (by simpa using hu)
      · have := Nat.mul_le_mul (show k + 1 ≤ 2001 by omega) ip4
        omega
      · have := hBq.size
        simp
        omega
      rintro v5 w5 ho5 hg5 hat5
      refine hK _ _ ?_
      clear hK K'
      (try simp only [Act.put, List.setIfInBounds_toArray, List.set_cons_zero, List.set_cons_succ])
      obtain ⟨ra5, rc5, rfl, _⟩ := own_rows (c := 4) (L := fun i => p4 (if i = k then f else F i) (if i = k then t else T i) (if i = k then .slice sa n sc else S i) (if i = k then 0 else Ag i)) (fun i => rfl) (by rw [flat_upd]; exact ho5)
      refine wpAny_take (i := 10) (v := ?_) rfl (by kernel_rfl) (by kernel_rfl) (by kernel_rfl) (fun _ _ _ h => h) (Or.inl ⟨by rfl, ?tka⟩) ?_
      case tka => (intro wt; go_simp; try with_reducible rfl)
      (try simp only [Act.put, List.setIfInBounds_toArray, List.set_cons_zero, List.set_cons_succ])
      refine wpAny_take (i := 11) (v := ?_) rfl (by kernel_rfl) (by kernel_rfl) (by kernel_rfl) (fun _ _ _ h => h) (Or.inl ⟨by rfl, ?tkb⟩) ?_
      case tkb => (intro wt; go_simp; try with_reducible rfl)
      (try simp only [Act.put, List.setIfInBounds_toArray, List.set_cons_zero, List.set_cons_succ])
      refine wpAny_ready (rs := [12]) (by kernel_rfl) (by decide) ?_
      refine AllReady.cons rfl (fun K' hK => ?_) AllReady.nil
      have hne5 : some g ≠ (Value.slice ra k rc).ownBlock := fun e => by
        obtain ⟨A9, fr9, h9⟩ := own_tag hoq g e.symm
        rw [hgq] at h9; injection h9 with h9; injection h9 with _ h9; exact absurd h9 (by decide)
      have hgq5 : w5.heap[g]? = some (.cells #[.slice ra k rc] 56 (0, 0)) := (hg5.block g (by have := (Array.getElem?_eq_some_iff.1 (heap_up (o := Obj.cells (p4 f t (.slice sa n sc) 0) 60) hgq)).1; exact this) hne5).trans (heap_up hgq)
      have c5 := cellF hgq5
      have f5 := (cells_of hgq5).2.1
      go_simp
      refine hK _ _ ?_
      clear hK K' c5 f5
      refine wpAny_done (by kernel_rfl) ?_ _
      go_wp2
      go_ret
      have hfin := net_grown HN.out hn hk hBq hoq hv0 hg5 ho5 hgq5
      exact ⟨⟨.slice sa n sc, rfl, hfin.1, hf0⟩, hfin.2.1, kg_send hg hBq hg5 hgq5 hat5⟩
    · rw [if_pos (by rfl)]
      refine op_call 26 #[.agg M] (by go_simp) (fun v' w1 => ∃ v0 : Value, v' = .agg (m3 f t v0) ∧ BytT w1 v0 n Y ∧ Fr w.heap.size v0 ∧ Below wq.heap.size wq w1) ((CO.out wq hYq).mono (fun e w1 h => by obtain ⟨v0, h1, h2, hf, h3⟩ := h; exact ⟨_, h1, v0, rfl, h2, hf.mono hBq.size, h3⟩)) ?_
      rintro v' w1 ⟨v0, rfl, hv0, hf0, hb1⟩
      obtain ⟨sa, sc, rfl, _⟩ := id hv0
      refine hK _ _ ?_
      clear hK K'
      (try simp only [Act.put, List.setIfInBounds_toArray, List.set_cons_zero, List.set_cons_succ])
      have hgq1 := Ytfgcjgabknoamaa.kept hb1 hgq
      have hoq1 := own_below hb1 hoq
      have hBq1 := below_then hBq hb1
      clear hgq hMq hoq hYq hBq hb1
      have hgq := hgq1
      have hoq := hoq1
      have hBq := hBq1
      clear hgq1 hoq1 hBq1
      refine wpAny_take (i := 7) (v := .agg (p4 f t (.slice sa n sc) 0)) rfl (by kernel_rfl) (by kernel_rfl) (by kernel_rfl) (fun _ _ _ h => h) (Or.inl ⟨by rfl, fun wt => exec_build 60 _ rfl _ (by kernel_rfl)⟩) ?_
      (try simp only [Act.put, List.setIfInBounds_toArray, List.set_cons_zero, List.set_cons_succ])
      refine wpAny_ready (rs := [4, 8]) (by kernel_rfl) (by decide) ?_
      refine AllReady.cons rfl (fun K' hK => ?_) (AllReady.cons rfl (fun K' hK => ?_) AllReady.nil)
      · have cgA := cellF hgq
        go_simp
        refine hK _ _ ?_
        clear hK K' cgA
        refine wpAny_ready (rs := [8]) (by kernel_rfl) (by decide) ?_
        refine AllReady.cons rfl (fun K' hK => ?_) AllReady.nil
        rw [if_pos (by rfl)]
        obtain ⟨ip, zp, ip1, ip2, ip3, ip4, ip5⟩ := info_put
        refine op_slice1 54 60 _ rfl (p4 f t (.slice sa n sc) 0) rfl rfl ip zp Try.underlying54 ip1 ip2 ip3 ip5 (hK _ _ ?_)
        clear hK K'
        (try simp only [Act.put, List.setIfInBounds_toArray, List.set_cons_zero, List.set_cons_succ])
        obtain ⟨gs, hgs0⟩ : ∃ gs, gs = w1.heap.size := ⟨_, rfl⟩
        rw [← hgs0]
        have hgs : (w1.alloc (Obj.cells (p4 f t (.slice sa n sc) 0) 60)).heap[gs]? = some (.cells (p4 f t (.slice sa n sc) 0) 60 (0, 0)) := by rw [hgs0]; exact heap_alloc_new _ _
        clear hgs0
        refine wpAny_ready (rs := [9]) (by kernel_rfl) (by decide) ?_
        refine AllReady.cons rfl (fun K' hK => ?_) AllReady.nil
        rw [if_pos (by rfl)]
        obtain ⟨ip, zp, ip1, ip2, ip3, ip4, ip5⟩ := info_put
        refine wp_append_own_at _ _ 54 rfl base 60 ip zp 4 ip.bytes Try.underlying54 ip1 ip2 ip3 rfl ip5 (by omega) (.slice ra k rc) k _ rfl (hoq.alloc (Obj.cells (p4 f t (.slice sa n sc) 0) 60)) ⟨gs, 0, none⟩ 1 1 (p4 f t (.slice sa n sc) 0).toList rfl rfl (fun j u hj => ?_) (fun u hu => ?_) (by unfold maxLen; omega) ?_ ?_ ?_
        · have h2 : (⟨gs, 0, none⟩ : Addr).add j = ⟨gs, j, none⟩ := by unfold Addr.add; split <;> simp_all
          rw [h2, cellF hgs]
          simpa using hj
        · have h1 := p4_all (f := f) (t := t) (ag := 0) (a := sa) (n := n) (c := sc)
          rw [Array.all_eq_true'] at h1
          exact h1 u (by simpa using hu)
        · have := Nat.mul_le_mul (show k + 1 ≤ 2001 by omega) ip4
          omega
        · have := hBq.size
          simp
          omega
        rintro v5 w5 ho5 hg5 hat5
        refine hK _ _ ?_
        clear hK K'
        (try simp only [Act.put, List.setIfInBounds_toArray, List.set_cons_zero, List.set_cons_succ])
        obtain ⟨ra5, rc5, rfl, _⟩ := own_rows (c := 4) (L := fun i => p4 (if i = k then f else F i) (if i = k then t else T i) (if i = k then .slice sa n sc else S i) (if i = k then 0 else Ag i)) (fun i => rfl) (by rw [flat_upd]; exact ho5)
        refine wpAny_take (i := 10) (v := ?_) rfl (by kernel_rfl) (by kernel_rfl) (by kernel_rfl) (fun _ _ _ h => h) (Or.inl ⟨by rfl, ?tka⟩) ?_
        case tka => (intro wt; go_simp; try with_reducible rfl)
        (try simp only [Act.put, List.setIfInBounds_toArray, List.set_cons_zero, List.set_cons_succ])
        refine wpAny_take (i := 11) (v := ?_) rfl (by kernel_rfl) (by kernel_rfl) (by kernel_rfl) (fun _ _ _ h => h) (Or.inl ⟨by rfl, ?tkb⟩) ?_
        case tkb => (intro wt; go_simp; try with_reducible rfl)
        (try simp only [Act.put, List.setIfInBounds_toArray, List.set_cons_zero, List.set_cons_succ])
        refine wpAny_ready (rs := [12]) (by kernel_rfl) (by decide) ?_
        refine AllReady.cons rfl (fun K' hK => ?_) AllReady.nil
        have hne5 : some g ≠ (Value.slice ra k rc).ownBlock := fun e => by
          obtain ⟨A9, fr9, h9⟩ := own_tag hoq g e.symm
          rw [hgq] at h9; injection h9 with h9; injection h9 with _ h9; exact absurd h9 (by decide)
        have hgq5 : w5.heap[g]? = some (.cells #[.slice ra k rc] 56 (0, 0)) := (hg5.block g (by have := (Array.getElem?_eq_some_iff.1 (heap_up (o := Obj.cells (p4 f t (.slice sa n sc) 0) 60) hgq)).1; exact this) hne5).trans (heap_up hgq)
        have c5 := cellF hgq5
        have f5 := (cells_of hgq5).2.1
        go_simp
        refine hK _ _ ?_
        clear hK K' c5 f5
        refine wpAny_done (by kernel_rfl) ?_ _
        go_wp2
        go_ret
        have hfin := net_grown HN.out hn hk hBq hoq hv0 hg5 ho5 hgq5
        exact ⟨⟨.slice sa n sc, rfl, hfin.1, hf0⟩, hfin.2.1, kg_send hg hBq hg5 hgq5 hat5⟩
      · rw [if_pos (by rfl)]
        obtain ⟨ip, zp, ip1, ip2, ip3, ip4, ip5⟩ := info_put
        refine op_slice1 54 60 _ rfl (p4 f t (.slice sa n sc) 0) rfl rfl ip zp Try.underlying54 ip1 ip2 ip3 ip5 (hK _ _ ?_)
        clear hK K'
        (try simp only [Act.put, List.setIfInBounds_toArray, List.set_cons_zero, List.set_cons_succ])
        obtain ⟨gs, hgs0⟩ : ∃ gs, gs = w1.heap.size := ⟨_, rfl⟩
        rw [← hgs0]
        have hgs : (w1.alloc (Obj.cells (p4 f t (.slice sa n sc) 0) 60)).heap[gs]? = some (.cells (p4 f t (.slice sa n sc) 0) 60 (0, 0)) := by rw [hgs0]; exact heap_alloc_new _ _
        clear hgs0
        refine wpAny_ready (rs := [4]) (by kernel_rfl) (by decide) ?_
        refine AllReady.cons rfl (fun K' hK => ?_) AllReady.nil
        have cgA := cellF (heap_up (o := Obj.cells (p4 f t (.slice sa n sc) 0) 60) hgq)
        go_simp
        refine hK _ _ ?_
        clear hK K' cgA
        refine wpAny_ready (rs := [9]) (by kernel_rfl) (by decide) ?_
        refine AllReady.cons rfl (fun K' hK => ?_) AllReady.nil
        rw [if_pos (by rfl)]
        obtain ⟨ip, zp, ip1, ip2, ip3, ip4, ip5⟩ := info_put
        refine wp_append_own_at _ _ 54 rfl base 60 ip zp 4 ip.bytes Try.underlying54 ip1 ip2 ip3 rfl ip5 (by omega) (.slice ra k rc) k _ rfl (hoq.alloc (Obj.cells (p4 f t (.slice sa n sc) 0) 60)) ⟨gs, 0, none⟩ 1 1 (p4 f t (.slice sa n sc) 0).toList rfl rfl (fun j u hj => ?_) (fun u hu => ?_) (by unfold maxLen; omega) ?_ ?_ ?_
        · have h2 : (⟨gs, 0, none⟩ : Addr).add j = ⟨gs, j, none⟩ := by unfold Addr.add; split <;> simp_all
          rw [h2, cellF hgs]
          simpa using hj
        · have h1 := p4_all (f := f) (t := t) (ag := 0) (a := sa) (n := n) (c := sc)
          rw [Array.all_eq_true'] at h1
          exact h1 u (by simpa using hu)
        · have := Nat.mul_le_mul (show k + 1 ≤ 2001 by omega) ip4
          omega
        · have := hBq.size
          simp
          omega
        rintro v5 w5 ho5 hg5 hat5
        refine hK _ _ ?_
        clear hK K'
        (try simp only [Act.put, List.setIfInBounds_toArray, List.set_cons_zero, List.set_cons_succ])
        obtain ⟨ra5, rc5, rfl, _⟩ := own_rows (c := 4) (L := fun i => p4 (if i = k then f else F i) (if i = k then t else T i) (if i = k then .slice sa n sc else S i) (if i = k then 0 else Ag i)) (fun i => rfl) (by rw [flat_upd]; exact ho5)
        refine wpAny_take (i := 10) (v := ?_) rfl (by kernel_rfl) (by kernel_rfl) (by kernel_rfl) (fun _ _ _ h => h) (Or.inl ⟨by rfl, ?tka⟩) ?_
        case tka => (intro wt; go_simp; try with_reducible rfl)
        (try simp only [Act.put, List.setIfInBounds_toArray, List.set_cons_zero, List.set_cons_succ])
        refine wpAny_take (i := 11) (v := ?_) rfl (by kernel_rfl) (by kernel_rfl) (by kernel_rfl) (fun _ _ _ h => h) (Or.inl ⟨by rfl, ?tkb⟩) ?_
        case tkb => (intro wt; go_simp; try with_reducible rfl)
        (try simp only [Act.put, List.setIfInBounds_toArray, List.set_cons_zero, List.set_cons_succ])
        refine wpAny_ready (rs := [12]) (by kernel_rfl) (by decide) ?_
        refine AllReady.cons rfl (fun K' hK => ?_) AllReady.nil
        have hne5 : some g ≠ (Value.slice ra k rc).ownBlock := fun e => by
          obtain ⟨A9, fr9, h9⟩ := own_tag hoq g e.symm
          rw [hgq] at h9; injection h9 with h9; injection h9 with _ h9; exact absurd h9 (by decide)
        have hgq5 : w5.heap[g]? = some (.cells #[.slice ra k rc] 56 (0, 0)) := (hg5.block g (by have := (Array.getElem?_eq_some_iff.1 (heap_up (o := Obj.cells (p4 f t (.slice sa n sc) 0) 60) hgq)).1; exact this) hne5).trans (heap_up hgq)
        have c5 := cellF hgq5
        have f5 := (cells_of hgq5).2.1
        go_simp
        refine hK _ _ ?_
        clear hK K' c5 f5
        refine wpAny_done (by kernel_rfl) ?_ _
        go_wp2
        go_ret
        have hfin := net_grown HN.out hn hk hBq hoq hv0 hg5 ho5 hgq5
        exact ⟨⟨.slice sa n sc, rfl, hfin.1, hf0⟩, hfin.2.1, kg_send hg hBq hg5 hgq5 hat5⟩
end Go.Proofs.Ytfgcjgabknoamaa
