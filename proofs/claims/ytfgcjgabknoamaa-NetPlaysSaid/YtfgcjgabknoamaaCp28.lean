/- net's Copy: another net just like it, in memory of its own. Condition: the net is one. -/
import Derived.Test.YtfgcjgabknoamaaKg
import Derived.Test.YtfgcjgabknoamaaHeld
import Derived.Test.YtfgcjgabknoamaaHu
import Derived.Test.YtfgcjgabknoamaaRp28
namespace Go.Proofs.Ytfgcjgabknoamaa
set_option linter.unusedVariables false
set_option linter.unusedSimpArgs false
open Go.RowKit Go.Deep

theorem net_more {w w1 w5 : World} {g base k : Nat} {F T Ag : Nat → Int} {S : Nat → Value} {Ln : Nat → Nat} {X : Nat → Nat → Int} {s v v5 : Value} {o : Obj}
    (hN : NetIs w g base k F T Ag S Ln X) (hnl : Ln k ≤ 1048576) (hag : 0 ≤ Ag k ∧ Ag k ≤ 18446744073709551615) (hk : k < 2000) (hB : Below w.heap.size w w1)
    (hoq : w1.ownsRow base 60 4 v k (flat (fun i => p4 (F i) (T i) (S i) (Ag i)) k)) (hv : BytT w1 s (Ln k) (X k))
    (hg5 : (w1.alloc o).grownBy w5 v.ownBlock)
    (ho5 : w5.ownsRow base 60 4 v5 (k + 1) (flat (fun i => p4 (F i) (T i) (S i) (Ag i)) k ++ (p4 (F k) (T k) s (Ag k)).toList))
    (hgq5 : w5.heap[g]? = some (.cells #[v] 56 (0, 0))) :
    NetIs (w5.setCell ⟨g, 0, none⟩ v5) g base (k + 1) F T Ag (fun i => if i = k then s else S i) Ln X ∧ Below base w (w5.setCell ⟨g, 0, none⟩ v5) := by
  have htag : ∀ gr, v.ownBlock = some gr → ∃ A fr, (w1.alloc o).heap[gr]? = some (.cells A 60 fr) := fun gr e => by
    obtain ⟨A, fr, h⟩ := own_tag hoq gr e
    exact ⟨A, fr, heap_up h⟩
  have hup : ∀ v m Z, BytT w1 v m Z → BytT (w5.setCell ⟨g, 0, none⟩ v5) v m Z := fun v m Z h =>
    ((h.kept (below_new w1 _)).grown hg5 htag).set hgq5 (by decide)
  refine ⟨⟨⟨_, heap_set (i := 0) (v := v5) hgq5, ?_⟩, fun i hi => ?_, fun i => ?_, hN.bg, fun i hi => ?_, fun i hi => ?_, by omega⟩, ?_⟩
  · have e : flat (fun i => p4 (F i) (T i) (if i = k then s else S i) (Ag i)) (k + 1) = flat (fun i => p4 (F i) (T i) (S i) (Ag i)) k ++ (p4 (F k) (T k) s (Ag k)).toList := by
      rw [flat, flat_congr (L' := fun i => p4 (F i) (T i) (S i) (Ag i)) k (fun i hi => by rw [if_neg (by omega)])]
      simp
    rw [e]
    refine ownsRow_setCell_other ho5 (fun e => ?_) _
    obtain ⟨A, fr, h⟩ := own_tag ho5 _ e
    rw [show w5.heap[(⟨g, 0, none⟩ : Addr).block]? = w5.heap[g]? from rfl, hgq5] at h
    injection h with h; injection h with _ h; exact absurd h (by decide)
  · by_cases e : i = k
    · subst e
      simp only [if_true]
      exact hup _ _ _ hv
    · rw [if_neg e]
      exact hup _ _ _ ((hN.by_ i (by omega)).kept hB)
  · by_cases e : i = k
    · rw [if_pos e]; obtain ⟨a, c, h, _⟩ := hv; exact ⟨_, _, _, h⟩
    · rw [if_neg e]; exact hN.sl i
  · by_cases e : i = k
    · subst e; exact hag
    · exact hN.ag i (by omega)
  · by_cases e : i = k
    · subst e; exact hnl
    · exact hN.lg i (by omega)
  · have hbw : base ≤ w.heap.size := by have := hN.bg; obtain ⟨v, h, _⟩ := hN.row; have := (Array.getElem?_eq_some_iff.1 h).1; omega
    have h1 : Below base w w1 := hB.mono hbw
    have hbs : base ≤ w1.heap.size := by have := hB.size; omega
    have h2 : Below base w (w1.alloc o) := h1.alloc hbs _
    refine below_set (h2.grown hg5 ?_ (fun j e => ?_)) hN.bg
    · have := hB.size; simp; omega
    · have := (hoq.lt j e).1; omega
def pzc : Array Value := p4 0 0 (.slice none 0 0) 0
set_option maxRecDepth 100000 in
set_option maxHeartbeats 4000000 in
theorem ncopy_any (g base k : Nat) (F T Ag : Nat → Int) (S : Nat → Value) (Ln : Nat → Nat) (X : Nat → Nat → Int) (w : World) (hN : NetIs w g base k F T Ag S Ln X) :
    Calls Try.prog 24 #[.pointer (some ⟨g, 0, none⟩)] w fun e w' => ∃ (g2 : Nat) (S' : Nat → Value), e = .returned (.pointer (some ⟨g2, 0, none⟩)) ∧ NetIs w' g2 w.heap.size k F T Ag S' Ln X ∧ Below w.heap.size w w' := by
  have hne : ∀ (w : World) (g : Nat), (binOp .eql 26 (.pointer (some ⟨g, 0, none⟩)) (.pointer none)).run Try.prog w = .ok (.bool false) w := fun _ _ => by kernel_rfl
  obtain ⟨v, hg, hrow⟩ := hN.row
  obtain ⟨ra, rc, rfl, hR, hkr, _⟩ := own_rows (c := 4) (fun i => rfl) hrow
  have HN := Lib.hid hN
  have hk2 := hN.hk
  have HG := Lib.hid hg
  have HR := Lib.hid hR
  clear hN hrow hR hg
  go_enter Try.func24, Try.ntmps24
  go_wp2_with ((go_at_call 8; (with_reducible refine (new_net _).mono ?_); rintro e w1 ⟨rfl, hN1, hb1⟩; have cg1 := cellF (Ytfgcjgabknoamaa.kept hb1 HG.out)))
  have HN1 := Lib.hid hN1
  have HB1 := Lib.hid hb1
  clear hN1 hb1 cg1
  go_loopg [14] k (fun gh v14 wr => ∃ (j : Nat) (S' : Nat → Value), j ≤ k ∧ gh = k - j ∧ v14 = .int .i64 j ∧ NetIs wr w.heap.size w.heap.size j F T Ag S' Ln X ∧ Below w.heap.size w wr)
  case atStart => exact ⟨0, fun _ => .slice none 0 0, by omega, by omega, rfl, ⟨HN1.out.row, fun i hi => by omega, HN1.out.sl, Nat.le_refl _, fun i hi => by omega, fun i hi => by omega, by omega⟩, HB1.out⟩
  case round =>
    obtain ⟨j, S', hj, rfl, rfl, hN2, hb2⟩ := hrel
    clear HN1 HB1
    by_cases hjk : j < k
    · have hjki : (j : Int) < k := by omega
      obtain ⟨gb, off, A, fr, rfl, hgA, hszA, hexA⟩ := (rowsT_kept HR.out hb2) j hjk
      have hex : A.extract (off + j * 4) (off + j * 4 + 4) = p4 (F j) (T j) (S j) (Ag j) := hexA
      obtain ⟨sa, sc, hS, hv1, _, hv3, _⟩ := id (HN.out.by_ j hjk)
      have hby := (HN.out.by_ j hjk).kept hb2
      have hln := HN.out.lg j hjk
      have hag := HN.out.ag j hjk
      rw [hS] at hex hby
      have HX := Lib.hid (show (p4 (F j) (T j) (.slice sa (Ln j) sc) (Ag j)).extract 0 3 = m3 (F j) (T j) (.slice sa (Ln j) sc) from rfl)
      have hpsz : (p4 (F j) (T j) (.slice sa (Ln j) sc) (Ag j)).size = 4 := rfl
      have hpal : (p4 (F j) (T j) (.slice sa (Ln j) sc) (Ag j)).all (·.oneCell') = true := p4_all
      have hp3 : (p4 (F j) (T j) (.slice sa (Ln j) sc) (Ag j))[3]? = some (.int .u64 (Ag j)) := rfl
      have CO := Lib.hid (fun wx (hx : Byt wx sa (Ln j) (X j)) => own_any (F j) (T j) sa (Ln j) sc (X j) wx hx (by omega) hv3)
      obtain ⟨v2, hg2, hrow2⟩ := hN2.row
      have HNB := Lib.hid (fun q (e : v2.ownBlock = some q) => (hrow2.lt q e).2)
      have hbn := below_new wr (Obj.cells (p4 (F j) (T j) (.slice sa (Ln j) sc) (Ag j)) 60)
      have hYq := (hby.byt).kept hbn
      have hgq := Ytfgcjgabknoamaa.kept hbn hg2
      have hpq := heap_alloc_new wr (Obj.cells (p4 (F j) (T j) (.slice sa (Ln j) sc) (Ag j)) 60)
      have hoq := own_below hbn hrow2
      have HN2 := Lib.hid (hN2.kept hbn)
      have hbw := below_then hb2 hbn
      obtain ⟨ra2, rc2, rfl, _⟩ := own_rows (c := 4) (fun i => rfl) hrow2
      clear hexA hS hv1 hby hN2 hrow2 hg2 hb2 hbn
      generalize hPX : p4 (F j) (T j) (.slice sa (Ln j) sc) (Ag j) = PX at *
      clear hPX
      go_upto_region 7 with (first | ((with_reducible refine at_load 60 ?_); refine wpList_load_part rfl 60 _ rfl (gb) (off + j * 4) rfl _ (A) _ _ 4 (hgA) Try.underlying60 rfl (by kernel_rfl) (hszA) (PX) (hex) ?_) | ((with_reducible refine at_alloc 60 ?_); refine wpList_alloc_named rfl 60 rfl (pzc) (by kernel_rfl) ?_) | ((with_reducible refine at_store 60 ?_); refine wpList_store_new rfl 60 _ _ rfl (PX) _ _ _ rfl (by simp) rfl (by rw [hpsz]; kernel_rfl) (by rw [hpsz]; rfl) (hpal) ?_))
      clear hgA hszA hex
      refine wp_region_heldU 15 (S := fun wt => wt.heap[w.heap.size]? = some (.cells #[.slice ra2 j rc2] 56 (0, 0)) ∧ wt.heap[wr.heap.size]? = some (.cells PX 60 (0, 0))) (by kernel_rfl) ?_
      obtain ⟨wy, hwy⟩ : ∃ wy, wy = (wr.alloc (Obj.cells PX 60)).drew := ⟨_, rfl⟩
      have hby : Below (wr.alloc (Obj.cells PX 60)).heap.size (wr.alloc (Obj.cells PX 60)) wy := by rw [hwy]; exact Below.drew (Below.refl _ _)
      have HNY := Lib.hid (HN2.out.kept hby)
      have hoy := own_below hby hoq
      have hYy := hYq.kept hby
      have HS : wy.heap[w.heap.size]? = some (.cells #[.slice ra2 j rc2] 56 (0, 0)) ∧ wy.heap[wr.heap.size]? = some (.cells PX 60 (0, 0)) := ⟨Ytfgcjgabknoamaa.kept hby hgq, Ytfgcjgabknoamaa.kept hby hpq⟩
      have hBY := Lib.hid (below_then hbw hby)
      rw [← hwy]
      have hws : w.heap.size ≤ wy.heap.size := hBY.out.size
      clear hwy hby HN2 hoq hYq hgq hpq hbw
      have HS0 := Lib.hid HS
      have HPS := Lib.hid hpsz
      clear hpsz
      (refine wpAnyU_take (i := 0) (v := ?_) rfl (by kernel_rfl) (by kernel_rfl) (by kernel_rfl) (fun _ _ _ h => h) (Or.inl ⟨by rfl, ?ht_0⟩) HS ?_); (case ht_0 => (intro wt hS; go_simp; try with_reducible rfl)); (try simp only [Act.put, List.getElem_toArray, List.getElem_cons_zero, List.getElem_cons_succ, List.setIfInBounds_toArray, List.set_cons_zero, List.set_cons_succ]); (refine wpAnyU_take (i := 1) (v := ?_) rfl (by kernel_rfl) (by kernel_rfl) (by kernel_rfl) (fun _ _ _ h => h) (Or.inl ⟨by rfl, ?ht_1⟩) HS ?_); (case ht_1 => (intro wt hS; go_simp; try with_reducible rfl)); (try simp only [Act.put, List.getElem_toArray, List.getElem_cons_zero, List.getElem_cons_succ, List.setIfInBounds_toArray, List.set_cons_zero, List.set_cons_succ]); (refine wpAnyU_take (i := 2) (v := ?_) rfl (by kernel_rfl) (by kernel_rfl) (by kernel_rfl) (fun _ _ _ h => h) (Or.inl ⟨by rfl, ?ht_2⟩) HS ?_); (case ht_2 => (intro wt hS; go_simp; try with_reducible rfl)); (try simp only [Act.put, List.getElem_toArray, List.getElem_cons_zero, List.getElem_cons_succ, List.setIfInBounds_toArray, List.set_cons_zero, List.set_cons_succ]); (refine wpAnyU_take (i := 3) (v := ?_) rfl (by kernel_rfl) (by kernel_rfl) (by kernel_rfl) (fun _ _ _ h => h) (Or.inl ⟨by rfl, ?ht_3⟩) HS ?_); (case ht_3 => (intro wt hS; go_simp; try with_reducible rfl)); (try simp only [Act.put, List.getElem_toArray, List.getElem_cons_zero, List.getElem_cons_succ, List.setIfInBounds_toArray, List.set_cons_zero, List.set_cons_succ]); (refine wpAnyU_take (i := 5) (v := ?_) rfl (by kernel_rfl) (by kernel_rfl) (by kernel_rfl) (fun _ _ _ h => h) (Or.inl ⟨by rfl, ?ht_5⟩) HS ?_); (case ht_5 => (intro wt hS; go_simp; try with_reducible rfl)); (try simp only [Act.put, List.getElem_toArray, List.getElem_cons_zero, List.getElem_cons_succ, List.setIfInBounds_toArray, List.set_cons_zero, List.set_cons_succ]); (refine wpAnyU_take (i := 8) (v := ?_) rfl (by kernel_rfl) (by kernel_rfl) (by kernel_rfl) (fun _ _ _ h => h) (Or.inl ⟨by rfl, ?ht_8⟩) HS ?_); (case ht_8 => (intro wt hS; go_simp; try with_reducible rfl)); (try simp only [Act.put, List.getElem_toArray, List.getElem_cons_zero, List.getElem_cons_succ, List.setIfInBounds_toArray, List.set_cons_zero, List.set_cons_succ])
      (refine wpAnyU_take (i := 4) (v := ?_) rfl (by kernel_rfl) (by kernel_rfl) (by kernel_rfl) (fun _ _ _ h => h) (Or.inl ⟨by rfl, ?ht_4⟩) HS ?_); (case ht_4 => (intro wt hS; have cg := cellF hS.1; go_simp; try with_reducible rfl)); (try simp only [Act.put, List.getElem_toArray, List.getElem_cons_zero, List.getElem_cons_succ, List.setIfInBounds_toArray, List.set_cons_zero, List.set_cons_succ])
      (refine wpAnyU_take (i := 6) (v := .agg (m3 (F j) (T j) (.slice sa (Ln j) sc))) rfl (by kernel_rfl) (by kernel_rfl) (by kernel_rfl) (fun _ _ _ h => h) (Or.inl ⟨by rfl, ?ht_6⟩) HS ?_); (case ht_6 => (intro wt hS; exact exec_load_part 24 _ rfl wr.heap.size 0 (by rfl) _ PX _ _ 3 hS.2 Try.underlying24 rfl (by kernel_rfl) (by rw [HPS.out]; omega) _ HX.out)); (try simp only [Act.put, List.getElem_toArray, List.getElem_cons_zero, List.getElem_cons_succ, List.setIfInBounds_toArray, List.set_cons_zero, List.set_cons_succ])
      (refine wpAnyU_take (i := 9) (v := ?_) rfl (by kernel_rfl) (by kernel_rfl) (by kernel_rfl) (fun _ _ _ h => h) (Or.inl ⟨by rfl, ?ht_9⟩) HS ?_); (case ht_9 => (intro wt hS; have cp := cellF hS.2; go_simp; try with_reducible rfl)); (try simp only [Act.put, List.getElem_toArray, List.getElem_cons_zero, List.getElem_cons_succ, List.setIfInBounds_toArray, List.set_cons_zero, List.set_cons_succ])
      (refine wpAnyU_ready (rs := [7]) (by kernel_rfl) (by decide) ?_); (refine AllReadyU.cons rfl (fun K' hK => ?_) AllReadyU.nil); (rw [if_pos (by rfl)])
      refine op_call 26 #[.agg (m3 (F j) (T j) (.slice sa (Ln j) sc))] (by go_simp) (fun v' w1 => ∃ v0 : Value, v' = .agg (m3 (F j) (T j) v0) ∧ BytT w1 v0 (Ln j) (X j) ∧ Below wy.heap.size wy w1) ((CO.out wy hYy).mono (fun e w1 h => by obtain ⟨v0, h1, h2, h3⟩ := h; exact ⟨_, h1, v0, rfl, h2, h3⟩)) ?_
      rintro v' w3 ⟨v0, rfl, hv0, hb3⟩
      obtain ⟨sa3, sc3, rfl, _⟩ := id hv0
      refine hK.out _ _ ⟨Ytfgcjgabknoamaa.kept hb3 HS.1, Ytfgcjgabknoamaa.kept hb3 HS.2⟩ (fun HS => ?_)
      clear hK K'
      (try simp only [Act.put, List.getElem_toArray, List.getElem_cons_zero, List.getElem_cons_succ, List.setIfInBounds_toArray, List.set_cons_zero, List.set_cons_succ])
      (refine wpAnyU_take (i := 10) (v := .agg (p4 (F j) (T j) (.slice sa3 (Ln j) sc3) (Ag j))) rfl (by kernel_rfl) (by kernel_rfl) (by kernel_rfl) (fun _ _ _ h => h) (Or.inl ⟨by rfl, ?ht_10⟩) HS ?_); (case ht_10 => (intro wt hS; exact exec_build 60 _ rfl _ (by kernel_rfl))); (try simp only [Act.put, List.getElem_toArray, List.getElem_cons_zero, List.getElem_cons_succ, List.setIfInBounds_toArray, List.set_cons_zero, List.set_cons_succ])
      obtain ⟨ip, zp, ip1, ip2, ip3, ip4, ip5⟩ := info_put
      (refine wpAnyU_ready (rs := [11]) (by kernel_rfl) (by decide) ?_); (refine AllReadyU.cons rfl (fun K' hK => ?_) AllReadyU.nil); (rw [if_pos (by rfl)])
      refine op_slice1 54 60 _ rfl (p4 (F j) (T j) (.slice sa3 (Ln j) sc3) (Ag j)) rfl rfl ip zp Try.underlying54 ip1 ip2 ip3 ip5 (hK.out _ _ ⟨heap_up HS.1, heap_up HS.2⟩ (fun HS => ?_))
      clear hK K'
      (try simp only [Act.put, List.getElem_toArray, List.getElem_cons_zero, List.getElem_cons_succ, List.setIfInBounds_toArray, List.set_cons_zero, List.set_cons_succ])
      obtain ⟨gs, hgs0⟩ : ∃ gs, gs = w3.heap.size := ⟨_, rfl⟩
      rw [← hgs0]
      have hgs : (w3.alloc (Obj.cells (p4 (F j) (T j) (.slice sa3 (Ln j) sc3) (Ag j)) 60)).heap[gs]? = some (.cells (p4 (F j) (T j) (.slice sa3 (Ln j) sc3) (Ag j)) 60 (0, 0)) := by rw [hgs0]; exact heap_alloc_new _ _
      clear hgs0
      have ho3 := own_below hb3 hoy
      have hs3 := hb3.size
      (refine wpAnyU_ready (rs := [12]) (by kernel_rfl) (by decide) ?_); (refine AllReadyU.cons rfl (fun K' hK => ?_) AllReadyU.nil); (rw [if_pos (by rfl)])
      refine wp_append_own _ _ _ 54 rfl w.heap.size 60 ip zp 4 ip.bytes Try.underlying54 ip1 ip2 ip3 rfl ip5 (by omega) (.slice ra2 j rc2) j _ rfl (ho3.alloc (Obj.cells (p4 (F j) (T j) (.slice sa3 (Ln j) sc3) (Ag j)) 60)) ⟨gs, 0, none⟩ 1 1 (p4 (F j) (T j) (.slice sa3 (Ln j) sc3) (Ag j)).toList rfl rfl (fun i u hi => ?a1) (fun u hu => ?a2) (by unfold maxLen; omega) ?a3 (by simp; omega) ?a4
      case a1 =>
        have h2 : (⟨gs, 0, none⟩ : Addr).add i = ⟨gs, i, none⟩ := by unfold Addr.add; split <;> simp_all
        rw [h2, cellF hgs]
        simpa using hi
      case a2 =>
        have h1 := p4_all (f := F j) (t := T j) (ag := Ag j) (a := sa3) (n := Ln j) (c := sc3)
        rw [Array.all_eq_true'] at h1
        exact h1 u (by simpa using hu)
      case a3 =>
        have := Nat.mul_le_mul (show j + 1 ≤ 2001 by omega) ip4
        omega
      intro v5 w5 ho5 hg5 _
      have hne5 : some w.heap.size ≠ (Value.slice ra2 j rc2).ownBlock := fun e => by
        obtain ⟨A9, fr9, h9⟩ := own_tag hoy w.heap.size e.symm
        rw [HS0.out.1] at h9; injection h9 with h9; injection h9 with _ h9; exact absurd h9 (by decide)
      have hne6 : some wr.heap.size ≠ (Value.slice ra2 j rc2).ownBlock := fun e => by have := HNB.out _ e.symm; omega
      have hgq5 := (hg5.block w.heap.size (Array.getElem?_eq_some_iff.1 HS.1).1 hne5).trans HS.1
      have hgp5 := (hg5.block wr.heap.size (Array.getElem?_eq_some_iff.1 HS.2).1 hne6).trans HS.2
      refine hK.out _ _ ⟨hgq5, hgp5⟩ (fun HS => ?_)
      clear hK K'
      (try simp only [Act.put, List.getElem_toArray, List.getElem_cons_zero, List.getElem_cons_succ, List.setIfInBounds_toArray, List.set_cons_zero, List.set_cons_succ])
      have hfin := net_more HNY.out hln hag (by omega) hb3 ho3 hv0 hg5 ho5 hgq5
      obtain ⟨a5, c5, rfl⟩ := own_form ho5
      have HFIN := Lib.hid hfin
      have HB5 := Lib.hid (hBY.out.trans (hfin.2))
      clear hfin hg5 ho5 hgs ho3 hv0 hb3 hYy
      (refine wpAnyU_ready (rs := [13]) (by kernel_rfl) (by decide) ?_); (refine AllReadyU.cons rfl (fun K' hK => ?_) AllReadyU.nil); (rw [if_pos (by rfl)])
      go_simp
      refine hK.out _ _ HS (fun HS => ?_)
      clear hK K'
      (try simp only [Act.put, List.getElem_toArray, List.getElem_cons_zero, List.getElem_cons_succ, List.setIfInBounds_toArray, List.set_cons_zero, List.set_cons_succ])
      (refine wpAnyU_ready (rs := [14]) (by kernel_rfl) (by decide) ?_); (refine AllReadyU.cons rfl (fun K' hK => ?_) AllReadyU.nil); (rw [if_pos (by rfl)])
      go_simp
      refine hK.out _ _ HS (fun HS => ?_)
      clear hK K'
      (try simp only [Act.put, List.getElem_toArray, List.getElem_cons_zero, List.getElem_cons_succ, List.setIfInBounds_toArray, List.set_cons_zero, List.set_cons_succ])
      have c5 := cellF HS.1
      have f5 := (cells_of HS.1).2.1
      refine wpAnyU_last (by kernel_rfl) rfl (fun K' hK => ?_)
      rw [if_pos (by rfl)]
      go_simp
      refine hK.out _ _ ?_
      clear hK K' c5 f5
      refine wpAnyU_done (by kernel_rfl) ?_ _
      go_wp2
      go_roundg (k - (j + 1))
      case measure => omega
      case rel => exact ⟨j + 1, _, by omega, rfl, by go_num, HFIN.out.1, HB5.out⟩
    · obtain rfl : j = k := by omega
      have HFN := Lib.hid hN2
      have HFB := Lib.hid hb2
      clear hN2 hb2
      go_wp2
      go_ret
      exact ⟨_, S', rfl, HFN.out, HFB.out⟩
end Go.Proofs.Ytfgcjgabknoamaa
