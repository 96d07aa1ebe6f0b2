/- A contract is listed at whatever place. Condition: the calendar is one. -/
import Derived.Test.YtobokknfpjjdeaaCalL
import Derived.Test.YtobokknfpjjdeaaInsC
namespace Go.Proofs.Ytobokknfpjjdeaa
set_option linter.unusedVariables false
set_option linter.unusedSimpArgs false
open Go.RowKit

theorem At.uniq {L : Nat → Array Value} {k : Nat} {n : Int} {i j : Nat} (h1 : At L k n i) (h2 : At L k n j) : i = j := by
  obtain ⟨a1, a2, a3⟩ := h1
  obtain ⟨b1, b2, b3⟩ := h2
  rcases Nat.lt_trichotomy i j with h | h | h
  · have := b2 i h; have := a3 i (Nat.le_refl _) (by omega); omega
  · exact h
  · have := a2 j h; have := b3 j (Nat.le_refl _) (by omega); omega
theorem ins_con {L : Nat → Array Value} {p : Nat} {B : Array Value} (h : ∀ i, IsCon (L i)) (hB : IsCon B) (i : Nat) : IsCon (ins L p B i) := by
  unfold ins; split
  · exact h i
  · split
    · exact hB
    · exact h _
/-- every block but g and the row that g has stays; the row is that one still, or a new one -/
def Kq (g : Nat) (A B : World) : Prop := ∀ v d, A.heap[g]? = some (.cells #[.bool true, .int .u32 d, v] 93 (0, 0)) →
  (∀ i, i ≠ g → some i ≠ v.ownBlock → i < A.heap.size → B.heap[i]? = A.heap[i]?) ∧ ∃ d' v', B.heap[g]? = some (.cells #[.bool true, .int .u32 d', v'] 93 (0, 0)) ∧ (v'.ownBlock = v.ownBlock ∨ ∃ b, v'.ownBlock = some b ∧ A.heap.size ≤ b)
theorem cal_grown_any {w w1 w5 : World} {g base k pi : Nat} {day : Int} {L : Nat → Array Value} {B : Array Value} {v v5 : Value} (hC : CalIs w g base k day L) (hk : k < 16) (hg : w.heap[g]? = some (.cells #[.bool true, .int .u32 day, v] 93 (0, 0)))
    (hB : Below w.heap.size w w1) (hcon : IsCon B) (hpi : pi ≤ k) (hlo : ∀ i, i < pi → N (L i) 0 < N B 0) (hhi : ∀ i, pi ≤ i → i < k → N B 0 < N (L i) 0) (hoq : w1.ownsRow base 65 27 v k (flat L k)) (hg5 : w1.grownBy w5 v.ownBlock) (ho5 : w5.ownsRow base 65 27 v5 (k + 1) (flat (ins L pi B) (k + 1))) (hat : v5.ownBlock = v.ownBlock ∨ v5.ownBlock = some w1.heap.size) :
    w5.heap[g]? = some (.cells #[.bool true, .int .u32 day, v] 93 (0, 0)) ∧ CalIs (w5.setCell ⟨g, 2, none⟩ v5) g base (k + 1) day (ins L pi B) ∧ Below base w (w5.setCell ⟨g, 2, none⟩ v5) ∧ Kq g w (w5.setCell ⟨g, 2, none⟩ v5) := by
  have hg1 := Ytobokknfpjjdeaa.kept hB hg
  have hne : some g ≠ v.ownBlock := fun e => by
    obtain ⟨A9, fr9, h9⟩ := own_tag hoq g e.symm
    rw [hg1] at h9; injection h9 with h9; injection h9 with _ h9; exact absurd h9 (by decide)
  have hgw : g < w.heap.size := (Array.getElem?_eq_some_iff.1 hg).1
  have hgq5 := (hg5.block g (by have := hB.size; omega) hne).trans hg1
  have hbg := hC.bg
  refine ⟨hgq5, ⟨⟨v5, heap_set (i := 2) (v := v5) hgq5, ?_⟩, ins_con hC.con hcon, fun a c hac hc => ?_, hbg, by omega, hC.hd⟩, ?_⟩
  · refine ownsRow_setCell_other ho5 (fun e => ?_) _
    obtain ⟨A, fr, h⟩ := own_tag ho5 _ e
    rw [show w5.heap[(⟨g, 2, none⟩ : Addr).block]? = w5.heap[g]? from rfl, hgq5] at h
    injection h with h; injection h with _ h; exact absurd h (by decide)
  · have e1 : ∀ r, r < pi → ins L pi B r = L r := fun r hr => by unfold ins; rw [if_pos hr]
    have e2 : ins L pi B pi = B := by unfold ins; rw [if_neg (by omega), if_pos rfl]
    have e3 : ∀ r, pi < r → ins L pi B r = L (r - 1) := fun r hr => by unfold ins; rw [if_neg (by omega), if_neg (by omega)]
    rcases Nat.lt_trichotomy c pi with hj | hj | hj
    · rw [e1 a (by omega), e1 c hj]; exact hC.srt a c hac (by omega)
    · subst hj; rw [e2, e1 a hac]; exact hlo a hac
    · rw [e3 c hj]
      rcases Nat.lt_trichotomy a pi with hi | hi | hi
      · rw [e1 a hi]; exact hC.srt a (c - 1) (by omega) (by omega)
      · subst hi; rw [e2]; exact hhi (c - 1) (by omega) (by omega)
      · rw [e3 a hi]; exact hC.srt (a - 1) (c - 1) (by omega) (by omega)
  · refine ⟨below_set (((hB.mono (by omega)).grown hg5 (by have := hB.size; omega) (fun j e => (hoq.lt j e).1))) hbg, fun v' d' hv' => ?_⟩
    rw [hg] at hv'
    have e : v = v' := by simp at hv'; exact hv'.2
    subst e
    refine ⟨fun i hi hne2 hlt => ?_, day, v5, heap_set (i := 2) (v := v5) hgq5, ?_⟩
    · rw [heap_setCell_other w5 ⟨g, 2, none⟩ i _ hi]
      exact (hg5.block i (by have := hB.size; omega) hne2).trans (hB.block i hlt)
    · rcases hat with e | e
      · exact .inl e
      · exact .inr ⟨_, e, hB.size⟩
set_option maxRecDepth 100000 in
set_option maxHeartbeats 2000000 in
theorem clist_ok {w : World} {g base k pi : Nat} {day : Int} {L : Nat → Array Value} {A : Array Value} (h : CalIs w g base k day L) (hA : IsSpec A) (hm : mayB A = true) (hat : At L k (N A 0) pi) (hfr : ∀ i, i < k → N (L i) 0 ≠ N A 0) (hd : day ≤ N A 23) (hk : k < 16) :
    Calls Try.prog 25 #[.pointer (some ⟨g, 0, none⟩), .agg A] w fun e w' => e = .returned (.int .i64 0) ∧ CalIs w' g base (k + 1) day (ins L pi (conA A (N A 24))) ∧ Below base w w' ∧ Kq g w w' := by
  have hb0 := below_new w (Obj.cells A 61)
  have h1 := h.kept hb0
  have hgp := heap_alloc_new w (Obj.cells A 61)
  have cr := Lib.hid (cready_yes h1)
  have cm := Lib.hid (fun w1 => may_any A w1 hA)
  rw [hm] at cm
  have hpi : pi ≤ k := hat.1
  have HH := Lib.hid (fun w1 (hh : CalIs w1 g base k day L) => (cat_out (n := N A 0) hh hfr).mono (R' := fun e w' => e = .returned (.tuple #[.int .i64 pi, .bool false]) ∧ Below w1.heap.size w1 w') (fun e w' ⟨j, hj, he, hb⟩ => by
    have : j = pi := hj.uniq hat
    subst this
    exact ⟨he, hb⟩))
  have HC := Lib.hid h
  obtain ⟨v, hg, hrow⟩ := h.row
  obtain ⟨ra, rc, rfl, _⟩ := own_rows (c := 27) (fun i => (h.con i).size) hrow
  have HG := Lib.hid hg
  have HROW := Lib.hid hrow
  have hbg := h.bg
  have hgw : g < w.heap.size := (Array.getElem?_eq_some_iff.1 hg).1
  have H1 := Lib.hid h1
  have HB := Lib.hid (conA_con (p := N A 24) hA hA.c24.2)
  have HNEW := Lib.hid (show (∀ i, i < pi → N (L i) 0 < N (conA A (N A 24)) 0) ∧ (∀ i, pi ≤ i → i < k → N (conA A (N A 24)) 0 < N (L i) 0) from ⟨fun i hi => by rw [conA_N (by rw [hA.size]; omega)]; exact hat.2.1 i hi, fun i h1 h2 => by rw [conA_N (by rw [hA.size]; omega)]; have := hat.2.2 i h1 h2; have := hfr i h2; omega⟩)
  have h0 := hA.c0.u32.1
  have h23 := hA.c23.u32.1
  have h24 := hA.c24.i64.1
  have HSZ := Lib.hid hA.size
  have HEX := Lib.hid (extract_all hA.size)
  have hnd : ¬ N A 23 < day := by omega
  have HBU := Lib.hid (built_con (p := N A 24) hA.size)
  clear h h1 hA hm hat hfr hrow
  go_enter Try.func25, Try.ntmps25
  go_wp2_with (first | (go_at_call 57; (with_reducible refine (cr.out).mono ?_); rintro e w1 ⟨rfl, rfl⟩) | ((with_reducible refine at_load 61 ?_); refine wpList_load_part rfl 61 _ rfl (w.heap.size) (0) rfl _ (A) _ _ 25 (hgp) Try.underlying61 rfl (by kernel_rfl) (by rw [HSZ.out]; omega) (A) (HEX.out) ?_) | (go_at_call 58; (with_reducible refine (cm.out _).mono ?_); rintro e w1 ⟨rfl, hb1⟩; have cp1 := cellF (Ytobokknfpjjdeaa.kept hb1 hgp)) | (go_at_call 59; (with_reducible refine (HH.out _ (H1.out.kept hb1)).mono ?_); rintro e w2 ⟨rfl, hb2⟩; have hb12 := below_then hb1 hb2; have cp2 := cellF (Ytobokknfpjjdeaa.kept hb12 hgp); have cg2 := cellF (Ytobokknfpjjdeaa.kept hb12 (heap_up hg))))
  go_quiet (fail)
  go_wp2_with fail
  refine wp_region_held (S := fun wt => wt.heap[w.heap.size]? = some (.cells A 61 (0, 0))) (by kernel_rfl) ?_
  change wpAnyH _ _ _ _ _ _ _ _ (World.drew _)
  have hbq0 : Below w.heap.size w ((w2.drewN nq).drew) := Below.drew (below_drawn (below_then hb0 hb12))
  obtain ⟨wq, hwq⟩ : ∃ wq, wq = (w2.drewN nq).drew := ⟨_, rfl⟩
  have hBq : Below w.heap.size w wq := by rw [hwq]; exact hbq0
  have hgpq : wq.heap[w.heap.size]? = some (.cells A 61 (0, 0)) := by rw [hwq]; exact Ytobokknfpjjdeaa.kept hb12 hgp
  rw [← hwq]
  have hoq := own_below hBq HROW.out
  have hgq := Ytobokknfpjjdeaa.kept hBq HG.out
  have HS : wq.heap[w.heap.size]? = some (.cells A 61 (0, 0)) := hgpq
  clear hbq0 hwq hb12 cp2 cg2 hb1 hb2 cp1 hgp hg hb0 cr cm HH H1
  (refine wpAnyH_take (i := 0) (v := ?_) rfl (by kernel_rfl) (by kernel_rfl) (by kernel_rfl) (fun _ _ _ h => h) (Or.inl ⟨by rfl, ?ht_0⟩) HS ?_); (case ht_0 => (intro wt hS; go_simp; try with_reducible rfl)); (try simp only [Act.put, List.getElem_toArray, List.getElem_cons_zero, List.getElem_cons_succ, List.setIfInBounds_toArray, List.set_cons_zero, List.set_cons_succ]); (refine wpAnyH_take (i := 1) (v := ?_) rfl (by kernel_rfl) (by kernel_rfl) (by kernel_rfl) (fun _ _ _ h => h) (Or.inl ⟨by rfl, ?ht_1⟩) HS ?_); (case ht_1 => (intro wt hS; go_simp; try with_reducible rfl)); (try simp only [Act.put, List.getElem_toArray, List.getElem_cons_zero, List.getElem_cons_succ, List.setIfInBounds_toArray, List.set_cons_zero, List.set_cons_succ]); (refine wpAnyH_take (i := 2) (v := ?_) rfl (by kernel_rfl) (by kernel_rfl) (by kernel_rfl) (fun _ _ _ h => h) (Or.inl ⟨by rfl, ?ht_2⟩) HS ?_); (case ht_2 => (intro wt hS; go_simp; try with_reducible rfl)); (try simp only [Act.put, List.getElem_toArray, List.getElem_cons_zero, List.getElem_cons_succ, List.setIfInBounds_toArray, List.set_cons_zero, List.set_cons_succ]); (refine wpAnyH_take (i := 3) (v := ?_) rfl (by kernel_rfl) (by kernel_rfl) (by kernel_rfl) (fun _ _ _ h => h) (Or.inl ⟨by rfl, ?ht_3⟩) HS ?_); (case ht_3 => (intro wt hS; go_simp; try with_reducible rfl)); (try simp only [Act.put, List.getElem_toArray, List.getElem_cons_zero, List.getElem_cons_succ, List.setIfInBounds_toArray, List.set_cons_zero, List.set_cons_succ]); (refine wpAnyH_take (i := 5) (v := ?_) rfl (by kernel_rfl) (by kernel_rfl) (by kernel_rfl) (fun _ _ _ h => h) (Or.inl ⟨by rfl, ?ht_5⟩) HS ?_); (case ht_5 => (intro wt hS; go_simp; try with_reducible rfl)); (try simp only [Act.put, List.getElem_toArray, List.getElem_cons_zero, List.getElem_cons_succ, List.setIfInBounds_toArray, List.set_cons_zero, List.set_cons_succ])
  (refine wpAnyH_take (i := 6) (v := .agg A) rfl (by kernel_rfl) (by kernel_rfl) (by kernel_rfl) (fun _ _ _ h => h) (Or.inl ⟨by rfl, ?ht_6⟩) HS ?_); (case ht_6 => (intro wt hS; exact exec_load_part 61 _ rfl w.heap.size 0 (by rfl) _ A _ _ 25 hS Try.underlying61 rfl (by kernel_rfl) (by rw [HSZ.out]; omega) A HEX.out)); (try simp only [Act.put, List.getElem_toArray, List.getElem_cons_zero, List.getElem_cons_succ, List.setIfInBounds_toArray, List.set_cons_zero, List.set_cons_succ])
  (refine wpAnyH_take (i := 7) (v := ?_) rfl (by kernel_rfl) (by kernel_rfl) (by kernel_rfl) (fun _ _ _ h => h) (Or.inl ⟨by rfl, ?ht_7⟩) HS ?_); (case ht_7 => (intro wt hS; go_simp; try with_reducible rfl)); (try simp only [Act.put, List.getElem_toArray, List.getElem_cons_zero, List.getElem_cons_succ, List.setIfInBounds_toArray, List.set_cons_zero, List.set_cons_succ])
  (refine wpAnyH_take (i := 8) (v := ?_) rfl (by kernel_rfl) (by kernel_rfl) (by kernel_rfl) (fun _ _ _ h => h) (Or.inl ⟨by rfl, ?ht_8⟩) HS ?_); (case ht_8 => (intro wt hS; have cg := cellF hS; go_simp; try with_reducible rfl)); (try simp only [Act.put, List.getElem_toArray, List.getElem_cons_zero, List.getElem_cons_succ, List.setIfInBounds_toArray, List.set_cons_zero, List.set_cons_succ])
  (refine wpAnyH_take (i := 9) (v := .agg (conA A (N A 24))) rfl (by kernel_rfl) (by kernel_rfl) (by kernel_rfl) (fun _ _ _ h => h) (Or.inl ⟨by rfl, ?ht_9⟩) HS ?_); (case ht_9 => (intro wt hS; exact exec_build 65 _ rfl _ (by have hbu := HBU.out; simpa [Act.eval] using hbu))); (try simp only [Act.put, List.getElem_toArray, List.getElem_cons_zero, List.getElem_cons_succ, List.setIfInBounds_toArray, List.set_cons_zero, List.set_cons_succ])
  refine wpAnyH_ready (rs := [4, 10]) (by kernel_rfl) (by decide) ?_
  obtain ⟨ip, zp, ip1, ip2, ip3, ip4, ip5⟩ := info_con
  refine AllReadyH.cons rfl (fun K' hK => ?_) (AllReadyH.cons rfl (fun K' hK => ?_) AllReadyH.nil)
  · have cgA := cellF hgq
    go_simp
    refine hK.out _ _ HS (fun HS => ?_)
    clear hK K' cgA
    (try simp only [Act.put, List.getElem_toArray, List.getElem_cons_zero, List.getElem_cons_succ, List.setIfInBounds_toArray, List.set_cons_zero, List.set_cons_succ])
    (refine wpAnyH_ready (rs := [10]) (by kernel_rfl) (by decide) ?_); (refine AllReadyH.cons rfl (fun K' hK => ?_) AllReadyH.nil); (rw [if_pos (by rfl)])
    refine op_slice1 62 65 _ rfl (conA A (N A 24)) 27 rfl HB.out.size ip zp Try.underlying62 ip1 ip2 ip3 ip5 (by omega) (by omega) (hK.out _ _ (heap_up HS) (fun HS => ?_))
    clear hK K'
    (try simp only [Act.put, List.getElem_toArray, List.getElem_cons_zero, List.getElem_cons_succ, List.setIfInBounds_toArray, List.set_cons_zero, List.set_cons_succ])
    obtain ⟨gs, hgs0⟩ : ∃ gs, gs = wq.heap.size := ⟨_, rfl⟩
    have hgs : (wq.alloc (Obj.cells (conA A (N A 24)) 65)).heap[gs]? = some (.cells (conA A (N A 24)) 65 (0, 0)) := by rw [hgs0]; exact heap_alloc_new _ _
    have hgne : some gs ≠ (Value.slice ra k rc).ownBlock := fun e => by
      obtain ⟨A9, fr9, h9⟩ := own_tag hoq gs e.symm
      have := (Array.getElem?_eq_some_iff.1 h9).1
      omega
    rw [← hgs0]
    clear hgs0
    (refine wpAnyH_ready (rs := [11]) (by kernel_rfl) (by decide) ?_); (refine AllReadyH.cons rfl (fun K' hK => ?_) AllReadyH.nil); (rw [if_pos (by rfl)])
    refine op_call 60 #[.slice ra k rc, .int .i64 pi, .slice (some ⟨gs, 0, none⟩) 1 1] (by go_simp) (fun v' w1 => w1.ownsRow base 65 27 v' (k + 1) (flat (ins L pi (conA A (N A 24))) (k + 1)) ∧ (wq.alloc (Obj.cells (conA A (N A 24)) 65)).grownBy w1 (Value.slice ra k rc).ownBlock ∧ (v'.ownBlock = (Value.slice ra k rc).ownBlock ∨ v'.ownBlock = some (wq.alloc (Obj.cells (conA A (N A 24)) 65)).heap.size)) ((insany_ctr base k pi L (.slice ra k rc) gs (conA A (N A 24)) _ (fun j => (HC.out.con j).size) (fun j => (HC.out.con j).all) (hoq.alloc _) (by omega) hpi HB.out.size HB.out.all hgs hgne (by have := hBq.size; simp; omega)).mono (fun e w1 h => by obtain ⟨v', h1, h2, h3, h4⟩ := h; exact ⟨v', h1, h2, h3, h4⟩)) ?_
    rintro v5 w5 ⟨ho5, hg5, hat5⟩
    have hfin := cal_grown_any HC.out hk HG.out (below_then hBq (below_new wq _)) HB.out hpi HNEW.out.1 HNEW.out.2 (hoq.alloc (Obj.cells (conA A (N A 24)) 65)) hg5 ho5 hat5
    have HGP := (hg5.block w.heap.size (by have := (Array.getElem?_eq_some_iff.1 hgpq).1; simp; omega) (fun e => by
      obtain ⟨A9, fr9, h9⟩ := own_tag (hoq.alloc (Obj.cells (conA A (N A 24)) 65)) _ e.symm
      rw [heap_up hgpq] at h9; injection h9 with h9; injection h9 with _ h9; exact absurd h9 (by decide))).trans (heap_up hgpq)
    refine hK.out _ _ HGP (fun HS => ?_)
    clear hK K' HGP
    (try simp only [Act.put, List.getElem_toArray, List.getElem_cons_zero, List.getElem_cons_succ, List.setIfInBounds_toArray, List.set_cons_zero, List.set_cons_succ])
    (refine wpAnyH_take (i := 12) (v := ?_) rfl (by kernel_rfl) (by kernel_rfl) (by kernel_rfl) (fun _ _ _ h => h) (Or.inl ⟨by rfl, ?ht_12⟩) HS ?_); (case ht_12 => (intro wt hS; go_simp; try with_reducible rfl)); (try simp only [Act.put, List.getElem_toArray, List.getElem_cons_zero, List.getElem_cons_succ, List.setIfInBounds_toArray, List.set_cons_zero, List.set_cons_succ]); (refine wpAnyH_take (i := 13) (v := ?_) rfl (by kernel_rfl) (by kernel_rfl) (by kernel_rfl) (fun _ _ _ h => h) (Or.inl ⟨by rfl, ?ht_13⟩) HS ?_); (case ht_13 => (intro wt hS; go_simp; try with_reducible rfl)); (try simp only [Act.put, List.getElem_toArray, List.getElem_cons_zero, List.getElem_cons_succ, List.setIfInBounds_toArray, List.set_cons_zero, List.set_cons_succ])
    obtain ⟨ra5, rc5, rfl, _⟩ := own_rows (c := 27) (L := ins L pi (conA A (N A 24))) (fun i => (ins_con HC.out.con HB.out i).size) ho5
    have c5 := cellF hfin.1
    have f5 := (cells_of hfin.1).2.1
    (refine wpAnyH_ready (rs := [14]) (by kernel_rfl) (by decide) ?_); (refine AllReadyH.cons rfl (fun K' hK => ?_) AllReadyH.nil); (rw [if_pos (by rfl)])
    go_simp
    refine hK.out _ _ (heap_set_other HS (fun e => by have := (Array.getElem?_eq_some_iff.1 HG.out).1; omega)) (fun HS => ?_)
    clear hK K' c5 f5
    (try simp only [Act.put, List.getElem_toArray, List.getElem_cons_zero, List.getElem_cons_succ, List.setIfInBounds_toArray, List.set_cons_zero, List.set_cons_succ])
    refine wpAnyH_done (by kernel_rfl) ?_ _
    go_wp2
    go_ret
    exact ⟨rfl, hfin.2⟩
  · rw [if_pos (by rfl)]
    refine op_slice1 62 65 _ rfl (conA A (N A 24)) 27 rfl HB.out.size ip zp Try.underlying62 ip1 ip2 ip3 ip5 (by omega) (by omega) (hK.out _ _ (heap_up HS) (fun HS => ?_))
    clear hK K'
    (try simp only [Act.put, List.getElem_toArray, List.getElem_cons_zero, List.getElem_cons_succ, List.setIfInBounds_toArray, List.set_cons_zero, List.set_cons_succ])
    have cgA := cellF (heap_up (o := Obj.cells (conA A (N A 24)) 65) hgq)
    (refine wpAnyH_ready (rs := [4]) (by kernel_rfl) (by decide) ?_); (refine AllReadyH.cons rfl (fun K' hK => ?_) AllReadyH.nil); (rw [if_pos (by rfl)])
    go_simp
    refine hK.out _ _ HS (fun HS => ?_)
    clear hK K' cgA
    (try simp only [Act.put, List.getElem_toArray, List.getElem_cons_zero, List.getElem_cons_succ, List.setIfInBounds_toArray, List.set_cons_zero, List.set_cons_succ])
    obtain ⟨gs, hgs0⟩ : ∃ gs, gs = wq.heap.size := ⟨_, rfl⟩
    have hgs : (wq.alloc (Obj.cells (conA A (N A 24)) 65)).heap[gs]? = some (.cells (conA A (N A 24)) 65 (0, 0)) := by rw [hgs0]; exact heap_alloc_new _ _
    have hgne : some gs ≠ (Value.slice ra k rc).ownBlock := fun e => by
      obtain ⟨A9, fr9, h9⟩ := own_tag hoq gs e.symm
      have := (Array.getElem?_eq_some_iff.1 h9).1
      omega
    rw [← hgs0]
    clear hgs0
    (refine wpAnyH_ready (rs := [11]) (by kernel_rfl) (by decide) ?_); (refine AllReadyH.cons rfl (fun K' hK => ?_) AllReadyH.nil); (rw [if_pos (by rfl)])
    refine op_call 60 #[.slice ra k rc, .int .i64 pi, .slice (some ⟨gs, 0, none⟩) 1 1] (by go_simp) (fun v' w1 => w1.ownsRow base 65 27 v' (k + 1) (flat (ins L pi (conA A (N A 24))) (k + 1)) ∧ (wq.alloc (Obj.cells (conA A (N A 24)) 65)).grownBy w1 (Value.slice ra k rc).ownBlock ∧ (v'.ownBlock = (Value.slice ra k rc).ownBlock ∨ v'.ownBlock = some (wq.alloc (Obj.cells (conA A (N A 24)) 65)).heap.size)) ((insany_ctr base k pi L (.slice ra k rc) gs (conA A (N A 24)) _ (fun j => (HC.out.con j).size) (fun j => (HC.out.con j).all) (hoq.alloc _) (by omega) hpi HB.out.size HB.out.all hgs hgne (by have := hBq.size; simp; omega)).mono (fun e w1 h => by obtain ⟨v', h1, h2, h3, h4⟩ := h; exact ⟨v', h1, h2, h3, h4⟩)) ?_
    rintro v5 w5 ⟨ho5, hg5, hat5⟩
    have hfin := cal_grown_any HC.out hk HG.out (below_then hBq (below_new wq _)) HB.out hpi HNEW.out.1 HNEW.out.2 (hoq.alloc (Obj.cells (conA A (N A 24)) 65)) hg5 ho5 hat5
    have HGP := (hg5.block w.heap.size (by have := (Array.getElem?_eq_some_iff.1 hgpq).1; simp; omega) (fun e => by
      obtain ⟨A9, fr9, h9⟩ := own_tag (hoq.alloc (Obj.cells (conA A (N A 24)) 65)) _ e.symm
      rw [heap_up hgpq] at h9; injection h9 with h9; injection h9 with _ h9; exact absurd h9 (by decide))).trans (heap_up hgpq)
    refine hK.out _ _ HGP (fun HS => ?_)
    clear hK K' HGP
    (try simp only [Act.put, List.getElem_toArray, List.getElem_cons_zero, List.getElem_cons_succ, List.setIfInBounds_toArray, List.set_cons_zero, List.set_cons_succ])
    (refine wpAnyH_take (i := 12) (v := ?_) rfl (by kernel_rfl) (by kernel_rfl) (by kernel_rfl) (fun _ _ _ h => h) (Or.inl ⟨by rfl, ?ht_12⟩) HS ?_); (case ht_12 => (intro wt hS; go_simp; try with_reducible rfl)); (try simp only [Act.put, List.getElem_toArray, List.getElem_cons_zero, List.getElem_cons_succ, List.setIfInBounds_toArray, List.set_cons_zero, List.set_cons_succ]); (refine wpAnyH_take (i := 13) (v := ?_) rfl (by kernel_rfl) (by kernel_rfl) (by kernel_rfl) (fun _ _ _ h => h) (Or.inl ⟨by rfl, ?ht_13⟩) HS ?_); (case ht_13 => (intro wt hS; go_simp; try with_reducible rfl)); (try simp only [Act.put, List.getElem_toArray, List.getElem_cons_zero, List.getElem_cons_succ, List.setIfInBounds_toArray, List.set_cons_zero, List.set_cons_succ])
    obtain ⟨ra5, rc5, rfl, _⟩ := own_rows (c := 27) (L := ins L pi (conA A (N A 24))) (fun i => (ins_con HC.out.con HB.out i).size) ho5
    have c5 := cellF hfin.1
    have f5 := (cells_of hfin.1).2.1
    (refine wpAnyH_ready (rs := [14]) (by kernel_rfl) (by decide) ?_); (refine AllReadyH.cons rfl (fun K' hK => ?_) AllReadyH.nil); (rw [if_pos (by rfl)])
    go_simp
    refine hK.out _ _ (heap_set_other HS (fun e => by have := (Array.getElem?_eq_some_iff.1 HG.out).1; omega)) (fun HS => ?_)
    clear hK K' c5 f5
    (try simp only [Act.put, List.getElem_toArray, List.getElem_cons_zero, List.getElem_cons_succ, List.setIfInBounds_toArray, List.set_cons_zero, List.set_cons_succ])
    refine wpAnyH_done (by kernel_rfl) ?_ _
    go_wp2
    go_ret
    exact ⟨rfl, hfin.2⟩
end Go.Proofs.Ytobokknfpjjdeaa
