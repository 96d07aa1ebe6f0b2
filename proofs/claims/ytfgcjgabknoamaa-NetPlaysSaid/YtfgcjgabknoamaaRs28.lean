/- The document's net: Send. Condition: the net is one, the bytes can be read. -/
import Derived.Test.YtfgcjgabknoamaaAb28
import Derived.Test.YtfgcjgabknoamaaHeld
import Derived.Test.YtfgcjgabknoamaaHu
namespace Go.Proofs.Ytfgcjgabknoamaa
set_option linter.unusedVariables false
set_option linter.unusedSimpArgs false
open Go.RowKit Go.Deep

set_option maxRecDepth 100000 in
theorem rsend_long {w : World} {g base k : Nat} {now : Int} {F T At : Nat → Int} {S : Nat → Value} {Ln : Nat → Nat} {X : Nat → Nat → Int} {v : Value} (f t : Int) (a : Option Addr) (n c : Nat) (h : RNet w g base k now F T At S Ln X v) (hn : 1048576 < n) :
    Calls Try.prog 17 #[.pointer (some ⟨g, 0, none⟩), .agg (m3 f t (.slice a n c))] w fun e w' => e = .returned (.int .i64 3) ∧ Below w.heap.size w w' := by
  have hb := below_new w (Obj.cells (m3 f t (.slice a n c)) 24)
  have h2 : (m3 f t (.slice a n c))[2]? = some (.slice a n c) := rfl
  clear h
  generalize m3 f t (.slice a n c) = M at *
  go_enter Try.func17, Try.ntmps17
  go_wp2
  go_ret
  exact ⟨rfl, hb⟩
set_option maxRecDepth 100000 in
theorem rsend_full {w : World} {g base k : Nat} {now : Int} {F T At : Nat → Int} {S : Nat → Value} {Ln : Nat → Nat} {X : Nat → Nat → Int} {v : Value} (f t : Int) (a : Option Addr) (n c : Nat) (h : RNet w g base k now F T At S Ln X v) (hn : n ≤ 1048576) (hk : 2000 ≤ k) :
    Calls Try.prog 17 #[.pointer (some ⟨g, 0, none⟩), .agg (m3 f t (.slice a n c))] w fun e w' => e = .returned (.int .i64 9) ∧ Below w.heap.size w w' := by
  obtain ⟨ra, rc, rfl, _⟩ := own_rows (c := 4) (fun i => rfl) h.own
  have hb := below_new w (Obj.cells (m3 f t (.slice a n c)) 24)
  have cg1 := cellF (heap_up (o := Obj.cells (m3 f t (.slice a n c)) 24) h.row)
  have h2 : (m3 f t (.slice a n c))[2]? = some (.slice a n c) := rfl
  clear h
  generalize m3 f t (.slice a n c) = M at *
  go_enter Try.func17, Try.ntmps17
  go_wp2
  go_ret
  exact ⟨rfl, hb⟩
set_option maxRecDepth 100000 in
set_option maxHeartbeats 4000000 in
theorem rsend_ok {w : World} {g base k : Nat} {now : Int} {F T At : Nat → Int} {S : Nat → Value} {Ln : Nat → Nat} {X : Nat → Nat → Int} {v : Value} (f t : Int) (a : Option Addr) (n c : Nat) (Y : Nat → Int) (h : RNet w g base k now F T At S Ln X v) (hY : Byt w a n Y) (hz : a = none → n = 0 ∧ c = 0) (hn : n ≤ 1048576) (hk : k < 2000) :
    Calls Try.prog 17 #[.pointer (some ⟨g, 0, none⟩), .agg (m3 f t (.slice a n c))] w fun e w' => ∃ s v' : Value, e = .returned (.int .i64 0) ∧ RNet w' g base (k + 1) now (fun i => if i = k then f else F i) (fun i => if i = k then t else T i) (fun i => if i = k then now else At i) (fun i => if i = k then s else S i) (fun i => if i = k then n else Ln i) (fun i => if i = k then Y else X i) v' ∧ Below base w w' ∧ Kd g w w' ∧ (∀ q, v'.ownBlock = some q → w.heap.size ≤ q) ∧ Fr w.heap.size s := by
  obtain ⟨ra, rc, rfl, hR, hkr, _, hrz⟩ := own_rows (c := 4) (fun i => rfl) h.own
  have HN := Lib.hid h
  have HR := Lib.hid hR
  have HRZ := Lib.hid hrz
  have hgl := (Array.getElem?_eq_some_iff.1 h.row).1
  have hbg := h.bg
  have hb1 := below_new w (Obj.cells (m3 f t (.slice a n c)) 24)
  have hb2 := below_alloc hb1 (Obj.cells #[] 5)
  have hY2 := hY.kept hb2
  have cg1 := cellF (heap_up (o := Obj.cells (m3 f t (.slice a n c)) 24) h.row)
  have hgm2 := heap_up (o := Obj.cells #[] 5) (heap_alloc_new w (Obj.cells (m3 f t (.slice a n c)) 24))
  have h2 : (m3 f t (.slice a n c))[2]? = some (.slice a n c) := rfl
  have HSET := Lib.hid (show ∀ v, (m3 f t (.slice a n c)).setIfInBounds 2 v = m3 f t v from fun v => rfl)
  have hob := own_empty_p (w.alloc (Obj.cells (m3 f t (.slice a n c)) 24)) 5 1
  rw [show (w.alloc (Obj.cells (m3 f t (.slice a n c)) 24)).heap.size = w.heap.size + 1 by simp] at hob
  have HMA := Lib.hid (fun j => show (p4 (F j) (T j) (S j) (At j)).all (·.oneCell') = true from by obtain ⟨a9, n9, c9, e9⟩ := HN.out.sl j; rw [e9]; exact p4_all)
  clear h hR hrz
  generalize hM : m3 f t (.slice a n c) = M at *
  clear hM
  go_enter Try.func17, Try.ntmps17
  go_wp2_with ((with_reducible refine at_append 22 ?_); refine wpList_append_byt rfl _ _ rfl (w.heap.size + 1) (.slice (some ⟨w.heap.size + 1, 0, none⟩) 0 0) rfl hob a n c Y rfl hY2 hz (by omega) (by simp) ?_; intro vb wb hob2 hgb; obtain ⟨s0, sc, rfl⟩ := own_form hob2; have hgmb := (hgb.block w.heap.size (by simp; omega) (fun e => by have e : w.heap.size = w.heap.size + 1 := Option.some.inj e; omega)).trans hgm2; have cmb := cellF hgmb; have fmb := (cells_of hgmb).2.1)
  have hbb : Below w.heap.size w wb := hb2.grown hgb (by simp; omega) (fun j e => by have e : w.heap.size + 1 = j := Option.some.inj e; omega)
  have hm5 := heap_set (i := 2) (v := .slice s0 n sc) hgmb
  rw [HSET.out] at hm5
  have hb5 := below_set (g := w.heap.size) (i := 2) (v := .slice s0 n sc) hbb (Nat.le_refl _)
  have hs5 := (own_bytes hob2).set (g := w.heap.size) (i := 2) (u := .slice s0 n sc) hgmb (by decide)
  have HFR := Lib.hid (show Fr w.heap.size (.slice s0 n sc) from fun q e => by have := (hob2.lt q e).1; omega)
  obtain ⟨w5, hw5⟩ : ∃ w5, w5 = wb.setCell ⟨w.heap.size, 2, none⟩ (.slice s0 n sc) := ⟨_, rfl⟩
  rw [← hw5] at hm5 hb5 hs5
  rw [← hw5]
  clear hw5 hob2 hgb hgmb cmb fmb hbb hob hgm2 hY2 hb2 hb1 hY cg1
  refine wp_region_heldU 17 (S := fun wt => wt.heap[g]? = some (.cells #[.slice ra k rc, .int .u64 now] 48 (0, 0)) ∧ wt.heap[w.heap.size]? = some (.cells (m3 f t (.slice s0 n sc)) 24 (0, 0))) (by kernel_rfl) ?_
  obtain ⟨wy, hwy⟩ : ∃ wy, wy = w5.drew := ⟨_, rfl⟩
  have hby : Below w.heap.size w wy := by rw [hwy]; exact Below.drew hb5
  have hsv : BytT wy (.slice s0 n sc) n Y := hs5.kept (by rw [hwy]; exact Below.drew (Below.refl _ _))
  have HS : wy.heap[g]? = some (.cells #[.slice ra k rc, .int .u64 now] 48 (0, 0)) ∧ wy.heap[w.heap.size]? = some (.cells (m3 f t (.slice s0 n sc)) 24 (0, 0)) := ⟨Ytfgcjgabknoamaa.kept hby HN.out.row, by rw [hwy]; exact hm5⟩
  rw [← hwy]
  clear hwy hm5 hs5 hb5
  have HS0 := Lib.hid HS
  have HNE := Lib.hid (show w.heap.size ≠ g by omega)
  have hwy0 := hby.size
  have HM3 := Lib.hid (extract_all (show (m3 f t (.slice s0 n sc)).size = 3 from rfl))
  have HM4 := Lib.hid (show (m3 f t (.slice s0 n sc)).size = 3 from rfl)
  (refine wpAnyU_take (i := 0) (v := ?_) rfl (by kernel_rfl) (by kernel_rfl) (by kernel_rfl) (fun _ _ _ h => h) (Or.inl ⟨by rfl, ?ht_0⟩) HS ?_); (case ht_0 => (intro wt hS; go_simp; try with_reducible rfl)); (try simp only [Act.put, List.getElem_toArray, List.getElem_cons_zero, List.getElem_cons_succ, List.setIfInBounds_toArray, List.set_cons_zero, List.set_cons_succ]); (refine wpAnyU_take (i := 2) (v := ?_) rfl (by kernel_rfl) (by kernel_rfl) (by kernel_rfl) (fun _ _ _ h => h) (Or.inl ⟨by rfl, ?ht_2⟩) HS ?_); (case ht_2 => (intro wt hS; go_simp; try with_reducible rfl)); (try simp only [Act.put, List.getElem_toArray, List.getElem_cons_zero, List.getElem_cons_succ, List.setIfInBounds_toArray, List.set_cons_zero, List.set_cons_succ]); (refine wpAnyU_take (i := 3) (v := ?_) rfl (by kernel_rfl) (by kernel_rfl) (by kernel_rfl) (fun _ _ _ h => h) (Or.inl ⟨by rfl, ?ht_3⟩) HS ?_); (case ht_3 => (intro wt hS; go_simp; try with_reducible rfl)); (try simp only [Act.put, List.getElem_toArray, List.getElem_cons_zero, List.getElem_cons_succ, List.setIfInBounds_toArray, List.set_cons_zero, List.set_cons_succ]); (refine wpAnyU_take (i := 4) (v := ?_) rfl (by kernel_rfl) (by kernel_rfl) (by kernel_rfl) (fun _ _ _ h => h) (Or.inl ⟨by rfl, ?ht_4⟩) HS ?_); (case ht_4 => (intro wt hS; go_simp; try with_reducible rfl)); (try simp only [Act.put, List.getElem_toArray, List.getElem_cons_zero, List.getElem_cons_succ, List.setIfInBounds_toArray, List.set_cons_zero, List.set_cons_succ]); (refine wpAnyU_take (i := 8) (v := ?_) rfl (by kernel_rfl) (by kernel_rfl) (by kernel_rfl) (fun _ _ _ h => h) (Or.inl ⟨by rfl, ?ht_8⟩) HS ?_); (case ht_8 => (intro wt hS; go_simp; try with_reducible rfl)); (try simp only [Act.put, List.getElem_toArray, List.getElem_cons_zero, List.getElem_cons_succ, List.setIfInBounds_toArray, List.set_cons_zero, List.set_cons_succ]); (refine wpAnyU_take (i := 9) (v := ?_) rfl (by kernel_rfl) (by kernel_rfl) (by kernel_rfl) (fun _ _ _ h => h) (Or.inl ⟨by rfl, ?ht_9⟩) HS ?_); (case ht_9 => (intro wt hS; go_simp; try with_reducible rfl)); (try simp only [Act.put, List.getElem_toArray, List.getElem_cons_zero, List.getElem_cons_succ, List.setIfInBounds_toArray, List.set_cons_zero, List.set_cons_succ]); (refine wpAnyU_take (i := 10) (v := ?_) rfl (by kernel_rfl) (by kernel_rfl) (by kernel_rfl) (fun _ _ _ h => h) (Or.inl ⟨by rfl, ?ht_10⟩) HS ?_); (case ht_10 => (intro wt hS; go_simp; try with_reducible rfl)); (try simp only [Act.put, List.getElem_toArray, List.getElem_cons_zero, List.getElem_cons_succ, List.setIfInBounds_toArray, List.set_cons_zero, List.set_cons_succ])
  (refine wpAnyU_take (i := 5) (v := ?_) rfl (by kernel_rfl) (by kernel_rfl) (by kernel_rfl) (fun _ _ _ h => h) (Or.inl ⟨by rfl, ?ht_5⟩) HS ?_); (case ht_5 => (intro wt hS; have cg := cellF hS.1; go_simp; try with_reducible rfl)); (try simp only [Act.put, List.getElem_toArray, List.getElem_cons_zero, List.getElem_cons_succ, List.setIfInBounds_toArray, List.set_cons_zero, List.set_cons_succ])
  (refine wpAnyU_take (i := 7) (v := .agg (m3 f t (.slice s0 n sc))) rfl (by kernel_rfl) (by kernel_rfl) (by kernel_rfl) (fun _ _ _ h => h) (Or.inl ⟨by rfl, ?ht_7⟩) HS ?_); (case ht_7 => (intro wt hS; exact exec_load_part 24 _ rfl w.heap.size 0 (by rfl) _ (m3 f t (.slice s0 n sc)) _ _ 3 hS.2 Try.underlying24 rfl (by kernel_rfl) (by rw [HM4.out]; omega) (m3 f t (.slice s0 n sc)) HM3.out)); (try simp only [Act.put, List.getElem_toArray, List.getElem_cons_zero, List.getElem_cons_succ, List.setIfInBounds_toArray, List.set_cons_zero, List.set_cons_succ])
  (refine wpAnyU_take (i := 11) (v := ?_) rfl (by kernel_rfl) (by kernel_rfl) (by kernel_rfl) (fun _ _ _ h => h) (Or.inl ⟨by rfl, ?ht_11⟩) HS ?_); (case ht_11 => (intro wt hS; have cg := cellF hS.1; go_simp; try with_reducible rfl)); (try simp only [Act.put, List.getElem_toArray, List.getElem_cons_zero, List.getElem_cons_succ, List.setIfInBounds_toArray, List.set_cons_zero, List.set_cons_succ])
  (refine wpAnyU_take (i := 12) (v := .agg (p4 f t (.slice s0 n sc) now)) rfl (by kernel_rfl) (by kernel_rfl) (by kernel_rfl) (fun _ _ _ h => h) (Or.inl ⟨by rfl, ?ht_12⟩) HS ?_); (case ht_12 => (intro wt hS; exact exec_build 65 _ rfl _ (by kernel_rfl))); (try simp only [Act.put, List.getElem_toArray, List.getElem_cons_zero, List.getElem_cons_succ, List.setIfInBounds_toArray, List.set_cons_zero, List.set_cons_succ])
  obtain ⟨ip, zp, ip1, ip2, ip3, ip4, ip5⟩ := info_rput
  refine wpAnyU_ready (rs := [1, 13]) (by kernel_rfl) (by decide) ?_
  refine AllReadyU.cons rfl (fun K' hK => ?_) (AllReadyU.cons rfl (fun K' hK => ?_) AllReadyU.nil)
  · rw [if_pos (by rfl)]
    go_simp
    refine hK.out _ _ ⟨heap_up HS.1, heap_up HS.2⟩ (fun HS => ?_)
    clear hK K'
    (try simp only [Act.put, List.getElem_toArray, List.getElem_cons_zero, List.getElem_cons_succ, List.setIfInBounds_toArray, List.set_cons_zero, List.set_cons_succ])
    refine wpAnyU_ready (rs := [6, 13]) (by kernel_rfl) (by decide) ?_
    refine AllReadyU.cons rfl (fun K' hK => ?_) (AllReadyU.cons rfl (fun K' hK => ?_) AllReadyU.nil)
    · rw [if_pos (by rfl)]
      refine op_append_puts _ _ rfl wy.heap.size _ 0 [] rfl (own_empty_p wy _ _) ra k rc (fun i => p4 (F i) (T i) (S i) (At i)) (fun _ => rfl) HMA.out rfl (rowsP_of (rowsT_kept HR.out (below_then hby (below_new wy _)))) HRZ.out (by omega) (by omega) (by simp) (fun v8 w8 ho8 hg8 => ?_)
      rw [Nat.zero_add, List.nil_append] at ho8
      have hb8v : Below wy.heap.size wy w8 := (below_new wy _).grown hg8 (by simp) (fun j e => by have e : wy.heap.size = j := Option.some.inj e; omega)
      refine hK.out _ _ ⟨Ytfgcjgabknoamaa.kept hb8v HS0.out.1, Ytfgcjgabknoamaa.kept hb8v HS0.out.2⟩ (fun HS => ?_)
      clear hK K'
      (try simp only [Act.put, List.getElem_toArray, List.getElem_cons_zero, List.getElem_cons_succ, List.setIfInBounds_toArray, List.set_cons_zero, List.set_cons_succ])
      (refine wpAnyU_ready (rs := [13]) (by kernel_rfl) (by decide) ?_); (refine AllReadyU.cons rfl (fun K' hK => ?_) AllReadyU.nil); (rw [if_pos (by rfl)])
      refine op_slice1 46 65 _ rfl (p4 f t (.slice s0 n sc) now) rfl rfl ip zp Try.underlying46 ip1 ip2 ip3 ip5 (hK.out _ _ ⟨heap_up HS.1, heap_up HS.2⟩ (fun HS => ?_))
      clear hK K'
      (try simp only [Act.put, List.getElem_toArray, List.getElem_cons_zero, List.getElem_cons_succ, List.setIfInBounds_toArray, List.set_cons_zero, List.set_cons_succ])
      obtain ⟨gs, hgs0⟩ : ∃ gs, gs = w8.heap.size := ⟨_, rfl⟩
      have hgs : (w8.alloc (Obj.cells (p4 f t (.slice s0 n sc) now) 65)).heap[gs]? = some (.cells (p4 f t (.slice s0 n sc) now) 65 (0, 0)) := by rw [hgs0]; exact heap_alloc_new _ _
      rw [← hgs0]
      clear hgs0
      have ho8 := ho8.alloc (Obj.cells (p4 f t (.slice s0 n sc) now) 65)
      have hbE := below_alloc hb8v (Obj.cells (p4 f t (.slice s0 n sc) now) 65)
      obtain ⟨wE, hwE⟩ : ∃ wE, wE = w8.alloc (Obj.cells (p4 f t (.slice s0 n sc) now) 65) := ⟨_, rfl⟩
      rw [← hwE] at hgs ho8 hbE HS ⊢
      clear hwE hg8 hb8v
      obtain ⟨b8, hb8e⟩ : ∃ b8, b8 = wy.heap.size := ⟨_, rfl⟩
      rw [← hb8e] at ho8
      have hb8y : wy.heap.size ≤ b8 := by omega
      have hb8 : b8 ≤ wE.heap.size := by have := hbE.size; omega
      clear hb8e
      (refine wpAnyU_ready (rs := [14]) (by kernel_rfl) (by decide) ?_); (refine AllReadyU.cons rfl (fun K' hK => ?_) AllReadyU.nil); (rw [if_pos (by rfl)])
      refine op_append_puts _ _ rfl b8 v8 k _ rfl ho8 (some ⟨gs, 0, none⟩) 1 1 (fun _ => p4 f t (.slice s0 n sc) now) (fun _ => rfl) (fun _ => p4_all) rfl (rowsP_one hgs rfl) (fun h => by cases h) (by omega) (by omega) hb8 (fun v9 w9 ho9 hg9 => ?_)
      rw [show flat (fun _ => p4 f t (.slice s0 n sc) now) 1 = (p4 f t (.slice s0 n sc) now).toList from by simp [flat]] at ho9
      have hb9 : Below wy.heap.size wy w9 := hbE.grown hg9 (by have := hbE.size; omega) (fun j e => by have := (ho8.lt j e).1; omega)
      refine hK.out _ _ ⟨Ytfgcjgabknoamaa.kept hb9 HS0.out.1, Ytfgcjgabknoamaa.kept hb9 HS0.out.2⟩ (fun HS => ?_)
      clear hK K'
      (try simp only [Act.put, List.getElem_toArray, List.getElem_cons_zero, List.getElem_cons_succ, List.setIfInBounds_toArray, List.set_cons_zero, List.set_cons_succ])
      obtain ⟨a9, c9, rfl⟩ := own_form ho9
      have hfin := rsend_fin HN.out (below_then hby hb9) (hsv.kept hb9) hn hk (by omega) ho9
      have hg9' := HS.1
      have c9g := cellF hg9'
      have f9g := (cells_of hg9').2.1
      have HFIN := Lib.hid hfin
      clear hfin hg9'
      (refine wpAnyU_ready (rs := [15]) (by kernel_rfl) (by decide) ?_); (refine AllReadyU.cons rfl (fun K' hK => ?_) AllReadyU.nil); (rw [if_pos (by rfl)])
      go_simp
      refine hK.out _ _ HS (fun HS => ?_)
      clear hK K'
      (try simp only [Act.put, List.getElem_toArray, List.getElem_cons_zero, List.getElem_cons_succ, List.setIfInBounds_toArray, List.set_cons_zero, List.set_cons_succ])
      (refine wpAnyU_ready (rs := [16]) (by kernel_rfl) (by decide) ?_); (refine AllReadyU.cons rfl (fun K' hK => ?_) AllReadyU.nil); (rw [if_pos (by rfl)])
      go_simp
      refine hK.out _ _ HS (fun HS => ?_)
      clear hK K'
      (try simp only [Act.put, List.getElem_toArray, List.getElem_cons_zero, List.getElem_cons_succ, List.setIfInBounds_toArray, List.set_cons_zero, List.set_cons_succ])
      refine wpAnyU_last (by kernel_rfl) rfl (fun K' hK => ?_)
      rw [if_pos (by rfl)]
      go_simp
      refine hK.out _ _ ?_
      clear hK K' c9g f9g
      refine wpAnyU_done (by kernel_rfl) ?_ _
      go_wp2
      go_ret
      exact ⟨.slice s0 n sc, .slice a9 (k + 1) c9, rfl, HFIN.out.1, HFIN.out.2.1, HFIN.out.2.2.1, HFIN.out.2.2.2, HFR.out⟩
    · rw [if_pos (by rfl)]
      refine op_slice1 46 65 _ rfl (p4 f t (.slice s0 n sc) now) rfl rfl ip zp Try.underlying46 ip1 ip2 ip3 ip5 (hK.out _ _ ⟨heap_up HS.1, heap_up HS.2⟩ (fun HS => ?_))
      clear hK K'
      (try simp only [Act.put, List.getElem_toArray, List.getElem_cons_zero, List.getElem_cons_succ, List.setIfInBounds_toArray, List.set_cons_zero, List.set_cons_succ])
      obtain ⟨gs, hgs0⟩ : ∃ gs, gs = (wy.alloc (Obj.cells #[] 65)).heap.size := ⟨_, rfl⟩
      have hgsv : ((wy.alloc (Obj.cells #[] 65)).alloc (Obj.cells (p4 f t (.slice s0 n sc) now) 65)).heap[gs]? = some (.cells (p4 f t (.slice s0 n sc) now) 65 (0, 0)) := by rw [hgs0]; exact heap_alloc_new _ _
      have hgse : gs = wy.heap.size + 1 := by rw [hgs0]; simp
      rw [← hgs0]
      clear hgs0
      (refine wpAnyU_ready (rs := [6]) (by kernel_rfl) (by decide) ?_); (refine AllReadyU.cons rfl (fun K' hK => ?_) AllReadyU.nil); (rw [if_pos (by rfl)])
      refine op_append_puts _ _ rfl wy.heap.size _ 0 [] rfl ((own_empty_p wy _ _).alloc _) ra k rc (fun i => p4 (F i) (T i) (S i) (At i)) (fun _ => rfl) HMA.out rfl (rowsP_of (rowsT_kept HR.out (below_then hby (below_alloc (below_new wy _) _)))) HRZ.out (by omega) (by omega) (by simp; omega) (fun v8 wE ho8 hg8 => ?_)
      rw [Nat.zero_add, List.nil_append] at ho8
      have hbE : Below wy.heap.size wy wE := (below_alloc (below_new wy _) _).grown hg8 (by simp; omega) (fun j e => by have e : wy.heap.size = j := Option.some.inj e; omega)
      have hgs := (hg8.block gs (by simp; omega) (fun e => by injection e with e; have e : gs = wy.heap.size := e; omega)).trans hgsv
      refine hK.out _ _ ⟨Ytfgcjgabknoamaa.kept hbE HS0.out.1, Ytfgcjgabknoamaa.kept hbE HS0.out.2⟩ (fun HS => ?_)
      clear hK K' hgsv hgse hg8
      (try simp only [Act.put, List.getElem_toArray, List.getElem_cons_zero, List.getElem_cons_succ, List.setIfInBounds_toArray, List.set_cons_zero, List.set_cons_succ])
      obtain ⟨b8, hb8e⟩ : ∃ b8, b8 = wy.heap.size := ⟨_, rfl⟩
      rw [← hb8e] at ho8
      have hb8y : wy.heap.size ≤ b8 := by omega
      have hb8 : b8 ≤ wE.heap.size := by have := hbE.size; omega
      clear hb8e
      (refine wpAnyU_ready (rs := [14]) (by kernel_rfl) (by decide) ?_); (refine AllReadyU.cons rfl (fun K' hK => ?_) AllReadyU.nil); (rw [if_pos (by rfl)])
      refine op_append_puts _ _ rfl b8 v8 k _ rfl ho8 (some ⟨gs, 0, none⟩) 1 1 (fun _ => p4 f t (.slice s0 n sc) now) (fun _ => rfl) (fun _ => p4_all) rfl (rowsP_one hgs rfl) (fun h => by cases h) (by omega) (by omega) hb8 (fun v9 w9 ho9 hg9 => ?_)
      rw [show flat (fun _ => p4 f t (.slice s0 n sc) now) 1 = (p4 f t (.slice s0 n sc) now).toList from by simp [flat]] at ho9
      have hb9 : Below wy.heap.size wy w9 := hbE.grown hg9 (by have := hbE.size; omega) (fun j e => by have := (ho8.lt j e).1; omega)
      refine hK.out _ _ ⟨Ytfgcjgabknoamaa.kept hb9 HS0.out.1, Ytfgcjgabknoamaa.kept hb9 HS0.out.2⟩ (fun HS => ?_)
      clear hK K'
      (try simp only [Act.put, List.getElem_toArray, List.getElem_cons_zero, List.getElem_cons_succ, List.setIfInBounds_toArray, List.set_cons_zero, List.set_cons_succ])
      obtain ⟨a9, c9, rfl⟩ := own_form ho9
      have hfin := rsend_fin HN.out (below_then hby hb9) (hsv.kept hb9) hn hk (by omega) ho9
      have hg9' := HS.1
      have c9g := cellF hg9'
      have f9g := (cells_of hg9').2.1
      have HFIN := Lib.hid hfin
      clear hfin hg9'
      (refine wpAnyU_ready (rs := [15]) (by kernel_rfl) (by decide) ?_); (refine AllReadyU.cons rfl (fun K' hK => ?_) AllReadyU.nil); (rw [if_pos (by rfl)])
      go_simp
      refine hK.out _ _ HS (fun HS => ?_)
      clear hK K'
      (try simp only [Act.put, List.getElem_toArray, List.getElem_cons_zero, List.getElem_cons_succ, List.setIfInBounds_toArray, List.set_cons_zero, List.set_cons_succ])
      (refine wpAnyU_ready (rs := [16]) (by kernel_rfl) (by decide) ?_); (refine AllReadyU.cons rfl (fun K' hK => ?_) AllReadyU.nil); (rw [if_pos (by rfl)])
      go_simp
      refine hK.out _ _ HS (fun HS => ?_)
      clear hK K'
      (try simp only [Act.put, List.getElem_toArray, List.getElem_cons_zero, List.getElem_cons_succ, List.setIfInBounds_toArray, List.set_cons_zero, List.set_cons_succ])
      refine wpAnyU_last (by kernel_rfl) rfl (fun K' hK => ?_)
      rw [if_pos (by rfl)]
      go_simp
      refine hK.out _ _ ?_
      clear hK K' c9g f9g
      refine wpAnyU_done (by kernel_rfl) ?_ _
      go_wp2
      go_ret
      exact ⟨.slice s0 n sc, .slice a9 (k + 1) c9, rfl, HFIN.out.1, HFIN.out.2.1, HFIN.out.2.2.1, HFIN.out.2.2.2, HFR.out⟩
  · rw [if_pos (by rfl)]
    refine op_slice1 46 65 _ rfl (p4 f t (.slice s0 n sc) now) rfl rfl ip zp Try.underlying46 ip1 ip2 ip3 ip5 (hK.out _ _ ⟨heap_up HS.1, heap_up HS.2⟩ (fun HS => ?_))
    clear hK K'
    (try simp only [Act.put, List.getElem_toArray, List.getElem_cons_zero, List.getElem_cons_succ, List.setIfInBounds_toArray, List.set_cons_zero, List.set_cons_succ])
    obtain ⟨gs, hgs0⟩ : ∃ gs, gs = wy.heap.size := ⟨_, rfl⟩
    have hgs1 : (wy.alloc (Obj.cells (p4 f t (.slice s0 n sc) now) 65)).heap[gs]? = some (.cells (p4 f t (.slice s0 n sc) now) 65 (0, 0)) := by rw [hgs0]; exact heap_alloc_new _ _
    rw [← hgs0]
    have HGS := Lib.hid hgs0
    clear hgs0
    (refine wpAnyU_ready (rs := [1]) (by kernel_rfl) (by decide) ?_); (refine AllReadyU.cons rfl (fun K' hK => ?_) AllReadyU.nil); (rw [if_pos (by rfl)])
    go_simp
    refine hK.out _ _ ⟨heap_up HS.1, heap_up HS.2⟩ (fun HS => ?_)
    clear hK K'
    (try simp only [Act.put, List.getElem_toArray, List.getElem_cons_zero, List.getElem_cons_succ, List.setIfInBounds_toArray, List.set_cons_zero, List.set_cons_succ])
    have ho0 := own_empty_p (wy.alloc (Obj.cells (p4 f t (.slice s0 n sc) now) 65)) 65 4
    rw [show (wy.alloc (Obj.cells (p4 f t (.slice s0 n sc) now) 65)).heap.size = wy.heap.size + 1 by simp] at ho0
    (refine wpAnyU_ready (rs := [6]) (by kernel_rfl) (by decide) ?_); (refine AllReadyU.cons rfl (fun K' hK => ?_) AllReadyU.nil); (rw [if_pos (by rfl)])
    refine op_append_puts _ _ rfl (wy.heap.size + 1) _ 0 [] rfl ho0 ra k rc (fun i => p4 (F i) (T i) (S i) (At i)) (fun _ => rfl) HMA.out rfl (rowsP_of (rowsT_kept HR.out (below_then hby (below_alloc (below_new wy _) _)))) HRZ.out (by omega) (by omega) (by simp; try omega) (fun v8 wE ho8 hg8 => ?_)
    rw [Nat.zero_add, List.nil_append] at ho8
    have hbE : Below wy.heap.size wy wE := (below_alloc (below_new wy _) _).grown hg8 (by simp; omega) (fun j e => by have e : wy.heap.size + 1 = j := Option.some.inj e; omega)
    have hgs := (hg8.block gs (by rw [HGS.out]; simp; omega) (fun e => by injection e with e; have e : gs = wy.heap.size + 1 := e; have := HGS.out; omega)).trans (heap_up hgs1)
    have h8s := hg8.size
    rw [show ((wy.alloc (Obj.cells (p4 f t (.slice s0 n sc) now) 65)).alloc (Obj.cells #[] 65)).heap.size = wy.heap.size + 2 by simp] at h8s
    refine hK.out _ _ ⟨Ytfgcjgabknoamaa.kept hbE HS0.out.1, Ytfgcjgabknoamaa.kept hbE HS0.out.2⟩ (fun HS => ?_)
    clear hK K' hgs1 ho0 hg8
    (try simp only [Act.put, List.getElem_toArray, List.getElem_cons_zero, List.getElem_cons_succ, List.setIfInBounds_toArray, List.set_cons_zero, List.set_cons_succ])
    obtain ⟨b8, hb8e⟩ : ∃ b8, b8 = wy.heap.size + 1 := ⟨_, rfl⟩
    rw [← hb8e] at ho8
    have hb8y : wy.heap.size ≤ b8 := by omega
    have hb8 : b8 ≤ wE.heap.size := by omega
    clear hb8e h8s
    (refine wpAnyU_ready (rs := [14]) (by kernel_rfl) (by decide) ?_); (refine AllReadyU.cons rfl (fun K' hK => ?_) AllReadyU.nil); (rw [if_pos (by rfl)])
    refine op_append_puts _ _ rfl b8 v8 k _ rfl ho8 (some ⟨gs, 0, none⟩) 1 1 (fun _ => p4 f t (.slice s0 n sc) now) (fun _ => rfl) (fun _ => p4_all) rfl (rowsP_one hgs rfl) (fun h => by cases h) (by omega) (by omega) hb8 (fun v9 w9 ho9 hg9 => ?_)
    rw [show flat (fun _ => p4 f t (.slice s0 n sc) now) 1 = (p4 f t (.slice s0 n sc) now).toList from by simp [flat]] at ho9
    have hb9 : Below wy.heap.size wy w9 := hbE.grown hg9 (by have := hbE.size; omega) (fun j e => by have := (ho8.lt j e).1; omega)
    refine hK.out _ _ ⟨Ytfgcjgabknoamaa.kept hb9 HS0.out.1, Ytfgcjgabknoamaa.kept hb9 HS0.out.2⟩ (fun HS => ?_)
    clear hK K'
    (try simp only [Act.put, List.getElem_toArray, List.getElem_cons_zero, List.getElem_cons_succ, List.setIfInBounds_toArray, List.set_cons_zero, List.set_cons_succ])
    obtain ⟨a9, c9, rfl⟩ := own_form ho9
    have hfin := rsend_fin HN.out (below_then hby hb9) (hsv.kept hb9) hn hk (by omega) ho9
    have hg9' := HS.1
    have c9g := cellF hg9'
    have f9g := (cells_of hg9').2.1
    have HFIN := Lib.hid hfin
    clear hfin hg9'
    (refine wpAnyU_ready (rs := [15]) (by kernel_rfl) (by decide) ?_); (refine AllReadyU.cons rfl (fun K' hK => ?_) AllReadyU.nil); (rw [if_pos (by rfl)])
    go_simp
    refine hK.out _ _ HS (fun HS => ?_)
    clear hK K'
    (try simp only [Act.put, List.getElem_toArray, List.getElem_cons_zero, List.getElem_cons_succ, List.setIfInBounds_toArray, List.set_cons_zero, List.set_cons_succ])
    (refine wpAnyU_ready (rs := [16]) (by kernel_rfl) (by decide) ?_); (refine AllReadyU.cons rfl (fun K' hK => ?_) AllReadyU.nil); (rw [if_pos (by rfl)])
    go_simp
    refine hK.out _ _ HS (fun HS => ?_)
    clear hK K'
    (try simp only [Act.put, List.getElem_toArray, List.getElem_cons_zero, List.getElem_cons_succ, List.setIfInBounds_toArray, List.set_cons_zero, List.set_cons_succ])
    refine wpAnyU_last (by kernel_rfl) rfl (fun K' hK => ?_)
    rw [if_pos (by rfl)]
    go_simp
    refine hK.out _ _ ?_
    clear hK K' c9g f9g
    refine wpAnyU_done (by kernel_rfl) ?_ _
    go_wp2
    go_ret
    exact ⟨.slice s0 n sc, .slice a9 (k + 1) c9, rfl, HFIN.out.1, HFIN.out.2.1, HFIN.out.2.2.1, HFIN.out.2.2.2, HFR.out⟩
end Go.Proofs.Ytfgcjgabknoamaa
