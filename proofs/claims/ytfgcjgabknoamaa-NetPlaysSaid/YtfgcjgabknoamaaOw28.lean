/- net's Mail: the bytes that come out are one's own, and may be written over. Condition: the net is one. -/
import Derived.Test.YtfgcjgabknoamaaMailF
import Derived.Test.YtfgcjgabknoamaaKg
import Derived.Test.YtfgcjgabknoamaaRp28
namespace Go.Proofs.Ytfgcjgabknoamaa
set_option linter.unusedVariables false
set_option linter.unusedSimpArgs false
open Go.RowKit

set_option maxHeartbeats 1000000 in
theorem clone_ow (a : Option Addr) (n c : Nat) (X : Nat → Int) (w : World) (hX : Byt w a n X) (hn : n ≤ 100000000) (hz : a = none → n = 0 ∧ c = 0) :
    Calls Try.prog 34 #[.slice a n c] w fun e w' => ∃ v', e = .returned v' ∧ w'.ownsRow w.heap.size 5 1 v' n (bl X n) ∧ Below w.heap.size w w' := by
  have q22 : ∀ (w : World) (a : Option Addr) (n c n' c' : Nat), (binOp .eql 22 (.slice a n c) (.slice none n' c')).run Try.prog w = .ok (.bool a.isNone) w := fun w a n c n' c' => Lib.run_eql_slice_nil w _ _ a n c n' c' Try.underlying22
  cases a with
  | none =>
    obtain ⟨rfl, rfl⟩ := hz rfl
    go_enter Try.func34, Try.ntmps34
    go_wp2
    go_ret
    exact ⟨_, rfl, World.ownsRow_nil _ _ _ _, Below.refl _ _⟩
  | some ad =>
    obtain ⟨i, z, h1, h2, h3, h4, h5⟩ := info_u8
    have hown := (World.ownsRow_made w #[] 0 (e := 5) (size := 1) (base := w.heap.size) (Nat.le_refl _) (Nat.zero_le _) rfl)
    have hcell : ∀ j u, (bl X n)[j]? = some u → (w.alloc (.cells #[] 5)).cell? (ad.add j) = some u := fun j u hj => by
      have hjn : j < n := by rw [← bl_len X n]; exact (List.getElem?_eq_some_iff.1 hj).1
      obtain ⟨g, off, A, t, fr, ha, hg, hA⟩ := hX j hjn
      injection ha with ha
      subst ha
      have hadd : (⟨g, off, none⟩ : Addr).add j = ⟨g, off + j, none⟩ := by unfold Addr.add; split <;> simp_all
      rw [hadd, cellF (heap_up hg), hA, ← hj, bl_at X hjn]
    go_enter Try.func34, Try.ntmps34
    go_wp2_with ((with_reducible refine at_append 22 ?_); refine wpList_append_own _ rfl _ _ _ rfl w.heap.size 5 i z 1 1 Try.underlying22 h1 h2 h3 h4 h5 (by omega) _ 0 [] rfl hown ad n c (bl X n) rfl (by rw [bl_len]; omega) hcell (bl_one X n) (by unfold maxLen; omega) (by omega) (by simp) ?_; intro v' w' ho hg hnil)
    go_ret
    rw [Nat.zero_add, List.nil_append] at ho
    exact ⟨_, rfl, ho, (below_new _ _).grown hg (by simp) (fun k hk => by have := (hown.lt k hk).1; omega)⟩

set_option maxRecDepth 100000 in
set_option maxHeartbeats 1000000 in
theorem own_ow (f t : Int) (a : Option Addr) (n c : Nat) (X : Nat → Int) (w : World) (hX : Byt w a n X) (hn : n ≤ 100000000) (hz : a = none → n = 0 ∧ c = 0) :
    Calls Try.prog 26 #[.agg (m3 f t (.slice a n c))] w fun e w' => ∃ v', e = .returned (.agg (m3 f t v')) ∧ w'.ownsRow w.heap.size 5 1 v' n (bl X n) ∧ Below w.heap.size w w' := by
  have hX2 := (hX.kept (below_new w (Obj.cells (m3 f t (.slice a n c)) 24))).kept (below_new _ (Obj.cells (m3 0 0 (.slice none 0 0)) 24))
  have cc := clone_ow a n c X _ hX2 hn hz
  have H3 := Lib.hid (show ∀ f t v, (m3 f t v).size = 3 from fun _ _ _ => rfl)
  have h2 : (m3 f t (.slice a n c))[2]? = some (.slice a n c) := rfl
  have hset : ∀ v, (m3 f t (.slice a n c)).setIfInBounds 2 v = m3 f t v := fun v => rfl
  have HSET := Lib.hid hset
  clear hset
  have hg1 := heap_up (o := Obj.cells (m3 0 0 (.slice none 0 0)) 24) (heap_alloc_new w (Obj.cells (m3 f t (.slice a n c)) 24))
  have hg2 := heap_alloc2_new w (Obj.cells (m3 f t (.slice a n c)) 24) (Obj.cells (m3 0 0 (.slice none 0 0)) 24)
  have hb2 := below_alloc (below_new w (Obj.cells (m3 f t (.slice a n c)) 24)) (Obj.cells (m3 0 0 (.slice none 0 0)) 24)
  generalize hM : m3 f t (.slice a n c) = M at *
  generalize hM0 : m3 0 0 (.slice none 0 0) = M0 at *
  have HM0 := Lib.hid hM0
  have HMs := Lib.hid (show M.size = 3 by rw [← hM]; rfl)
  have HM0s := Lib.hid (show M0.size = 3 by rw [← hM0]; rfl)
  clear hM hM0
  obtain ⟨cg, fg, _⟩ := cells_of hg1
  go_enter Try.func26, Try.ntmps26
  go_wp2_with (first | ((with_reducible refine at_alloc 24 ?_); refine wpList_alloc_named rfl 24 rfl M0 (by rw [← HM0.out]; kernel_rfl) ?_) | (go_at_call 34; (with_reducible refine cc.mono ?_); rintro e w1 ⟨v', rfl, hv1, hb1⟩; obtain ⟨a', c', rfl⟩ := own_form hv1; have hg11 := Ytfgcjgabknoamaa.kept hb1 hg1; have hg21 := Ytfgcjgabknoamaa.kept hb1 hg2; obtain ⟨cg1, fg1, _⟩ := cells_of hg11; have hg12 := heap_set (i := 2) (v := .slice a' n c') hg11; have hg22 := heap_set_other (g := w.heap.size) (i := 2) (v := .slice a' n c') hg21 (by omega); rw [HSET.out] at hg12; have HS3 := Lib.hid (extract_all (H3.out f t (.slice a' n c')))) | ((with_reducible refine at_load 24 ?_); refine wpList_load_part rfl 24 _ rfl (w.heap.size) (0) rfl _ (m3 f t (.slice a' n c')) _ _ 3 (hg12) Try.underlying24 rfl (by kernel_rfl) (by rw [H3.out]; omega) (m3 f t (.slice a' n c')) (HS3.out) ?_) | ((with_reducible refine at_store 24 ?_); refine wpList_store_over rfl 24 _ _ rfl (w.heap.size + 1) (m3 f t (.slice a' n c')) rfl rfl _ _ (hg22) (by rw [H3.out]; kernel_rfl) (by rw [H3.out]; exact HM0s.out) (m3_all) ?_; intro w3 hg3 hs3 ho3 hb3))
  have hB1 := below_set (g := w.heap.size) (i := 2) (v := .slice a' n c') (below_then hb2 hb1) (Nat.le_refl _)
  have hv2 := ownsRow_setCell_other hv1 (a := ⟨w.heap.size, 2, none⟩) (fun e => by have h := (hv1.lt _ e).1; simp at h; omega) (.slice a' n c')
  have hv3 := own_weak (own_other hv2 ho3 (fun e => by have h := (hv2.lt _ e.symm).1; simp at h; try omega)) (show w.heap.size ≤ _ by simp; omega)
  exact bodyPost_ret (results_cell_any rfl _ _ _ _ _ _ rfl hg3 Try.underlying24 rfl (by rw [H3.out]; kernel_rfl)) rfl ⟨_, rfl, hv3, hB1.trans (hb3 _ (by omega))⟩
set_option maxRecDepth 100000 in
set_option maxHeartbeats 1000000 in
theorem mail_ow (g base k : Nat) (F T Ag : Nat → Int) (S : Nat → Value) (Ln : Nat → Nat) (X : Nat → Nat → Int) (i : Nat) (w : World) (hN : NetIs w g base k F T Ag S Ln X) (hi : i < k) :
    Calls Try.prog 15 #[.pointer (some ⟨g, 0, none⟩), .int .i64 i] w fun e w' => ∃ v', e = .returned (.tuple #[.agg (m3 (F i) (T i) v'), .int .u64 (Ag i), .int .i64 0]) ∧ w'.ownsRow w.heap.size 5 1 v' (Ln i) (bl (X i) (Ln i)) ∧ Below w.heap.size w w' := by
  obtain ⟨v, hg, hrow⟩ := hN.row
  obtain ⟨ra, rc, rfl, hR, _⟩ := own_rows (c := 4) (fun i => rfl) hrow
  obtain ⟨gb, off, A, fr, rfl, hgA, hszA, hexA⟩ := hR i hi
  have hex : A.extract (off + i * 4) (off + i * 4 + 4) = p4 (F i) (T i) (S i) (Ag i) := hexA
  obtain ⟨sa, sc, hS, hv1, _, hv3, _⟩ := id (hN.by_ i hi)
  have hby := hN.by_ i hi
  rw [hS] at hex hby
  have hln := hN.lg i hi
  have hbw := below_new w (Obj.cells (m3 0 0 (.slice none 0 0)) 24)
  have CO := Lib.hid (fun wx (hx : Byt wx sa (Ln i) (X i)) => own_ow (F i) (T i) sa (Ln i) sc (X i) wx hx (by omega) hv3)
  have hYq := (hby.byt).kept hbw
  have cat := nat_any g base k F T Ag S Ln X i (w.alloc (Obj.cells (m3 0 0 (.slice none 0 0)) 24)) (hN.kept hbw)
  have hk2 := hN.hk
  rw [show atE k i = 0 by unfold atE; rw [if_pos (by omega)]] at cat
  have hc3 : A[off + i * 4 + 3]? = some (.int .u64 (Ag i)) := by
    have h := congrArg (fun B : Array Value => B[3]?) hex
    simp only [Array.getElem?_extract] at h
    rw [if_pos (by omega)] at h
    exact h
  have HX := Lib.hid (show A.extract (off + i * 4) (off + i * 4 + 3) = m3 (F i) (T i) (.slice sa (Ln i) sc) from by
    have h := congrArg (fun B : Array Value => B.extract 0 3) hex
    simp only [Array.extract_extract] at h
    rw [show min (off + i * 4 + 3) (off + i * 4 + 4) = off + i * 4 + 3 by omega] at h
    exact h)
  clear hN hby hex hexA hR hrow hS hv1
  generalize F i = fi at *
  generalize T i = ti at *
  generalize Ag i = agi at *
  generalize Ln i = n at *
  generalize X i = Y at *
  have hgq := heap_up (o := Obj.cells (m3 0 0 (.slice none 0 0)) 24) hg
  have hrb := heap_up (o := Obj.cells (m3 0 0 (.slice none 0 0)) 24) hgA
  have hcq := heap_alloc_new w (Obj.cells (m3 0 0 (.slice none 0 0)) 24)
  have hBq := hbw
  clear hbw
  generalize hM0 : m3 0 0 (.slice none 0 0) = M0 at *
  have HM0 := Lib.hid hM0
  clear hM0
  go_enter Try.func15, Try.ntmps15
  go_wp2_with (first | ((with_reducible refine at_alloc 24 ?_); refine wpList_alloc_named rfl 24 rfl M0 (by rw [← HM0.out]; kernel_rfl) ?_) | ((go_at_call 27; (with_reducible refine (cat).mono ?_); rintro e w1 ⟨rfl, rfl⟩)))
  refine wp_region_held (S := fun wt => wt.heap[g]? = some (.cells #[.slice (some ⟨gb, off, none⟩) k rc] 56 (0, 0)) ∧ wt.heap[gb]? = some (.cells A 60 fr)) (by kernel_rfl) ?_
  change wpAnyH _ _ _ _ _ _ _ _ (World.drew _)
  obtain ⟨wq, hwq⟩ : ∃ wq, wq = (w.alloc (Obj.cells M0 24)).drew := ⟨_, rfl⟩
  have hgq1 : wq.heap[g]? = some (.cells #[.slice (some ⟨gb, off, none⟩) k rc] 56 (0, 0)) := by rw [hwq]; exact hgq
  have hrb1 : wq.heap[gb]? = some (.cells A 60 fr) := by rw [hwq]; exact hrb
  have hcq1 : wq.heap[w.heap.size]? = some (.cells M0 24 (0, 0)) := by rw [hwq]; exact hcq
  have hYq1 : Byt wq sa n Y := by rw [hwq]; exact hYq
  have hBq1 : Below w.heap.size w wq := by rw [hwq]; exact Below.drew hBq
  rw [← hwq]
  clear hgq hrb hcq hYq hBq hwq cat hg hgA
  have hgq := hgq1
  have hrb := hrb1
  have hcq := hcq1
  have hYq := hYq1
  have hBq := hBq1
  clear hgq1 hrb1 hcq1 hYq1 hBq1
  have HS : wq.heap[g]? = some (.cells #[.slice (some ⟨gb, off, none⟩) k rc] 56 (0, 0)) ∧ wq.heap[gb]? = some (.cells A 60 fr) := ⟨hgq, hrb⟩
  (refine wpAnyH_take (i := 0) (v := ?_) rfl (by kernel_rfl) (by kernel_rfl) (by kernel_rfl) (fun _ _ _ h => h) (Or.inl ⟨by rfl, ?ht_0⟩) HS ?_); (case ht_0 => (intro wt hS; go_simp; try with_reducible rfl)); (try simp only [Act.put, List.getElem_toArray, List.getElem_cons_zero, List.getElem_cons_succ, List.setIfInBounds_toArray, List.set_cons_zero, List.set_cons_succ]); (refine wpAnyH_take (i := 1) (v := ?_) rfl (by kernel_rfl) (by kernel_rfl) (by kernel_rfl) (fun _ _ _ h => h) (Or.inl ⟨by rfl, ?ht_1⟩) HS ?_); (case ht_1 => (intro wt hS; go_simp; try with_reducible rfl)); (try simp only [Act.put, List.getElem_toArray, List.getElem_cons_zero, List.getElem_cons_succ, List.setIfInBounds_toArray, List.set_cons_zero, List.set_cons_succ]); (refine wpAnyH_take (i := 2) (v := ?_) rfl (by kernel_rfl) (by kernel_rfl) (by kernel_rfl) (fun _ _ _ h => h) (Or.inl ⟨by rfl, ?ht_2⟩) HS ?_); (case ht_2 => (intro wt hS; go_simp; try with_reducible rfl)); (try simp only [Act.put, List.getElem_toArray, List.getElem_cons_zero, List.getElem_cons_succ, List.setIfInBounds_toArray, List.set_cons_zero, List.set_cons_succ])
  (refine wpAnyH_take (i := 3) (v := ?_) rfl (by kernel_rfl) (by kernel_rfl) (by kernel_rfl) (fun _ _ _ h => h) (Or.inl ⟨by rfl, ?ht_3⟩) HS ?_); (case ht_3 => (intro wt hS; have cg := cellF hS.1; go_simp; try with_reducible rfl)); (try simp only [Act.put, List.getElem_toArray, List.getElem_cons_zero, List.getElem_cons_succ, List.setIfInBounds_toArray, List.set_cons_zero, List.set_cons_succ])
  (refine wpAnyH_take (i := 4) (v := ?_) rfl (by kernel_rfl) (by kernel_rfl) (by kernel_rfl) (fun _ _ _ h => h) (Or.inl ⟨by rfl, ?ht_4⟩) HS ?_); (case ht_4 => (intro wt hS; go_simp; try with_reducible rfl)); (try simp only [Act.put, List.getElem_toArray, List.getElem_cons_zero, List.getElem_cons_succ, List.setIfInBounds_toArray, List.set_cons_zero, List.set_cons_succ]); (refine wpAnyH_take (i := 5) (v := ?_) rfl (by kernel_rfl) (by kernel_rfl) (by kernel_rfl) (fun _ _ _ h => h) (Or.inl ⟨by rfl, ?ht_5⟩) HS ?_); (case ht_5 => (intro wt hS; go_simp; try with_reducible rfl)); (try simp only [Act.put, List.getElem_toArray, List.getElem_cons_zero, List.getElem_cons_succ, List.setIfInBounds_toArray, List.set_cons_zero, List.set_cons_succ]); (refine wpAnyH_take (i := 6) (v := ?_) rfl (by kernel_rfl) (by kernel_rfl) (by kernel_rfl) (fun _ _ _ h => h) (Or.inl ⟨by rfl, ?ht_6⟩) HS ?_); (case ht_6 => (intro wt hS; go_simp; try with_reducible rfl)); (try simp only [Act.put, List.getElem_toArray, List.getElem_cons_zero, List.getElem_cons_succ, List.setIfInBounds_toArray, List.set_cons_zero, List.set_cons_succ])
  (refine wpAnyH_take (i := 7) (v := .agg (m3 fi ti (.slice sa n sc))) rfl (by kernel_rfl) (by kernel_rfl) (by kernel_rfl) (fun _ _ _ h => h) (Or.inl ⟨by rfl, ?ht_7⟩) HS ?_); (case ht_7 => (intro wt hS; exact exec_load_part 24 _ rfl gb (off + i * 4) (by rfl) _ A _ _ 3 hS.2 Try.underlying24 rfl (by kernel_rfl) (by omega) _ HX.out)); (try simp only [Act.put, List.getElem_toArray, List.getElem_cons_zero, List.getElem_cons_succ, List.setIfInBounds_toArray, List.set_cons_zero, List.set_cons_succ])
  (refine wpAnyH_take (i := 9) (v := ?_) rfl (by kernel_rfl) (by kernel_rfl) (by kernel_rfl) (fun _ _ _ h => h) (Or.inl ⟨by rfl, ?ht_9⟩) HS ?_); (case ht_9 => (intro wt hS; go_simp; try with_reducible rfl)); (try simp only [Act.put, List.getElem_toArray, List.getElem_cons_zero, List.getElem_cons_succ, List.setIfInBounds_toArray, List.set_cons_zero, List.set_cons_succ]); (refine wpAnyH_take (i := 10) (v := ?_) rfl (by kernel_rfl) (by kernel_rfl) (by kernel_rfl) (fun _ _ _ h => h) (Or.inl ⟨by rfl, ?ht_10⟩) HS ?_); (case ht_10 => (intro wt hS; go_simp; try with_reducible rfl)); (try simp only [Act.put, List.getElem_toArray, List.getElem_cons_zero, List.getElem_cons_succ, List.setIfInBounds_toArray, List.set_cons_zero, List.set_cons_succ]); (refine wpAnyH_take (i := 11) (v := ?_) rfl (by kernel_rfl) (by kernel_rfl) (by kernel_rfl) (fun _ _ _ h => h) (Or.inl ⟨by rfl, ?ht_11⟩) HS ?_); (case ht_11 => (intro wt hS; go_simp; try with_reducible rfl)); (try simp only [Act.put, List.getElem_toArray, List.getElem_cons_zero, List.getElem_cons_succ, List.setIfInBounds_toArray, List.set_cons_zero, List.set_cons_succ])
  (refine wpAnyH_take (i := 12) (v := ?_) rfl (by kernel_rfl) (by kernel_rfl) (by kernel_rfl) (fun _ _ _ h => h) (Or.inl ⟨by rfl, ?ht_12⟩) HS ?_); (case ht_12 => (intro wt hS; have cg := cellF hS.1; go_simp; try with_reducible rfl)); (try simp only [Act.put, List.getElem_toArray, List.getElem_cons_zero, List.getElem_cons_succ, List.setIfInBounds_toArray, List.set_cons_zero, List.set_cons_succ])
  (refine wpAnyH_take (i := 13) (v := ?_) rfl (by kernel_rfl) (by kernel_rfl) (by kernel_rfl) (fun _ _ _ h => h) (Or.inl ⟨by rfl, ?ht_13⟩) HS ?_); (case ht_13 => (intro wt hS; go_simp; try with_reducible rfl)); (try simp only [Act.put, List.getElem_toArray, List.getElem_cons_zero, List.getElem_cons_succ, List.setIfInBounds_toArray, List.set_cons_zero, List.set_cons_succ]); (refine wpAnyH_take (i := 14) (v := ?_) rfl (by kernel_rfl) (by kernel_rfl) (by kernel_rfl) (fun _ _ _ h => h) (Or.inl ⟨by rfl, ?ht_14⟩) HS ?_); (case ht_14 => (intro wt hS; go_simp; try with_reducible rfl)); (try simp only [Act.put, List.getElem_toArray, List.getElem_cons_zero, List.getElem_cons_succ, List.setIfInBounds_toArray, List.set_cons_zero, List.set_cons_succ]); (refine wpAnyH_take (i := 15) (v := ?_) rfl (by kernel_rfl) (by kernel_rfl) (by kernel_rfl) (fun _ _ _ h => h) (Or.inl ⟨by rfl, ?ht_15⟩) HS ?_); (case ht_15 => (intro wt hS; go_simp; try with_reducible rfl)); (try simp only [Act.put, List.getElem_toArray, List.getElem_cons_zero, List.getElem_cons_succ, List.setIfInBounds_toArray, List.set_cons_zero, List.set_cons_succ])
  (refine wpAnyH_take (i := 16) (v := ?_) rfl (by kernel_rfl) (by kernel_rfl) (by kernel_rfl) (fun _ _ _ h => h) (Or.inl ⟨by rfl, ?ht_16⟩) HS ?_); (case ht_16 => (intro wt hS; have cg := cellF hS.2; go_simp; try with_reducible rfl)); (try simp only [Act.put, List.getElem_toArray, List.getElem_cons_zero, List.getElem_cons_succ, List.setIfInBounds_toArray, List.set_cons_zero, List.set_cons_succ])
  (refine wpAnyH_ready (rs := [8]) (by kernel_rfl) (by decide) ?_); (refine AllReadyH.cons rfl (fun K' hK => ?_) AllReadyH.nil); (rw [if_pos (by rfl)])
  refine op_call 26 #[.agg (m3 fi ti (.slice sa n sc))] (by go_simp) (fun v' w1 => ∃ v0 : Value, v' = .agg (m3 fi ti v0) ∧ w1.ownsRow wq.heap.size 5 1 v0 n (bl Y n) ∧ Below wq.heap.size wq w1) ((CO.out wq hYq).mono (fun e w1 h => by obtain ⟨v0, h1, h2, h3⟩ := h; exact ⟨_, h1, v0, rfl, h2, h3⟩)) ?_
  rintro v' w1 ⟨v0, rfl, hv0, hb1⟩
  have HS1 : w1.heap[g]? = some (.cells #[.slice (some ⟨gb, off, none⟩) k rc] 56 (0, 0)) ∧ w1.heap[gb]? = some (.cells A 60 fr) := ⟨Ytfgcjgabknoamaa.kept hb1 hgq, Ytfgcjgabknoamaa.kept hb1 hrb⟩
  refine hK.out _ _ HS1 (fun HS => ?_)
  clear hK K' HS1
  (try simp only [Act.put, List.setIfInBounds_toArray, List.set_cons_zero, List.set_cons_succ])
  obtain ⟨sa', sc', rfl⟩ := own_form hv0
  have hcq1 := Ytfgcjgabknoamaa.kept hb1 hcq
  have hBq1 := below_then hBq hb1
  (refine wpAnyH_ready (rs := [17]) (by kernel_rfl) (by decide) ?_); (refine AllReadyH.cons rfl (fun K' hK => ?_) AllReadyH.nil); (rw [if_pos (by rfl)])
  refine op_store_over' 24 _ _ rfl w.heap.size (m3 fi ti (.slice sa' n sc')) rfl rfl _ M0 hcq1 (by kernel_rfl) (by rw [← HM0.out]; rfl) m3_all (fun w5 hc5 ho5 hb5 => hK.out _ _ ⟨(ho5 g (fun e => by subst e; rw [hcq1] at HS; have h := HS.1; injection h with h; injection h with _ h; exact absurd h (by decide))).trans HS.1, (ho5 gb (fun e => by subst e; rw [hcq1] at HS; have h := HS.2; injection h with h; injection h with _ h; exact absurd h (by decide))).trans HS.2⟩ (fun HS => ?_))
  clear hK K'
  have hv5 := own_weak (own_other hv0 ho5 (fun e => by have h := (hv0.lt _ e.symm).1; have h2 := (Array.getElem?_eq_some_iff.1 hcq).1; omega)) hBq.size
  (try simp only [Act.put, List.setIfInBounds_toArray, List.set_cons_zero, List.set_cons_succ])
  (refine wpAnyH_take (i := 18) (v := ?_) rfl (by kernel_rfl) (by kernel_rfl) (by kernel_rfl) (fun _ _ _ h => h) (Or.inl ⟨by rfl, ?ht_18⟩) HS ?_); (case ht_18 => (intro wt hS; go_simp; try with_reducible rfl)); (try simp only [Act.put, List.getElem_toArray, List.getElem_cons_zero, List.getElem_cons_succ, List.setIfInBounds_toArray, List.set_cons_zero, List.set_cons_succ]); (refine wpAnyH_take (i := 19) (v := ?_) rfl (by kernel_rfl) (by kernel_rfl) (by kernel_rfl) (fun _ _ _ h => h) (Or.inl ⟨by rfl, ?ht_19⟩) HS ?_); (case ht_19 => (intro wt hS; go_simp; try with_reducible rfl)); (try simp only [Act.put, List.getElem_toArray, List.getElem_cons_zero, List.getElem_cons_succ, List.setIfInBounds_toArray, List.set_cons_zero, List.set_cons_succ])
  refine wpAnyH_done (by kernel_rfl) ?_ _
  go_simp
  go_wp2
  exact post_cell_tmp2 (g := w.heap.size) (t := 24) (v := .int .u64 agi) (v2 := .int .i64 0) rfl rfl rfl rfl rfl hc5 Try.underlying24 rfl (by kernel_rfl) ⟨_, rfl, hv5, hBq1.trans (hb5 _ (Nat.le_refl _))⟩
end Go.Proofs.Ytfgcjgabknoamaa
