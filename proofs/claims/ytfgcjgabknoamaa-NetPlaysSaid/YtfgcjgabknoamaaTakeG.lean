/- net's Take: only the net's own blocks are written. Condition: the net is one and the place is there. -/
import Derived.Test.YtfgcjgabknoamaaKg
namespace Go.Proofs.Ytfgcjgabknoamaa
set_option linter.unusedVariables false
set_option linter.unusedSimpArgs false
open Go.RowKit

set_option maxRecDepth 100000 in
set_option maxHeartbeats 2000000 in
theorem take_kg (g base k : Nat) (F T Ag : Nat → Int) (S : Nat → Value) (Ln : Nat → Nat) (X : Nat → Nat → Int) (i : Nat) (w : World) (hN : NetIs w g base k F T Ag S Ln X) (hi : i < k) :
    Calls Try.prog 13 #[.pointer (some ⟨g, 0, none⟩), .int .i64 i] w fun e w' => e = .returned (.tuple #[.agg (m3 (F i) (T i) (S i)), .int .i64 0]) ∧ NetIs w' g base (k - 1) (sk F i) (sk T i) (sk Ag i) (sk S i) (sk Ln i) (sk X i) ∧ BytT w' (S i) (Ln i) (X i) ∧ Below base w w' ∧ Kg g w w' := by
  have hsi := hN.sl i
  have hbg := hN.bg
  have hk2 := hN.hk
  have hb1 := below_new w (Obj.cells mz 24)
  have hb2 := below_alloc hb1 (Obj.cells mz 24)
  have HN0 := Lib.hid hN
  obtain ⟨v, hg0, hrow0⟩ := hN.row
  obtain ⟨ra, rc, rfl, hR0, _⟩ := own_rows (c := 4) (fun i => rfl) hrow0
  have hgw : g < w.heap.size := (Array.getElem?_eq_some_iff.1 hg0).1
  obtain ⟨gb, off, A, fr, rfl, hgA, hszA, hexA⟩ := hR0 i hi
  have HX := Lib.hid (show A.extract (off + i * 4) (off + i * 4 + 3) = m3 (F i) (T i) (S i) from by
    have h := congrArg (fun B : Array Value => B.extract 0 3) (show A.extract (off + i * 4) (off + i * 4 + 4) = p4 (F i) (T i) (S i) (Ag i) from hexA)
    simp only [Array.extract_extract] at h
    rw [show min (off + i * 4 + 3) (off + i * 4 + 4) = off + i * 4 + 3 by omega] at h
    exact h)
  have HZ := Lib.hid (show off + i * 4 + 4 ≤ A.size from hszA)
  have HA := Lib.hid (show (m3 (F i) (T i) (S i)).all (·.oneCell') = true from by obtain ⟨a, n, c, h⟩ := hsi; rw [h]; exact m3_all)
  have HMS := Lib.hid (show (m3 (F i) (T i) (S i)).size = 3 from rfl)
  have HME := Lib.hid (extract_all (show (m3 (F i) (T i) (S i)).size = 3 from rfl))
  have HZM := Lib.hid mz_size
  have cat := nat_any g base k F T Ag S Ln X i (w.alloc (Obj.cells mz 24)) (hN.kept hb1)
  rw [show atE k i = 0 by unfold atE; rw [if_pos (by omega)]] at cat
  have hgA1 := heap_up (o := Obj.cells mz 24) hgA
  have hg1 := heap_up (o := Obj.cells mz 24) hg0
  have cg1 := cellF hg1
  have hc0 := heap_up (o := Obj.cells mz 24) (heap_alloc_new w (Obj.cells mz 24))
  have hc1 : ((w.alloc (Obj.cells mz 24)).alloc (Obj.cells mz 24)).heap[w.heap.size + 1]? = some (.cells mz 24 (0, 0)) := by have h := heap_alloc_new (w.alloc (Obj.cells mz 24)) (Obj.cells mz 24); simpa using h
  clear hexA hszA hR0 hsi hN
  obtain ⟨M, hM⟩ : ∃ M, M = m3 (F i) (T i) (S i) := ⟨_, rfl⟩
  have HMM := Lib.hid hM
  rw [← hM] at HX HA HMS HME
  rw [← hM]
  clear hM
  go_enter Try.func13, Try.ntmps13
  go_wp2_with (first | ((with_reducible refine at_alloc 24 ?_); refine wpList_alloc_named rfl 24 rfl mz (by kernel_rfl) ?_) | (go_at_call 27; (with_reducible refine (cat).mono ?_); rintro e w1 ⟨rfl, rfl⟩) | ((with_reducible refine at_load 24 ?_); refine wpList_load_part rfl 24 _ rfl (gb) (off + i * 4) rfl _ (A) _ _ 3 (hgA1) Try.underlying24 rfl (by kernel_rfl) (by have := HZ.out; omega) (M) (HX.out) ?_) | ((with_reducible refine at_store 24 ?_); refine wpList_store_over rfl 24 _ _ rfl ((w.alloc (Obj.cells mz 24)).heap.size) (M) rfl rfl _ _ (heap_alloc_new _ _) (by rw [HMS.out]; kernel_rfl) (by rw [HMS.out]; exact HZM.out) (HA.out) ?_; intro w2 hg2 hs2 ho2 hb2'; have cg2 := cellF ((ho2 g (by simp; omega)).trans (heap_up hg1))))
  go_at_call 30
  have hw02 := hb2.trans (hb2' _ (by simp))
  have hN2 := HN0.out.kept hw02
  have hr2 := own_below hw02 hrow0
  have hgN2 := Ytfgcjgabknoamaa.kept hw02 hg0
  have hm0 : w2.heap[w.heap.size]? = some (.cells mz 24 (0, 0)) := (ho2 _ (by simp)).trans hc0
  have hm1 : w2.heap[w.heap.size + 1]? = some (.cells M 24 (0, 0)) := by simpa using hg2
  have HTK := Lib.hid (fun wc ho hb hk => net_taken (wc := wc) hN2 hi hgN2 hr2 ho hb hk)
  have hown : ∀ b A t fr, t ≠ 60 → w2.heap[b]? = some (Obj.cells A t fr) → some b ≠ (Value.slice (some ⟨gb, off, none⟩) k rc).ownBlock := fun b A t fr ht hb e => by
    obtain ⟨A9, fr9, h9⟩ := own_tag hr2 b e.symm
    rw [hb] at h9; injection h9 with h9; injection h9 with _ h9; exact ht h9
  have ng := hown g _ _ _ (by decide) hgN2
  have n0 := hown _ _ _ _ (by decide) hm0
  have n1 := hown _ _ _ _ (by decide) hm1
  have HNE := Lib.hid (show w.heap.size ≠ g ∧ w.heap.size + 1 ≠ g by omega)
  refine (del_any base k i (fun i => p4 (F i) (T i) (S i) (Ag i)) _ rc w2 (fun j => rfl) (fun j => ?_) hr2 hi).mono ?_
  · obtain ⟨a, n, c, h⟩ := HN0.out.sl j
    show (p4 (F j) (T j) (S j) (Ag j)).all (·.oneCell') = true
    rw [h]; exact p4_all
  rintro e wc ⟨rfl, hoc, hbc, hkc⟩
  obtain ⟨hNc, hbyc, hBc, _⟩ := HTK.out wc hoc hbc hkc
  have HKG := Lib.hid (fun i (h1 : i ≠ g) (h2 : some i ≠ (Value.slice (some ⟨gb, off, none⟩) k rc).ownBlock) (h3 : i < w.heap.size) => show (wc.setCell ⟨g, 0, none⟩ (.slice (some ⟨gb, off, none⟩) (k - 1) rc)).heap[i]? = w.heap[i]? from (heap_setCell_other wc ⟨g, 0, none⟩ i _ h1).trans ((hkc i h2).trans (hw02.block i h3)))
  have HG0 := Lib.hid hg0
  have hgc := (hkc g ng).trans hgN2
  have hc0' := heap_set_other (i := 0) (v := .slice (some ⟨gb, off, none⟩) (k - 1) rc) ((hkc _ n0).trans hm0) HNE.out.1
  have hc1' := heap_set_other (i := 0) (v := .slice (some ⟨gb, off, none⟩) (k - 1) rc) ((hkc _ n1).trans hm1) HNE.out.2
  have HF := Lib.hid hNc
  have HBY := Lib.hid (hbyc i hi)
  have HB := Lib.hid hBc
  have HGN := Lib.hid (heap_set (i := 0) (v := .slice (some ⟨gb, off, none⟩) (k - 1) rc) hgc)
  have cgc := cellF hgc
  have fgc := (cells_of hgc).2.1
  have HC0 := Lib.hid hc0'
  clear hNc hbyc hBc hkc hoc hbc HTK hown ng n0 n1 hgc hm0 hm1 hgN2 hr2 hN2 hg2 cg2 cg1 hc0 hc1 hg1 hgA1 hgA cat hrow0 hg0
  go_wp2_with (first | ((with_reducible refine at_load 24 ?_); refine wpList_load_part rfl 24 _ rfl (w.heap.size + 1) (0) rfl _ (M) _ _ 3 (hc1') Try.underlying24 rfl (by kernel_rfl) (by rw [HMS.out]; omega) (M) (HME.out) ?_) | ((with_reducible refine at_store 24 ?_); refine wpList_store_over rfl 24 _ _ rfl (w.heap.size) (M) rfl rfl _ _ (HC0.out) (by rw [HMS.out]; kernel_rfl) (by rw [HMS.out]; exact HZM.out) (HA.out) ?_; intro w5 hg5 hs5 ho5 hb5))
  have hn5 := NetIs.other HF.out HC0.out ho5 (by decide) (by decide) (by decide)
  have hy5 := BytT.apart HBY.out (fun b A fr h => ho5 b (fun e => by subst e; have h9 := HC0.out; rw [h] at h9; injection h9 with h9; injection h9 with _ h9; exact absurd h9 (by decide)))
  have hB5 := ((hw02.mono (show base ≤ w.heap.size by omega)).trans HB.out).trans (hb5 _ (by omega))
  refine post_cell_tmp (g := w.heap.size) (t := 24) (v := .int .i64 0) rfl rfl rfl rfl hg5 Try.underlying24 rfl (by rw [HMS.out]; kernel_rfl) ⟨rfl, hn5, hy5, hB5, fun v hv => ?_⟩
  obtain rfl := cells1_inj HG0.out hv
  exact ⟨fun i h1 h2 h3 => (ho5 i (by omega)).trans (HKG.out i h1 h2 h3), _, (ho5 g (by omega)).trans HGN.out, .inl rfl⟩
end Go.Proofs.Ytfgcjgabknoamaa
