/- slices.Insert of one element into a row of the call's own, wherever. No condition. -/
import Derived.Test.YtmjfbilhalkegaaInsG
import Derived.Test.YtmjfbilhalkegaaHeldG
import Derived.Shelf.Spec.SlicesInsert
import Derived.Lib.AppendZerosOnto
import Derived.Laws.NewBlocks
import Derived.Lib.Overlaps
namespace Go.Proofs.Ytmjfbilhalkegaa
set_option linter.unusedVariables false
set_option linter.unusedSimpArgs false
open Go.RowKit

theorem info_ord : ∃ i z, Try.prog.info? 30 = some i ∧ i.zero = some z ∧ i.size = 5 ∧ i.bytes ≤ 512 ∧ z.cells.size = 5 := by
  have h : (Try.prog.info? 30).map (fun i => (i.size, decide (i.bytes ≤ 512), i.zero.map (·.cells.size))) = some (5, true, some 5) := by kernel_rfl
  cases hi : Try.prog.info? 30 with
  | none => simp [hi] at h
  | some i =>
    simp [hi] at h
    obtain ⟨h1, h2, z, h3, h4⟩ := h
    exact ⟨i, z, rfl, h3, h1, h2, h4⟩
theorem size_ord (w : World) : (Go.sizeOf 30).run Try.prog w = .ok 5 w := by kernel_rfl
theorem hsz_ord : (Try.prog.info? 30).map (·.size) = some 5 := by kernel_rfl
set_option maxHeartbeats 4000000 in
set_option maxRecDepth 100000 in
/-- there is room: in place -/
theorem insroom_ord (base k i g rc gx : Nat) (xs : List Value) (B cur : Array Value) (w : World) (hbg : base ≤ g) (hg : w.heap[g]? = some (.cells cur 30 (0, 0))) (hcs : cur.size = rc * 5) (hxs : cur.toList.take (k * 5) = xs) (hlen : xs.length = k * 5) (h1x : ∀ v ∈ xs, v.oneCell' = true)
    (hi : i < k) (hroom : k + 1 ≤ rc) (hrc : rc ≤ 9223372036854775807) (hB : B.size = 5) (hB1 : B.all (·.oneCell') = true) (hx : w.heap[gx]? = some (.cells B 30 (0, 0))) (hne : gx ≠ g) :
    Calls Try.prog 51 #[.slice (some ⟨g, 0, none⟩) k rc, .int .i64 i, .slice (some ⟨gx, 0, none⟩) 1 1] w fun e w' => e = .returned (.slice (some ⟨g, 0, none⟩) (k + 1) rc) ∧ w'.ownsRow base 30 5 (.slice (some ⟨g, 0, none⟩) (k + 1) rc) (k + 1) (xs.take (i * 5) ++ B.toList ++ xs.drop (i * 5)) ∧ w.grownBy w' (some g) := by
  have hgd : w.drew.heap[g]? = some (.cells cur 30 (0, 0)) := hg
  have hat : ∀ j, j < k * 5 → cur[j]? = xs[j]? := fun j hj => by rw [← hxs, List.getElem?_take, if_pos hj, Array.getElem?_toList]
  have hBl : B.toList.length = 5 := by simp [hB]
  have h1B : ∀ v ∈ B.toList, v.oneCell' = true := fun u hu => by rw [Array.all_eq_true'] at hB1; exact hB1 u (by simpa using hu)
  obtain ⟨news, hnews⟩ : ∃ news, news = xs.drop (i * 5) := ⟨_, rfl⟩
  have hnl : news.length = (k - i) * 5 := by rw [hnews, List.length_drop, hlen]; omega
  have hget : ∀ t, news[t]? = xs[i * 5 + t]? := fun t => by rw [hnews, List.getElem?_drop]
  obtain ⟨W1, hW1⟩ : ∃ W1, W1 = w.drew.setCells g ((i + 1) * 5) news := ⟨_, rfl⟩
  obtain ⟨A1, a1, a2, a3, a4, a5⟩ := setc_block news ((i + 1) * 5) w.drew cur hgd (by omega)
  rw [← hW1] at a1
  have hx1 : W1.heap[gx]? = some (.cells B 30 (0, 0)) := by rw [hW1, setc_other hne]; exact hx
  obtain ⟨A2, b1, b2, b3, b4, b5⟩ := setc_block B.toList (i * 5) W1 A1 a1 (by rw [a2, hBl]; omega)
  have hov : ∀ lb cb, (callFunc 53 #[.slice (some ⟨gx, 0, none⟩) 1 1, .slice (some ⟨g, (i + 1) * 5, none⟩) lb cb]).run Try.prog w = .ok (.value (.bool false)) w := fun lb cb => by
    rw [run_callFunc_extern Try.func53 (by kernel_rfl) (by kernel_rfl) (by kernel_rfl) (e := Extern.SlicesOverlaps.overlaps #[35, 35] #[4]) (by kernel_rfl),
      Lib.run_overlaps_apart w 35 4 30 Try.underlying35 5 size_ord ⟨gx, 0, none⟩ ⟨g, (i + 1) * 5, none⟩ 1 1 lb cb hne 30 30 5 cur.size (by unfold World.shape?; rw [show (⟨gx, 0, none⟩ : Addr).block = gx from rfl, hx]; simp [hB]) (by unfold World.shape?; rw [show (⟨g, (i + 1) * 5, none⟩ : Addr).block = g from rfl, hg]) (by omega) ((cells_of hx).2.1 0) ((cells_of hx).2.1 5)]
    rfl
  have hcp1 : ∀ ty dc sc, (Builtin.copy_ #[35, 35] ty #[.slice (some ⟨g, (i + 1) * 5, none⟩) (k - i) dc, .slice (some ⟨g, i * 5, none⟩) (k + 1 - i) sc]).run Try.prog w.drew = .ok (goInt (Nat.min (k + 1 - i) (k - i))) W1 := fun ty dc sc => by
    rw [hW1]
    refine run_copy_c w.drew _ _ ty 30 g ((i + 1) * 5) (k - i) dc ⟨g, i * 5, none⟩ (k + 1 - i) sc 5 news Try.underlying35 hsz_ord ?_ (fun j v hj => ?_) (fun j hj => ?_) (fun j hj => (cells_of hgd).2.1 _) (fun v hv => h1x v (by rw [hnews] at hv; exact List.mem_of_mem_drop hv))
    · rw [hnl, show Nat.min (k + 1 - i) (k - i) = k - i by simp only [Nat.min_def]; split <;> omega]
    · have h2 : (⟨g, i * 5, none⟩ : Addr).add j = ⟨g, i * 5 + j, none⟩ := by unfold Addr.add; split <;> simp_all
      have hlt : j < news.length := (List.getElem?_eq_some_iff.1 hj).1
      rw [h2, cellF hgd, hat _ (by omega), ← hget, hj]
    · rw [cellF hgd, Array.getElem?_eq_getElem (by omega)]; rfl
  have hcp2 : ∀ (W : World), W.heap[g]? = W1.heap[g]? → W.heap[gx]? = W1.heap[gx]? → ∀ ty dc, (Builtin.copy_ #[35, 35] ty #[.slice (some ⟨g, i * 5, none⟩) (k + 1 - i) dc, .slice (some ⟨gx, 0, none⟩) 1 1]).run Try.prog W = .ok (goInt (Nat.min 1 (k + 1 - i))) (W.setCells g (i * 5) B.toList) := fun W e1 e2 ty dc => by
    have hWg := e1.trans a1
    have hWx := e2.trans hx1
    refine run_copy_c W _ _ ty 30 g (i * 5) (k + 1 - i) dc ⟨gx, 0, none⟩ 1 1 5 B.toList Try.underlying35 hsz_ord ?_ (fun j v hj => ?_) (fun j hj => ?_) (fun j hj => (cells_of hWg).2.1 _) h1B
    · rw [hBl, show Nat.min 1 (k + 1 - i) = 1 by simp only [Nat.min_def]; split <;> omega]
    · have h2 : (⟨gx, 0, none⟩ : Addr).add j = ⟨gx, j, none⟩ := by unfold Addr.add; split <;> simp_all
      rw [h2, cellF hWx]
      simpa using hj
    · rw [cellF hWg, Array.getElem?_eq_getElem (by omega)]; rfl
  have HO : Hid ((W1.setCells g (i * 5) B.toList).ownsRow base 30 5 (.slice (some ⟨g, 0, none⟩) (k + 1) rc) (k + 1) (xs.take (i * 5) ++ B.toList ++ xs.drop (i * 5)) ∧ w.grownBy (W1.setCells g (i * 5) B.toList) (some g)) := by
    have hmid := mid_of (A := A2) (xs := xs) (bs := B.toList) (p := i * 5) (n := (k + 1) * 5) (by omega) (by omega) (by omega) (fun j hj => by rw [b3 j hj, a3 j (by omega), hat j (by omega)]) (fun j hj => b4 j hj) (fun j h1 h2 => by
      rw [b5 _ (by omega), show j + B.toList.length = (i + 1) * 5 + (j - i * 5) by omega, a4 _ (by omega), hget]
      congr 1
      omega)
    refine ⟨⟨by rw [List.length_append, List.length_append, List.length_take, List.length_drop]; omega, .inr ⟨g, rc, A2, rfl, hbg, b1, hroom, by unfold maxLen; omega, by omega, hmid⟩⟩, ?_⟩
    have hbel : Below 0 w (W1.setCells g (i * 5) B.toList) := by rw [hW1]; exact setc_below (Nat.zero_le _) _ _ _ (setc_below (Nat.zero_le _) _ _ _ (Below.drew (Below.refl _ _)))
    exact ⟨hbel.1, hbel.2, hbel.3, hbel.size, fun b _ hb => by
      have hb' : b ≠ g := fun e => hb (by rw [e])
      rw [setc_other hb', hW1, setc_other hb']
      rfl⟩
  have hgd1 : W1.heap[g]? = W1.heap[g]? := rfl
  have hw1 : IntKind.i64.wrap ((i : Int) + 1) = (i : Int) + 1 := by rw [IntKind.wrap_i64]; omega
  have htn : ((i : Int) + 1).toNat = i + 1 := by omega
  have hik : ¬ ((i : Int) = (k : Int)) := by omega
  have hi1 : ¬ (rc = i + 1) := by omega
  have hi2 : ¬ (rc = i) := by omega
  have hb1 : (0 : Int) ≤ (i : Int) + 1 := by omega
  have hb2 : (i : Int) + 1 ≤ (k : Int) + 1 := by omega
  have hb3 : (i : Int) ≤ (k : Int) := by omega
  have hb4 : ¬ ((rc : Int) < (k : Int) + 1) := by omega
  have hb5 : (i : Int) ≤ (k : Int) + 1 := by omega
  clear hgd hat hget a1 a2 a3 a4 a5 b1 b2 b3 b4 b5 hx1 hnews hnl hg hx hxs hlen h1x h1B hW1
  go_enter Try.func51, Try.ntmps51
  go_wp2_with (simp only [hov])
  go_region_law (refine step_copy_runI rfl _ _ 35 35 rfl _ _ (by simp [Act.eval, Act.put]) (by simp [Act.eval, Act.put]) (hcp1 _ _ _) ?_)
  go_wp2_with (at_builtin; refine wpList_copy_runI _ rfl _ _ 35 35 rfl _ _ rfl rfl (hcp2 _ rfl rfl _ _) ?_)
  go_ret
  exact ⟨rfl, HO.out⟩
set_option maxHeartbeats 4000000 in
set_option maxRecDepth 100000 in
/-- there is none: a new row -/
theorem insgrow_ord (base k i g rc gx : Nat) (xs : List Value) (B cur : Array Value) (w : World) (hg : w.heap[g]? = some (.cells cur 30 (0, 0))) (hxs : cur.toList.take (k * 5) = xs) (hlen : xs.length = k * 5) (h1x : ∀ v ∈ xs, v.oneCell' = true)
    (hi : i < k) (hk : k ≤ 1000) (hkr : k ≤ rc) (hroom : rc < k + 1) (hB : B.size = 5) (hB1 : B.all (·.oneCell') = true) (hx : w.heap[gx]? = some (.cells B 30 (0, 0))) (hbw : base ≤ w.heap.size) :
    Calls Try.prog 51 #[.slice (some ⟨g, 0, none⟩) k rc, .int .i64 i, .slice (some ⟨gx, 0, none⟩) 1 1] w fun e w' => ∃ v', e = .returned v' ∧ w'.ownsRow base 30 5 v' (k + 1) (xs.take (i * 5) ++ B.toList ++ xs.drop (i * 5)) ∧ w.grownBy w' (some g) := by
  obtain ⟨i0, z, hi0, hz0, hzs, hzb, hzc⟩ := info_ord
  have hat : ∀ j, j < k * 5 → cur[j]? = xs[j]? := fun j hj => by rw [← hxs, List.getElem?_take, if_pos hj, Array.getElem?_toList]
  have hBl : B.toList.length = 5 := by simp [hB]
  have h1B : ∀ v ∈ B.toList, v.oneCell' = true := fun u hu => by rw [Array.all_eq_true'] at hB1; exact hB1 u (by simpa using hu)
  have hgw : g < w.heap.size := (Array.getElem?_eq_some_iff.1 hg).1
  have hxw : gx < w.heap.size := (Array.getElem?_eq_some_iff.1 hx).1
  have hbig : (k + 1) * i0.bytes ≤ 140737488355328 := by have := Nat.mul_le_mul (show k + 1 ≤ 1001 by omega) hzb; omega
  have hold : (Builtin.firstCells i0.size i (.slice (some ⟨g, 0, none⟩) i rc)).run Try.prog w.drew = .ok (xs.take (i * 5)).toArray w.drew := by
    rw [hzs]
    exact run_firstCells_some w.drew 5 i ⟨g, 0, none⟩ i rc (xs.take (i * 5)) (by rw [List.length_take]; omega) (fun j v hj => by
      have h2 : (⟨g, 0, none⟩ : Addr).add j = ⟨g, j, none⟩ := by unfold Addr.add; split <;> simp_all
      rw [List.getElem?_take] at hj
      split at hj
      · rw [h2, cellF (w := w.drew) hg, hat _ (by omega)]; exact hj
      · cases hj)
  obtain ⟨G, hG⟩ : ∃ G, G = grownCap w (k + 1) rc 30 := ⟨_, rfl⟩
  obtain ⟨R, hR⟩ : ∃ R : Array Value, R = (xs.take (i * 5)).toArray ++ Builtin.zeroCells z.cells (k + 1 - i) ++ Builtin.zeroCells z.cells (G - (k + 1)) := ⟨_, rfl⟩
  have hrz : ∀ ty, (Builtin.append_ #[35, 3] ty #[.slice (some ⟨g, 0, none⟩) i rc, .int .i64 ((k : Int) + 1 - i)]).run Try.prog w = .ok (.slice (some ⟨w.heap.size, 0, none⟩) (k + 1) G) (w.drew.alloc (.cells R 30)) := fun ty => by
    have h := Lib.run_append_grow_zeros w 35 3 ty 30 i0 z .i64 .i64 Try.underlying35 Try.underlying3 hi0 hz0 (some ⟨g, 0, none⟩) i rc (xs.take (i * 5)) hold (k + 1 - i) (by omega) (by omega) (by omega) (by omega) (by have := Nat.mul_le_mul (show k + 1 - i ≤ 1001 by omega) hzb; omega) (by rw [show i + (k + 1 - i) = k + 1 by omega]; exact growslice_fits hroom hbig)
    rw [show i + (k + 1 - i) = k + 1 by omega, ← hG, ← hR] at h
    rw [show (k : Int) + 1 - i = ((k + 1 - i : Nat) : Int) by omega]
    exact h
  have hGn : k + 1 ≤ G := by rw [hG]; exact grownCap_ge w _ _ _
  have hG63 : G ≤ 9223372036854775807 := by
    have := grownCap_le_maxLen w (k + 1) rc 30 (by unfold maxLen; omega)
    rw [← hG] at this
    unfold maxLen at this
    omega
  have hRs : R.size = G * 5 := by
    rw [hR]
    simp [Builtin.zeroCells, hzc, hlen]
    omega
  have hR0 : ∀ j, j < i * 5 → R[j]? = xs[j]? := fun j hj => by
    rw [hR, Array.append_assoc, Array.getElem?_append_left (by simp [hlen]; omega), List.getElem?_toArray, List.getElem?_take, if_pos hj]
  obtain ⟨nb, hnb⟩ : ∃ nb, nb = w.heap.size := ⟨_, rfl⟩
  rw [← hnb] at hrz hbw hgw hxw
  obtain ⟨W1, hW1⟩ : ∃ W1, W1 = w.drew.alloc (.cells R 30) := ⟨_, rfl⟩
  have hn1 : W1.heap[nb]? = some (.cells R 30 (0, 0)) := by rw [hW1, hnb]; exact heap_alloc_new w.drew _
  have hg1 : W1.heap[g]? = some (.cells cur 30 (0, 0)) := by rw [hW1]; exact heap_up (W := w.drew) hg
  have hx1 : W1.heap[gx]? = some (.cells B 30 (0, 0)) := by rw [hW1]; exact heap_up (W := w.drew) hx
  rw [← hW1] at hrz
  obtain ⟨news, hnews⟩ : ∃ news, news = xs.drop (i * 5) := ⟨_, rfl⟩
  have hnl : news.length = (k - i) * 5 := by rw [hnews, List.length_drop, hlen]; omega
  have hget : ∀ t, news[t]? = xs[i * 5 + t]? := fun t => by rw [hnews, List.getElem?_drop]
  have hngx : gx ≠ nb := by omega
  have hng : g ≠ nb := by omega
  obtain ⟨A1, a1, a2, a3, a4, a5⟩ := setc_block B.toList (i * 5) W1 R hn1 (by rw [hBl, hRs]; omega)
  obtain ⟨W2, hW2⟩ : ∃ W2, W2 = W1.setCells nb (i * 5) B.toList := ⟨_, rfl⟩
  rw [← hW2] at a1
  have hg2 : W2.heap[g]? = some (.cells cur 30 (0, 0)) := by rw [hW2, setc_other hng]; exact hg1
  obtain ⟨A2, b1, b2, b3, b4, b5⟩ := setc_block news ((i + 1) * 5) W2.drew A1 a1 (by rw [a2, hRs, hnl]; omega)
  have hcpA : ∀ ty dc, (Builtin.copy_ #[35, 35] ty #[.slice (some ⟨nb, i * 5, none⟩) (k + 1 - i) dc, .slice (some ⟨gx, 0, none⟩) 1 1]).run Try.prog W1 = .ok (goInt (Nat.min 1 (k + 1 - i))) W2 := fun ty dc => by
    rw [hW2]
    refine run_copy_c W1 _ _ ty 30 nb (i * 5) (k + 1 - i) dc ⟨gx, 0, none⟩ 1 1 5 B.toList Try.underlying35 hsz_ord ?_ (fun j v hj => ?_) (fun j hj => ?_) (fun j hj => (cells_of hn1).2.1 _) h1B
    · rw [hBl, show Nat.min 1 (k + 1 - i) = 1 by simp only [Nat.min_def]; split <;> omega]
    · have h2 : (⟨gx, 0, none⟩ : Addr).add j = ⟨gx, j, none⟩ := by unfold Addr.add; split <;> simp_all
      rw [h2, cellF hx1]
      simpa using hj
    · rw [cellF hn1, Array.getElem?_eq_getElem (by rw [hRs]; omega)]; rfl
  have hcpB : ∀ ty dc sc, (Builtin.copy_ #[35, 35] ty #[.slice (some ⟨nb, (i + 1) * 5, none⟩) (k - i) dc, .slice (some ⟨g, i * 5, none⟩) (k - i) sc]).run Try.prog W2.drew = .ok (goInt (Nat.min (k - i) (k - i))) (W2.drew.setCells nb ((i + 1) * 5) news) := fun ty dc sc => by
    refine run_copy_c W2.drew _ _ ty 30 nb ((i + 1) * 5) (k - i) dc ⟨g, i * 5, none⟩ (k - i) sc 5 news Try.underlying35 hsz_ord ?_ (fun j v hj => ?_) (fun j hj => ?_) (fun j hj => (cells_of (w := W2.drew) a1).2.1 _) (fun v hv => h1x v (by rw [hnews] at hv; exact List.mem_of_mem_drop hv))
    · rw [hnl, show Nat.min (k - i) (k - i) = k - i by simp only [Nat.min_def]; split <;> omega]
    · have h2 : (⟨g, i * 5, none⟩ : Addr).add j = ⟨g, i * 5 + j, none⟩ := by unfold Addr.add; split <;> simp_all
      have hlt : j < news.length := (List.getElem?_eq_some_iff.1 hj).1
      rw [h2, cellF (w := W2.drew) hg2, hat _ (by omega), ← hget, hj]
    · rw [cellF (w := W2.drew) a1, Array.getElem?_eq_getElem (by rw [a2, hRs]; omega)]; rfl
  have HO : Hid ((W2.drew.setCells nb ((i + 1) * 5) news).ownsRow base 30 5 (.slice (some ⟨nb, 0, none⟩) (k + 1) G) (k + 1) (xs.take (i * 5) ++ B.toList ++ xs.drop (i * 5)) ∧ w.grownBy (W2.drew.setCells nb ((i + 1) * 5) news) (some g)) := by
    have hmid := mid_of (A := A2) (xs := xs) (bs := B.toList) (p := i * 5) (n := (k + 1) * 5) (by omega) (by omega) (by rw [b2, a2, hRs]; omega) (fun j hj => by rw [b3 j (by omega), a3 j hj, hR0 j hj]) (fun j hj => by rw [b3 _ (by omega), a4 j hj]) (fun j h1 h2 => by
      rw [show j + B.toList.length = (i + 1) * 5 + (j - i * 5) by omega, b4 _ (by omega), hget]
      congr 1
      omega)
    refine ⟨⟨by rw [List.length_append, List.length_append, List.length_take, List.length_drop]; omega, .inr ⟨nb, G, A2, rfl, hbw, b1, hGn, by unfold maxLen; omega, by rw [b2, a2, hRs], hmid⟩⟩, ?_⟩
    have hbel : Below w.heap.size w (W2.drew.setCells nb ((i + 1) * 5) news) := by
      rw [hW2, hW1, hnb]
      exact setc_below (Nat.le_refl _) _ _ _ (Below.drew (setc_below (Nat.le_refl _) _ _ _ (below_alloc (Below.drew (Below.refl _ _)) _)))
    exact ⟨hbel.1, hbel.2, hbel.3, hbel.size, fun b hb _ => hbel.block b hb⟩
  have hw1 : IntKind.i64.wrap ((i : Int) + 1) = (i : Int) + 1 := by rw [IntKind.wrap_i64]; omega
  have htn : ((i : Int) + 1).toNat = i + 1 := by omega
  have hik : ¬ ((i : Int) = (k : Int)) := by omega
  have hi1 : ¬ (G = i + 1) := by omega
  have hi2 : ¬ (G = i) := by omega
  have hi3 : ¬ (rc = i) := by omega
  have hb1 : (0 : Int) ≤ (i : Int) + 1 := by omega
  have hb2 : (i : Int) + 1 ≤ (k : Int) + 1 := by omega
  have hb3 : (i : Int) ≤ (k : Int) := by omega
  have hb4 : (rc : Int) < (k : Int) + 1 := by omega
  have hb5 : (i : Int) ≤ (k : Int) + 1 := by omega
  have hb6 : (i : Int) ≤ (rc : Int) := by omega
  clear hnb hat hget a1 a2 a3 a4 a5 b1 b2 b3 b4 b5 hx1 hg1 hg2 hn1 hnews hnl hg hx hxs hlen h1x h1B hW1 hW2 hR hRs hR0 hold hG hzs hzb hzc hbig
  go_enter Try.func51, Try.ntmps51
  go_wp2_with (first
    | (at_builtin; refine Lib.wpList_append_run _ rfl _ _ _ _ rfl _ _ rfl rfl _ _ (hrz _) ?_) | (at_builtin; refine wpList_copy_runI _ rfl _ _ 35 35 rfl _ _ rfl rfl (hcpA _ _) ?_))
  go_region_law (refine step_copy_runI rfl _ _ 35 35 rfl _ _ (by simp [Act.eval, Act.put]) (by simp [Act.eval, Act.put]) (hcpB _ _ _) ?_)
  go_wp2
  go_ret
  exact ⟨_, rfl, HO.out⟩
theorem at_append_ord {ops : Array Oper} {Q : Exit → Act → World → Prop} {rest : List Oper} {a : Act} {w : World} {d : Option Tmp} {x y : Operand} {ty : TypeId} {pos : String} {af : Array Edge} {gd : Option (Nat × Bool)}
    (h : wpList Try.prog ops Q (⟨d, .call { callee := .builtin .append, args := #[x, y], argTypes := #[35, 35] }, ty, pos, af, gd⟩ :: rest) a w) : wpList Try.prog ops Q (⟨d, .call { callee := .builtin .append, args := #[x, y], argTypes := #[35, 35] }, ty, pos, af, gd⟩ :: rest) a w := h
set_option maxRecDepth 100000 in
set_option maxHeartbeats 2000000 in
/-- behind the last -/
theorem insend_ord (base k : Nat) (xs : List Value) (v : Value) (gx : Nat) (B : Array Value) (w : World) (ho : w.ownsRow base 30 5 v k xs) (hk : k ≤ 1000) (hB : B.size = 5) (hB1 : B.all (·.oneCell') = true) (hx : w.heap[gx]? = some (.cells B 30 (0, 0))) (hb : base ≤ w.heap.size) :
    Calls Try.prog 51 #[v, .int .i64 k, .slice (some ⟨gx, 0, none⟩) 1 1] w fun e w' => ∃ v', e = .returned v' ∧ w'.ownsRow base 30 5 v' (k + 1) (xs ++ B.toList) ∧ w.grownBy w' v.ownBlock := by
  obtain ⟨i, z, h1, h2, h3, h4, h5⟩ := info_ord
  have HO := Lib.hid ho
  have HX := Lib.hid (fun j u (hj : B.toList[j]? = some u) => show w.cell? ((⟨gx, 0, none⟩ : Addr).add j) = some u from by
    have h2 : (⟨gx, 0, none⟩ : Addr).add j = ⟨gx, j, none⟩ := by unfold Addr.add; split <;> simp_all
    rw [h2, cellF hx]
    simpa using hj)
  have HB := Lib.hid (fun u (hu : u ∈ B.toList) => show u.oneCell' = true from by rw [Array.all_eq_true'] at hB1; exact hB1 u (by simpa using hu))
  have HL := Lib.hid (show B.toList.length = 1 * 5 by simp [hB])
  have HBY := Lib.hid (show (k + 1) * i.bytes ≤ 140737488355328 from by have := Nat.mul_le_mul (show k + 1 ≤ 1001 by omega) h4; omega)
  have hm : ((v = .slice none 0 0 ∧ k = 0) ∨ ∃ g rc, v = .slice (some ⟨g, 0, none⟩) k rc ∧ k ≤ rc ∧ rc ≤ 9223372036854775807) := by
    rcases ho.2 with h | ⟨g, cap, cur, hv, _, _, hn, hm, _⟩
    · exact .inl h
    · exact .inr ⟨g, cap, hv, hn, by unfold maxLen at hm; omega⟩
  clear ho hB1 hx
  rcases hm with ⟨rfl, rfl⟩ | ⟨g, rc, rfl, hkr, hrc⟩
  · go_enter Try.func51, Try.ntmps51
    go_wp2_with ((with_reducible refine at_append_ord ?_); refine wpList_append_own w rfl _ _ _ rfl base 30 i z 5 i.bytes Try.underlying35 h1 h2 h3 rfl h5 (by omega) _ _ _ rfl HO.out ⟨gx, 0, none⟩ 1 1 B.toList rfl HL.out HX.out HB.out (by unfold maxLen; omega) HBY.out hb ?_; intro v' w1 ho1 hg1 _)
    go_ret
    exact ⟨_, rfl, ho1, hg1⟩
  · by_cases hck : rc = k
    · subst hck
      go_enter Try.func51, Try.ntmps51
      go_wp2_with ((with_reducible refine at_append_ord ?_); refine wpList_append_own w rfl _ _ _ rfl base 30 i z 5 i.bytes Try.underlying35 h1 h2 h3 rfl h5 (by omega) _ _ _ rfl HO.out ⟨gx, 0, none⟩ 1 1 B.toList rfl HL.out HX.out HB.out (by unfold maxLen; omega) HBY.out hb ?_; intro v' w1 ho1 hg1 _)
      go_ret
      exact ⟨_, rfl, ho1, hg1⟩
    · go_enter Try.func51, Try.ntmps51
      go_wp2_with ((with_reducible refine at_append_ord ?_); refine wpList_append_own w rfl _ _ _ rfl base 30 i z 5 i.bytes Try.underlying35 h1 h2 h3 rfl h5 (by omega) _ _ _ rfl HO.out ⟨gx, 0, none⟩ 1 1 B.toList rfl HL.out HX.out HB.out (by unfold maxLen; omega) HBY.out hb ?_; intro v' w1 ho1 hg1 _)
      go_ret
      exact ⟨_, rfl, ho1, hg1⟩
/-- slices.Insert of one element at whatever place of a row of the call's own -/
theorem insany_ord (base k i : Nat) (L : Nat → Array Value) (v : Value) (gx : Nat) (B : Array Value) (w : World) (hL : ∀ i, (L i).size = 5) (h1L : ∀ i, (L i).all (·.oneCell') = true) (ho : w.ownsRow base 30 5 v k (flat L k)) (hk : k ≤ 1000) (hi : i ≤ k) (hB : B.size = 5) (hB1 : B.all (·.oneCell') = true)
    (hx : w.heap[gx]? = some (.cells B 30 (0, 0))) (hne : some gx ≠ v.ownBlock) (hb : base ≤ w.heap.size) :
    Calls Try.prog 51 #[v, .int .i64 i, .slice (some ⟨gx, 0, none⟩) 1 1] w fun e w' => ∃ v', e = .returned v' ∧ w'.ownsRow base 30 5 v' (k + 1) (flat (ins L i B) (k + 1)) ∧ w.grownBy w' v.ownBlock := by
  have hfl := flatc_len hL k
  rw [← flat_ins (by omega) hL hB hi]
  by_cases hik : i = k
  · subst hik
    rw [List.take_of_length_le (by rw [hfl]; omega), List.drop_of_length_le (by rw [hfl]; omega), List.append_nil]
    exact insend_ord base i (flat L i) v gx B w ho hk hB hB1 hx hb
  · obtain ⟨_, ⟨rfl, h0⟩ | ⟨g, cap, cur, rfl, hbg, hg, hn, hm, hc, ht⟩⟩ := ho
    · omega
    · have hng : gx ≠ g := fun e => hne (by rw [e]; rfl)
      unfold maxLen at hm
      by_cases hroom : k + 1 ≤ cap
      · exact (insroom_ord base k i g cap gx (flat L k) B cur w hbg hg hc ht hfl (flatc_one h1L k) (by omega) hroom (by omega) hB hB1 hx hng).mono fun e w' ⟨h1, h2, h3⟩ => ⟨_, h1, h2, h3⟩
      · exact insgrow_ord base k i g cap gx (flat L k) B cur w hg ht hfl (flatc_one h1L k) (by omega) hk hn (by omega) hB hB1 hx hb
end Go.Proofs.Ytmjfbilhalkegaa
