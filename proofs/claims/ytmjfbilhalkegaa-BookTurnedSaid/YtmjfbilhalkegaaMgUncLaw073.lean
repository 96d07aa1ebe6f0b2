/- Texts that UncLaw07 stands on, one behind the other, part 3. Conditions: each theorem names its own. -/
import Derived.Test.YtmjfbilhalkegaaMgUncLaw072
import Derived.Shelf.Spec.SlicesInsert
import Derived.Lib.AppendZerosOnto
import Derived.Laws.NewBlocks
import Derived.Lib.Overlaps
import Derived.Deep.RegionHeld3
/-! slices.Insert of one element into a row of the call's own, wherever. No condition. -/
namespace Go.Proofs.Ytmjfbilhalkegaa
set_option linter.unusedVariables false
set_option linter.unusedSimpArgs false
open Go.RowKit

theorem info_ord : ∃ i z, Try.prog.info? 30 = some i ∧ i.zero = some z ∧ i.size = 5 ∧ i.bytes ≤ 512 ∧ z.cells.size = 5 := by
  have h : (Try.prog.info? 30).map (fun i => (i.size, decide (i.bytes ≤ 512), i.zero.map (·.cells.size))) = some (5, true, some 5) := by kernel_rfl
  cases hi : Try.prog.info? 30 with
  | none => simp [hi] at h
  | some i =>
    simp [hi] at h
    obtain ⟨h1, h2, z, h3, h4⟩ := h
    exact ⟨i, z, rfl, h3, h1, h2, h4⟩
theorem size_ord (w : World) : (Go.sizeOf 30).run Try.prog w = .ok 5 w := by kernel_rfl
theorem hsz_ord : (Try.prog.info? 30).map (·.size) = some 5 := by kernel_rfl
set_option maxHeartbeats 4000000 in
set_option maxRecDepth 100000 in
/-- there is room: in place -/
theorem insroom_ord (base k i g rc gx : Nat) (xs : List Value) (B cur : Array Value) (w : World) (hbg : base ≤ g) (hg : w.heap[g]? = some (.cells cur 30 (0, 0))) (hcs : cur.size = rc * 5) (hxs : cur.toList.take (k * 5) = xs) (hlen : xs.length = k * 5) (h1x : ∀ v ∈ xs, v.oneCell' = true)
    (hi : i < k) (hroom : k + 1 ≤ rc) (hrc : rc ≤ 9223372036854775807) (hB : B.size = 5) (hB1 : B.all (·.oneCell') = true) (hx : w.heap[gx]? = some (.cells B 30 (0, 0))) (hne : gx ≠ g) :
    Calls Try.prog 51 #[.slice (some ⟨g, 0, none⟩) k rc, .int .i64 i, .slice (some ⟨gx, 0, none⟩) 1 1] w fun e w' => e = .returned (.slice (some ⟨g, 0, none⟩) (k + 1) rc) ∧ w'.ownsRow base 30 5 (.slice (some ⟨g, 0, none⟩) (k + 1) rc) (k + 1) (xs.take (i * 5) ++ B.toList ++ xs.drop (i * 5)) ∧ w.grownBy w' (some g) := by
  have hgd : w.drew.heap[g]? = some (.cells cur 30 (0, 0)) := hg
  have hat : ∀ j, j < k * 5 → cur[j]? = xs[j]? := fun j hj => by rw [← hxs, List.getElem?_take, if_pos hj, Array.getElem?_toList]
  have hBl : B.toList.length = 5 := by simp [hB]
  have h1B : ∀ v ∈ B.toList, v.oneCell' = true := fun u hu => by rw [Array.all_eq_true'] at hB1; exact hB1 u (by simpa using hu)
  obtain ⟨news, hnews⟩ : ∃ news, news = xs.drop (i * 5) := ⟨_, rfl⟩
  have hnl : news.length = (k - i) * 5 := by rw [hnews, List.length_drop, hlen]; omega
  have hget : ∀ t, news[t]? = xs[i * 5 + t]? := fun t => by rw [hnews, List.getElem?_drop]
  obtain ⟨W1, hW1⟩ : ∃ W1, W1 = w.drew.setCells g ((i + 1) * 5) news := ⟨_, rfl⟩
  obtain ⟨A1, a1, a2, a3, a4, a5⟩ := setc_block news ((i + 1) * 5) w.drew cur hgd (by omega)
  rw [← hW1] at a1
  have hx1 : W1.heap[gx]? = some (.cells B 30 (0, 0)) := by rw [hW1, setc_other hne]; exact hx
  obtain ⟨A2, b1, b2, b3, b4, b5⟩ := setc_block B.toList (i * 5) W1 A1 a1 (by rw [a2, hBl]; omega)
  have hov : ∀ lb cb, (callFunc 53 #[.slice (some ⟨gx, 0, none⟩) 1 1, .slice (some ⟨g, (i + 1) * 5, none⟩) lb cb]).run Try.prog w = .ok (.value (.bool false)) w := fun lb cb => by
    rw [run_callFunc_extern Try.func53 (by kernel_rfl) (by kernel_rfl) (by kernel_rfl) (e := Extern.SlicesOverlaps.overlaps #[35, 35] #[4]) (by kernel_rfl),
      Lib.run_overlaps_apart w 35 4 30 Try.underlying35 5 size_ord ⟨gx, 0, none⟩ ⟨g, (i + 1) * 5, none⟩ 1 1 lb cb hne 30 30 5 cur.size (by unfold World.shape?; rw [show (⟨gx, 0, none⟩ : Addr).block = gx from rfl, hx]; simp [hB]) (by unfold World.shape?; rw [show (⟨g, (i + 1) * 5, none⟩ : Addr).block = g from rfl, hg]) (by omega) ((cells_of hx).2.1 0) ((cells_of hx).2.1 5)]
    rfl
  have hcp1 : ∀ ty dc sc, (Builtin.copy_ #[35, 35] ty #[.slice (some ⟨g, (i + 1) * 5, none⟩) (k - i) dc, .slice (some ⟨g, i * 5, none⟩) (k + 1 - i) sc]).run Try.prog w.drew = .ok (goInt (Nat.min (k + 1 - i) (k - i))) W1 := fun ty dc sc => by
    rw [hW1]
    refine run_copy_c w.drew _ _ ty 30 g ((i + 1) * 5) (k - i) dc ⟨g, i * 5, none⟩ (k + 1 - i) sc 5 news Try.underlying35 hsz_ord ?_ (fun j v hj => ?_) (fun j hj => ?_) (fun j hj => (cells_of hgd).2.1 _) (fun v hv => h1x v (by rw [hnews] at hv; exact List.mem_of_mem_drop hv))
    · rw [hnl, show Nat.min (k + 1 - i) (k - i) = k - i by simp only [Nat.min_def]; split <;> omega]
    · have h2 : (⟨g, i * 5, none⟩ : Addr).add j = ⟨g, i * 5 + j, none⟩ := by unfold Addr.add; split <;> simp_all
      have hlt : j < news.length := (List.getElem?_eq_some_iff.1 hj).1
      rw [h2, cellF hgd, hat _ (by omega), ← hget, hj]
    · rw [cellF hgd, Array.getElem?_eq_getElem (by omega)]; rfl
  have hcp2 : ∀ (W : World), W.heap[g]? = W1.heap[g]? → W.heap[gx]? = W1.heap[gx]? → ∀ ty dc, (Builtin.copy_ #[35, 35] ty #[.slice (some ⟨g, i * 5, none⟩) (k + 1 - i) dc, .slice (some ⟨gx, 0, none⟩) 1 1]).run Try.prog W = .ok (goInt (Nat.min 1 (k + 1 - i))) (W.setCells g (i * 5) B.toList) := fun W e1 e2 ty dc => by
    have hWg := e1.trans a1
    have hWx := e2.trans hx1
    refine run_copy_c W _ _ ty 30 g (i * 5) (k + 1 - i) dc ⟨gx, 0, none⟩ 1 1 5 B.toList Try.underlying35 hsz_ord ?_ (fun j v hj => ?_) (fun j hj => ?_) (fun j hj => (cells_of hWg).2.1 _) h1B
    · rw [hBl, show Nat.min 1 (k + 1 - i) = 1 by simp only [Nat.min_def]; split <;> omega]
    · have h2 : (⟨gx, 0, none⟩ : Addr).add j = ⟨gx, j, none⟩ := by unfold Addr.add; split <;> simp_all
      rw [h2, cellF hWx]
      simpa using hj
    · rw [cellF hWg, Array.getElem?_eq_getElem (by omega)]; rfl
  have HO : Hid ((W1.setCells g (i * 5) B.toList).ownsRow base 30 5 (.slice (some ⟨g, 0, none⟩) (k + 1) rc) (k + 1) (xs.take (i * 5) ++ B.toList ++ xs.drop (i * 5)) ∧ w.grownBy (W1.setCells g (i * 5) B.toList) (some g)) := by
    have hmid := mid_of (A := A2) (xs := xs) (bs := B.toList) (p := i * 5) (n := (k + 1) * 5) (by omega) (by omega) (by omega) (fun j hj => by rw [b3 j hj, a3 j (by omega), hat j (by omega)]) (fun j hj => b4 j hj) (fun j h1 h2 => by
      rw [b5 _ (by omega), show j + B.toList.length = (i + 1) * 5 + (j - i * 5) by omega, a4 _ (by omega), hget]
      congr 1
      omega)
    refine ⟨⟨by rw [List.length_append, List.length_append, List.length_take, List.length_drop]; omega, .inr ⟨g, rc, A2, rfl, hbg, b1, hroom, by unfold maxLen; omega, by omega, hmid⟩⟩, ?_⟩
    have hbel : Below 0 w (W1.setCells g (i * 5) B.toList) := by rw [hW1]; exact setc_below (Nat.zero_le _) _ _ _ (setc_below (Nat.zero_le _) _ _ _ (Below.drew (Below.refl _ _)))
    exact ⟨hbel.1, hbel.2, hbel.3, hbel.size, fun b _ hb => by
      have hb' : b ≠ g := fun e => hb (by rw [e])
      rw [setc_other hb', hW1, setc_other hb']
      rfl⟩
  have hgd1 : W1.heap[g]? = W1.heap[g]? := rfl
  have hw1 : IntKind.i64.wrap ((i : Int) + 1) = (i : Int) + 1 := by rw [IntKind.wrap_i64]; omega
  have htn : ((i : Int) + 1).toNat = i + 1 := by omega
  have hik : ¬ ((i : Int) = (k : Int)) := by omega
  have hi1 : ¬ (rc = i + 1) := by omega
  have hi2 : ¬ (rc = i) := by omega
  have hb1 : (0 : Int) ≤ (i : Int) + 1 := by omega
  have hb2 : (i : Int) + 1 ≤ (k : Int) + 1 := by omega
  have hb3 : (i : Int) ≤ (k : Int) := by omega
  have hb4 : ¬ ((rc : Int) < (k : Int) + 1) := by omega
  have hb5 : (i : Int) ≤ (k : Int) + 1 := by omega
  clear hgd hat hget a1 a2 a3 a4 a5 b1 b2 b3 b4 b5 hx1 hnews hnl hg hx hxs hlen h1x h1B hW1
  go_enter Try.func51, Try.ntmps51
  go_wp2_with (simp only [hov])
  go_region_law (refine step_copy_runI rfl _ _ 35 35 rfl _ _ (by simp [Act.eval, Act.put]) (by simp [Act.eval, Act.put]) (hcp1 _ _ _) ?_)
  go_wp2_with (at_builtin; refine wpList_copy_runI _ rfl _ _ 35 35 rfl _ _ rfl rfl (hcp2 _ rfl rfl _ _) ?_)
  go_ret
  exact ⟨rfl, HO.out⟩
set_option maxHeartbeats 4000000 in
set_option maxRecDepth 100000 in
/-- there is none: a new row -/
theorem insgrow_ord (base k i g rc gx : Nat) (xs : List Value) (B cur : Array Value) (w : World) (hg : w.heap[g]? = some (.cells cur 30 (0, 0))) (hxs : cur.toList.take (k * 5) = xs) (hlen : xs.length = k * 5) (h1x : ∀ v ∈ xs, v.oneCell' = true)
    (hi : i < k) (hk : k ≤ 1000) (hkr : k ≤ rc) (hroom : rc < k + 1) (hB : B.size = 5) (hB1 : B.all (·.oneCell') = true) (hx : w.heap[gx]? = some (.cells B 30 (0, 0))) (hbw : base ≤ w.heap.size) :
    Calls Try.prog 51 #[.slice (some ⟨g, 0, none⟩) k rc, .int .i64 i, .slice (some ⟨gx, 0, none⟩) 1 1] w fun e w' => ∃ v', e = .returned v' ∧ w'.ownsRow base 30 5 v' (k + 1) (xs.take (i * 5) ++ B.toList ++ xs.drop (i * 5)) ∧ w.grownBy w' (some g) := by
  obtain ⟨i0, z, hi0, hz0, hzs, hzb, hzc⟩ := info_ord
  have hat : ∀ j, j < k * 5 → cur[j]? = xs[j]? := fun j hj => by rw [← hxs, List.getElem?_take, if_pos hj, Array.getElem?_toList]
  have hBl : B.toList.length = 5 := by simp [hB]
  have h1B : ∀ v ∈ B.toList, v.oneCell' = true := fun u hu => by rw [Array.all_eq_true'] at hB1; exact hB1 u (by simpa using hu)
  have hgw : g < w.heap.size := (Array.getElem?_eq_some_iff.1 hg).1
  have hxw : gx < w.heap.size := (Array.getElem?_eq_some_iff.1 hx).1
  have hbig : (k + 1) * i0.bytes ≤ 140737488355328 := by have := Nat.mul_le_mul (show k + 1 ≤ 1001 by omega) hzb; omega
  have hold : (Builtin.firstCells i0.size i (.slice (some ⟨g, 0, none⟩) i rc)).run Try.prog w.drew = .ok (xs.take (i * 5)).toArray w.drew := by
    rw [hzs]
    exact run_firstCells_some w.drew 5 i ⟨g, 0, none⟩ i rc (xs.take (i * 5)) (by rw [List.length_take]; omega) (fun j v hj => by
      have h2 : (⟨g, 0, none⟩ : Addr).add j = ⟨g, j, none⟩ := by unfold Addr.add; split <;> simp_all
      rw [List.getElem?_take] at hj
      split at hj
      · rw [h2, cellF (w := w.drew) hg, hat _ (by omega)]; exact hj
      · cases hj)
  obtain ⟨G, hG⟩ : ∃ G, G = grownCap w (k + 1) rc 30 := ⟨_, rfl⟩
  obtain ⟨R, hR⟩ : ∃ R : Array Value, R = (xs.take (i * 5)).toArray ++ Builtin.zeroCells z.cells (k + 1 - i) ++ Builtin.zeroCells z.cells (G - (k + 1)) := ⟨_, rfl⟩
  have hrz : ∀ ty, (Builtin.append_ #[35, 3] ty #[.slice (some ⟨g, 0, none⟩) i rc, .int .i64 ((k : Int) + 1 - i)]).run Try.prog w = .ok (.slice (some ⟨w.heap.size, 0, none⟩) (k + 1) G) (w.drew.alloc (.cells R 30)) := fun ty => by
    have h := Lib.run_append_grow_zeros w 35 3 ty 30 i0 z .i64 .i64 Try.underlying35 Try.underlying3 hi0 hz0 (some ⟨g, 0, none⟩) i rc (xs.take (i * 5)) hold (k + 1 - i) (by omega) (by omega) (by omega) (by omega) (by have := Nat.mul_le_mul (show k + 1 - i ≤ 1001 by omega) hzb; omega) (by rw [show i + (k + 1 - i) = k + 1 by omega]; exact growslice_fits hroom hbig)
    rw [show i + (k + 1 - i) = k + 1 by omega, ← hG, ← hR] at h
    rw [show (k : Int) + 1 - i = ((k + 1 - i : Nat) : Int) by omega]
    exact h
  have hGn : k + 1 ≤ G := by rw [hG]; exact grownCap_ge w _ _ _
  have hG63 : G ≤ 9223372036854775807 := by
    have := grownCap_le_maxLen w (k + 1) rc 30 (by unfold maxLen; omega)
    rw [← hG] at this
    unfold maxLen at this
    omega
  have hRs : R.size = G * 5 := by
    rw [hR]
    simp [Builtin.zeroCells, hzc, hlen]
    omega
  have hR0 : ∀ j, j < i * 5 → R[j]? = xs[j]? := fun j hj => by
    rw [hR, Array.append_assoc, Array.getElem?_append_left (by simp [hlen]; omega), List.getElem?_toArray, List.getElem?_take, if_pos hj]
  obtain ⟨nb, hnb⟩ : ∃ nb, nb = w.heap.size := ⟨_, rfl⟩
  rw [← hnb] at hrz hbw hgw hxw
  obtain ⟨W1, hW1⟩ : ∃ W1, W1 = w.drew.alloc (.cells R 30) := ⟨_, rfl⟩
  have hn1 : W1.heap[nb]? = some (.cells R 30 (0, 0)) := by rw [hW1, hnb]; exact heap_alloc_new w.drew _
  have hg1 : W1.heap[g]? = some (.cells cur 30 (0, 0)) := by rw [hW1]; exact heap_up (W := w.drew) hg
  have hx1 : W1.heap[gx]? = some (.cells B 30 (0, 0)) := by rw [hW1]; exact heap_up (W := w.drew) hx
  rw [← hW1] at hrz
  obtain ⟨news, hnews⟩ : ∃ news, news = xs.drop (i * 5) := ⟨_, rfl⟩
  have hnl : news.length = (k - i) * 5 := by rw [hnews, List.length_drop, hlen]; omega
  have hget : ∀ t, news[t]? = xs[i * 5 + t]? := fun t => by rw [hnews, List.getElem?_drop]
  have hngx : gx ≠ nb := by omega
  have hng : g ≠ nb := by omega
  obtain ⟨A1, a1, a2, a3, a4, a5⟩ := setc_block B.toList (i * 5) W1 R hn1 (by rw [hBl, hRs]; omega)
  obtain ⟨W2, hW2⟩ : ∃ W2, W2 = W1.setCells nb (i * 5) B.toList := ⟨_, rfl⟩
  rw [← hW2] at a1
  have hg2 : W2.heap[g]? = some (.cells cur 30 (0, 0)) := by rw [hW2, setc_other hng]; exact hg1
  obtain ⟨A2, b1, b2, b3, b4, b5⟩ := setc_block news ((i + 1) * 5) W2.drew A1 a1 (by rw [a2, hRs, hnl]; omega)
  have hcpA : ∀ ty dc, (Builtin.copy_ #[35, 35] ty #[.slice (some ⟨nb, i * 5, none⟩) (k + 1 - i) dc, .slice (some ⟨gx, 0, none⟩) 1 1]).run Try.prog W1 = .ok (goInt (Nat.min 1 (k + 1 - i))) W2 := fun ty dc => by
    rw [hW2]
    refine run_copy_c W1 _ _ ty 30 nb (i * 5) (k + 1 - i) dc ⟨gx, 0, none⟩ 1 1 5 B.toList Try.underlying35 hsz_ord ?_ (fun j v hj => ?_) (fun j hj => ?_) (fun j hj => (cells_of hn1).2.1 _) h1B
    · rw [hBl, show Nat.min 1 (k + 1 - i) = 1 by simp only [Nat.min_def]; split <;> omega]
    · have h2 : (⟨gx, 0, none⟩ : Addr).add j = ⟨gx, j, none⟩ := by unfold Addr.add; split <;> simp_all
      rw [h2, cellF hx1]
      simpa using hj
    · rw [cellF hn1, Array.getElem?_eq_getElem (by rw [hRs]; omega)]; rfl
  have hcpB : ∀ ty dc sc, (Builtin.copy_ #[35, 35] ty #[.slice (some ⟨nb, (i + 1) * 5, none⟩) (k - i) dc, .slice (some ⟨g, i * 5, none⟩) (k - i) sc]).run Try.prog W2.drew = .ok (goInt (Nat.min (k - i) (k - i))) (W2.drew.setCells nb ((i + 1) * 5) news) := fun ty dc sc => by
    refine run_copy_c W2.drew _ _ ty 30 nb ((i + 1) * 5) (k - i) dc ⟨g, i * 5, none⟩ (k - i) sc 5 news Try.underlying35 hsz_ord ?_ (fun j v hj => ?_) (fun j hj => ?_) (fun j hj => (cells_of (w := W2.drew) a1).2.1 _) (fun v hv => h1x v (by rw [hnews] at hv; exact List.mem_of_mem_drop hv))
    · rw [hnl, show Nat.min (k - i) (k - i) = k - i by simp only [Nat.min_def]; split <;> omega]
    · have h2 : (⟨g, i * 5, none⟩ : Addr).add j = ⟨g, i * 5 + j, none⟩ := by unfold Addr.add; split <;> simp_all
      have hlt : j < news.length := (List.getElem?_eq_some_iff.1 hj).1
      rw [h2, cellF (w := W2.drew) hg2, hat _ (by omega), ← hget, hj]
    · rw [cellF (w := W2.drew) a1, Array.getElem?_eq_getElem (by rw [a2, hRs]; omega)]; rfl
  have HO : Hid ((W2.drew.setCells nb ((i + 1) * 5) news).ownsRow base 30 5 (.slice (some ⟨nb, 0, none⟩) (k + 1) G) (k + 1) (xs.take (i * 5) ++ B.toList ++ xs.drop (i * 5)) ∧ w.grownBy (W2.drew.setCells nb ((i + 1) * 5) news) (some g)) := by
    have hmid := mid_of (A := A2) (xs := xs) (bs := B.toList) (p := i * 5) (n := (k + 1) * 5) (by omega) (by omega) (by rw [b2, a2, hRs]; omega) (fun j hj => by rw [b3 j (by omega), a3 j hj, hR0 j hj]) (fun j hj => by rw [b3 _ (by omega), a4 j hj]) (fun j h1 h2 => by
      rw [show j + B.toList.length = (i + 1) * 5 + (j - i * 5) by omega, b4 _ (by omega), hget]
      congr 1
      omega)
    refine ⟨⟨by rw [List.length_append, List.length_append, List.length_take, List.length_drop]; omega, .inr ⟨nb, G, A2, rfl, hbw, b1, hGn, by unfold maxLen; omega, by rw [b2, a2, hRs], hmid⟩⟩, ?_⟩
    have hbel : Below w.heap.size w (W2.drew.setCells nb ((i + 1) * 5) news) := by
      rw [hW2, hW1, hnb]
      exact setc_below (Nat.le_refl _) _ _ _ (Below.drew (setc_below (Nat.le_refl _) _ _ _ (below_alloc (Below.drew (Below.refl _ _)) _)))
    exact ⟨hbel.1, hbel.2, hbel.3, hbel.size, fun b hb _ => hbel.block b hb⟩
  have hw1 : IntKind.i64.wrap ((i : Int) + 1) = (i : Int) + 1 := by rw [IntKind.wrap_i64]; omega
  have htn : ((i : Int) + 1).toNat = i + 1 := by omega
  have hik : ¬ ((i : Int) = (k : Int)) := by omega
  have hi1 : ¬ (G = i + 1) := by omega
  have hi2 : ¬ (G = i) := by omega
  have hi3 : ¬ (rc = i) := by omega
  have hb1 : (0 : Int) ≤ (i : Int) + 1 := by omega
  have hb2 : (i : Int) + 1 ≤ (k : Int) + 1 := by omega
  have hb3 : (i : Int) ≤ (k : Int) := by omega
  have hb4 : (rc : Int) < (k : Int) + 1 := by omega
  have hb5 : (i : Int) ≤ (k : Int) + 1 := by omega
  have hb6 : (i : Int) ≤ (rc : Int) := by omega
  clear hnb hat hget a1 a2 a3 a4 a5 b1 b2 b3 b4 b5 hx1 hg1 hg2 hn1 hnews hnl hg hx hxs hlen h1x h1B hW1 hW2 hR hRs hR0 hold hG hzs hzb hzc hbig
  go_enter Try.func51, Try.ntmps51
  go_wp2_with (first
    | (at_builtin; refine Lib.wpList_append_run _ rfl _ _ _ _ rfl _ _ rfl rfl _ _ (hrz _) ?_) | (at_builtin; refine wpList_copy_runI _ rfl _ _ 35 35 rfl _ _ rfl rfl (hcpA _ _) ?_))
  go_region_law (refine step_copy_runI rfl _ _ 35 35 rfl _ _ (by simp [Act.eval, Act.put]) (by simp [Act.eval, Act.put]) (hcpB _ _ _) ?_)
  go_wp2
  go_ret
  exact ⟨_, rfl, HO.out⟩
theorem at_append_ord {ops : Array Oper} {Q : Exit → Act → World → Prop} {rest : List Oper} {a : Act} {w : World} {d : Option Tmp} {x y : Operand} {ty : TypeId} {pos : String} {af : Array Edge} {gd : Option (Nat × Bool)}
    (h : wpList Try.prog ops Q (⟨d, .call { callee := .builtin .append, args := #[x, y], argTypes := #[35, 35] }, ty, pos, af, gd⟩ :: rest) a w) : wpList Try.prog ops Q (⟨d, .call { callee := .builtin .append, args := #[x, y], argTypes := #[35, 35] }, ty, pos, af, gd⟩ :: rest) a w := h
set_option maxRecDepth 100000 in
set_option maxHeartbeats 2000000 in
/-- behind the last -/
theorem insend_ord (base k : Nat) (xs : List Value) (v : Value) (gx : Nat) (B : Array Value) (w : World) (ho : w.ownsRow base 30 5 v k xs) (hk : k ≤ 1000) (hB : B.size = 5) (hB1 : B.all (·.oneCell') = true) (hx : w.heap[gx]? = some (.cells B 30 (0, 0))) (hb : base ≤ w.heap.size) :
    Calls Try.prog 51 #[v, .int .i64 k, .slice (some ⟨gx, 0, none⟩) 1 1] w fun e w' => ∃ v', e = .returned v' ∧ w'.ownsRow base 30 5 v' (k + 1) (xs ++ B.toList) ∧ w.grownBy w' v.ownBlock := by
  obtain ⟨i, z, h1, h2, h3, h4, h5⟩ := info_ord
  have HO := Lib.hid ho
  have HX := Lib.hid (fun j u (hj : B.toList[j]? = some u) => show w.cell? ((⟨gx, 0, none⟩ : Addr).add j) = some u from by
    have h2 : (⟨gx, 0, none⟩ : Addr).add j = ⟨gx, j, none⟩ := by unfold Addr.add; split <;> simp_all
    rw [h2, cellF hx]
    simpa using hj)
  have HB := Lib.hid (fun u (hu : u ∈ B.toList) => show u.oneCell' = true from by rw [Array.all_eq_true'] at hB1; exact hB1 u (by simpa using hu))
  have HL := Lib.hid (show B.toList.length = 1 * 5 by simp [hB])
  have HBY := Lib.hid (show (k + 1) * i.bytes ≤ 140737488355328 from by have := Nat.mul_le_mul (show k + 1 ≤ 1001 by omega) h4; omega)
  have hm : ((v = .slice none 0 0 ∧ k = 0) ∨ ∃ g rc, v = .slice (some ⟨g, 0, none⟩) k rc ∧ k ≤ rc ∧ rc ≤ 9223372036854775807) := by
    rcases ho.2 with h | ⟨g, cap, cur, hv, _, _, hn, hm, _⟩
    · exact .inl h
    · exact .inr ⟨g, cap, hv, hn, by unfold maxLen at hm; omega⟩
  clear ho hB1 hx
  rcases hm with ⟨rfl, rfl⟩ | ⟨g, rc, rfl, hkr, hrc⟩
  · go_enter Try.func51, Try.ntmps51
    go_wp2_with ((with_reducible refine at_append_ord ?_); refine wpList_append_own w rfl _ _ _ rfl base 30 i z 5 i.bytes Try.underlying35 h1 h2 h3 rfl h5 (by omega) _ _ _ rfl HO.out ⟨gx, 0, none⟩ 1 1 B.toList rfl HL.out HX.out HB.out (by unfold maxLen; omega) HBY.out hb ?_; intro v' w1 ho1 hg1 _)
    go_ret
    exact ⟨_, rfl, ho1, hg1⟩
  · by_cases hck : rc = k
    · subst hck
      go_enter Try.func51, Try.ntmps51
      go_wp2_with ((with_reducible refine at_append_ord ?_); refine wpList_append_own w rfl _ _ _ rfl base 30 i z 5 i.bytes Try.underlying35 h1 h2 h3 rfl h5 (by omega) _ _ _ rfl HO.out ⟨gx, 0, none⟩ 1 1 B.toList rfl HL.out HX.out HB.out (by unfold maxLen; omega) HBY.out hb ?_; intro v' w1 ho1 hg1 _)
      go_ret
      exact ⟨_, rfl, ho1, hg1⟩
    · go_enter Try.func51, Try.ntmps51
      go_wp2_with ((with_reducible refine at_append_ord ?_); refine wpList_append_own w rfl _ _ _ rfl base 30 i z 5 i.bytes Try.underlying35 h1 h2 h3 rfl h5 (by omega) _ _ _ rfl HO.out ⟨gx, 0, none⟩ 1 1 B.toList rfl HL.out HX.out HB.out (by unfold maxLen; omega) HBY.out hb ?_; intro v' w1 ho1 hg1 _)
      go_ret
      exact ⟨_, rfl, ho1, hg1⟩
/-- slices.Insert of one element at whatever place of a row of the call's own -/
theorem insany_ord (base k i : Nat) (L : Nat → Array Value) (v : Value) (gx : Nat) (B : Array Value) (w : World) (hL : ∀ i, (L i).size = 5) (h1L : ∀ i, (L i).all (·.oneCell') = true) (ho : w.ownsRow base 30 5 v k (flat L k)) (hk : k ≤ 1000) (hi : i ≤ k) (hB : B.size = 5) (hB1 : B.all (·.oneCell') = true)
    (hx : w.heap[gx]? = some (.cells B 30 (0, 0))) (hne : some gx ≠ v.ownBlock) (hb : base ≤ w.heap.size) :
    Calls Try.prog 51 #[v, .int .i64 i, .slice (some ⟨gx, 0, none⟩) 1 1] w fun e w' => ∃ v', e = .returned v' ∧ w'.ownsRow base 30 5 v' (k + 1) (flat (ins L i B) (k + 1)) ∧ w.grownBy w' v.ownBlock := by
  have hfl := flatc_len hL k
  rw [← flat_ins (by omega) hL hB hi]
  by_cases hik : i = k
  · subst hik
    rw [List.take_of_length_le (by rw [hfl]; omega), List.drop_of_length_le (by rw [hfl]; omega), List.append_nil]
    exact insend_ord base i (flat L i) v gx B w ho hk hB hB1 hx hb
  · obtain ⟨_, ⟨rfl, h0⟩ | ⟨g, cap, cur, rfl, hbg, hg, hn, hm, hc, ht⟩⟩ := ho
    · omega
    · have hng : gx ≠ g := fun e => hne (by rw [e]; rfl)
      unfold maxLen at hm
      by_cases hroom : k + 1 ≤ cap
      · exact (insroom_ord base k i g cap gx (flat L k) B cur w hbg hg hc ht hfl (flatc_one h1L k) (by omega) hroom (by omega) hB hB1 hx hng).mono fun e w' ⟨h1, h2, h3⟩ => ⟨_, h1, h2, h3⟩
      · exact insgrow_ord base k i g cap gx (flat L k) B cur w hg ht hfl (flatc_one h1L k) (by omega) hk hn (by omega) hB hB1 hx hb
end Go.Proofs.Ytmjfbilhalkegaa
/-! The small functions of fixnum and spec return what their plain readings say. Condition: the numbers fit an int64. -/
namespace Go.Proofs.Ytmjfbilhalkegaa
set_option linter.unusedVariables false
set_option linter.unusedSimpArgs false
open Go.RowKit

/-- from least to most -/
def inB (n l m : Int) : Bool := decide (l ≤ n ∧ n ≤ m)
theorem inB_iff {n l m : Int} : inB n l m = true ↔ l ≤ n ∧ n ≤ m := by simp [inB]
theorem inB_no {n l m : Int} : inB n l m = false ↔ ¬ (l ≤ n ∧ n ≤ m) := by simp [inB]
def F64 (n : Int) : Prop := -9223372036854775808 ≤ n ∧ n ≤ 9223372036854775807
/-- a price of that tick -/
def prB (tick n : Int) : Bool := inB n 1 10000000 && decide (n % tick = 0)








end Go.Proofs.Ytmjfbilhalkegaa
/-! Add: an order that may be, of a new number, to a side that has room. Condition: the side is one. -/
namespace Go.Proofs.Ytmjfbilhalkegaa
set_option linter.unusedVariables false
set_option linter.unusedSimpArgs false
open Go.RowKit Go.Deep

/-- may the order be? -/
def okO (A : Array Value) : Bool := !decide (N A 0 = 0) && !decide (N A 1 = 0) && inB (N A 3) 1 10000000 && inB (N A 4) 1 1000000
theorem smay_yes (A : Array Value) (w : World) (h : IsOrd A) (hA : okO A = true) :
    Calls Try.prog 26 #[.agg A] w fun e w' => e = .returned (.bool true) ∧ Below w.heap.size w w' := by
  have hsz := h.size
  have a0 : A[0]? = some (.int .u64 (N A 0)) := h.n.1
  have a1 : A[1]? = some (.int .u32 (N A 1)) := h.a.1
  have a3 : A[3]? = some (.int .i64 (N A 3)) := h.p.1
  have a4 : A[4]? = some (.int .i64 (N A 4)) := h.l.1
  have Hsz := Lib.hid hsz
  simp only [okO, Bool.and_eq_true, Bool.not_eq_true', decide_eq_false_iff_not, inB_iff] at hA
  obtain ⟨⟨⟨q0, q1⟩, q3, q3'⟩, q4, q4'⟩ := hA
  clear hsz h
  generalize N A 0 = x0 at *
  generalize N A 1 = x1 at *
  generalize N A 3 = x3 at *
  generalize N A 4 = x4 at *
  have q0' : (x0 != 0) = true := by simp [q0]
  have q1' : (x1 != 0) = true := by simp [q1]
  go_enter Try.func26, Try.ntmps26
  go_wp2
  go_ret
  exact ⟨by first | rfl | (simp [*]; done) | (simp [*]; omega), below_new _ _⟩
/-- whatever is no row of orders, but g, stays -/
def Ko (g : Nat) (A B : World) : Prop := ∀ i o, (∀ c fr, o ≠ Obj.cells c 30 fr) → i ≠ g → A.heap[i]? = some o → B.heap[i]? = some o
theorem Ko.refl (g : Nat) (A : World) : Ko g A A := fun _ _ _ _ h => h
theorem Ko.trans {g : Nat} {A B C : World} (h1 : Ko g A B) (h2 : Ko g B C) : Ko g A C := fun i o ho hi h => h2 i o ho hi (h1 i o ho hi h)
theorem ko_below {g : Nat} {A B : World} (h : Below A.heap.size A B) : Ko g A B := fun i o _ _ h1 => Ytmjfbilhalkegaa.kept h h1
theorem Ko.cells {g : Nat} {A B : World} (h : Ko g A B) (i : Nat) (c : Array Value) (t : TypeId) (fr : Nat × Nat) (ht : t ≠ 30) (hi : i ≠ g) (hA : A.heap[i]? = some (.cells c t fr)) : B.heap[i]? = some (.cells c t fr) :=
  h i _ (fun _ _ e => ht (by injection e)) hi hA
theorem side_grown {w w1 w5 : World} {g base k i : Nat} {buy : Bool} {L : Nat → Array Value} {B : Array Value} {v v5 : Value} (hS : SideIs w g base k buy L) (hk : k < 1000) (hg : w.heap[g]? = some (.cells #[.bool true, .bool buy, v] 77 (0, 0)))
    (hB : Below w.heap.size w w1) (hord : IsOrd B) (hoq : w1.ownsRow base 30 5 v k (flat L k)) (hg5 : w1.grownBy w5 v.ownBlock) (ho5 : w5.ownsRow base 30 5 v5 (k + 1) (flat (ins L i B) (k + 1))) :
    w5.heap[g]? = some (.cells #[.bool true, .bool buy, v] 77 (0, 0)) ∧ SideIs (w5.setCell ⟨g, 2, none⟩ v5) g base (k + 1) buy (ins L i B) ∧ Below base w (w5.setCell ⟨g, 2, none⟩ v5) ∧ Ko g w (w5.setCell ⟨g, 2, none⟩ v5) := by
  have hg1 := Ytmjfbilhalkegaa.kept hB hg
  have hne : some g ≠ v.ownBlock := fun e => by
    obtain ⟨A9, fr9, h9⟩ := own_tag hoq g e.symm
    rw [hg1] at h9; injection h9 with h9; injection h9 with _ h9; exact absurd h9 (by decide)
  have hgw : g < w.heap.size := (Array.getElem?_eq_some_iff.1 hg).1
  have hgq5 := (hg5.block g (by have := hB.size; omega) hne).trans hg1
  have hbg := hS.bg
  refine ⟨hgq5, ⟨⟨v5, heap_set (i := 2) (v := v5) hgq5, ?_⟩, fun j => ?_, hbg, by omega⟩, ?_, fun i o ho hi hw => ?_⟩
  · refine ownsRow_setCell_other ho5 (fun e => ?_) _
    obtain ⟨A, fr, h⟩ := own_tag ho5 _ e
    rw [show w5.heap[(⟨g, 2, none⟩ : Addr).block]? = w5.heap[g]? from rfl, hgq5] at h
    injection h with h; injection h with _ h; exact absurd h (by decide)
  · unfold ins
    split
    · exact hS.ord j
    · split
      · exact hord
      · exact hS.ord _
  · exact below_set (((hB.mono (by omega)).grown hg5 (by have := hB.size; omega) (fun j e => (hoq.lt j e).1))) hbg
  · have hw1 := Ytmjfbilhalkegaa.kept hB hw
    have hlt := (Array.getElem?_eq_some_iff.1 hw1).1
    have h5 := (hg5.block i hlt (fun e => by
      obtain ⟨A9, fr9, h9⟩ := own_tag hoq i e.symm
      rw [hw1] at h9; exact ho A9 fr9 (Option.some.inj h9))).trans hw1
    exact (heap_setCell_other w5 ⟨g, 2, none⟩ i v5 hi).trans h5
end Go.Proofs.Ytmjfbilhalkegaa
/-! Add of an order that may be, walked. Condition: the side is one. -/
namespace Go.Proofs.Ytmjfbilhalkegaa
set_option linter.unusedVariables false
set_option linter.unusedSimpArgs false
open Go.RowKit Go.Deep

/-- where the order goes -/
def plc (buy : Bool) (L : Nat → Array Value) (B : Array Value) (k : Nat) : Nat := if fi (fun i => bet buy (N B 3) (N (L i) 3)) k < 0 then k else (fi (fun i => bet buy (N B 3) (N (L i) 3)) k).toNat
theorem plc_le {buy : Bool} {L : Nat → Array Value} {B : Array Value} {k : Nat} : plc buy L B k ≤ k := by
  have := fi_bd (q := fun i => bet buy (N B 3) (N (L i) 3)) k
  unfold plc
  split <;> omega
theorem fi_no {q : Nat → Bool} : ∀ k, (∀ j, j < k → q j = false) → fi q k = -1
  | 0, _ => rfl
  | k + 1, h => by rw [fi_next (fi_no k fun j hj => h j (by omega)) (h k (by omega))]
set_option maxRecDepth 100000 in
set_option maxHeartbeats 4000000 in
theorem sadd_ok {w : World} {g base k : Nat} {L : Nat → Array Value} {B : Array Value} (buy : Bool) (h : SideIs w g base k buy L) (hB : IsOrd B) (hok : okO B = true) (hbuy : Bo B 2 = buy) (hfr : ∀ i, i < k → N (L i) 0 ≠ N B 0) (hk : k < 100) :
    Calls Try.prog 43 #[.pointer (some ⟨g, 0, none⟩), .agg B] w fun e w' => e = .returned (.int .i64 0) ∧ SideIs w' g base (k + 1) buy (ins L (plc buy L B k) B) ∧ Below base w w' ∧ Ko g w w' := by
  have hb2 := below_alloc (below_new w (Obj.cells #[.pointer (some ⟨g, 0, none⟩)] 54)) (Obj.cells B 30)
  have hgo : ((w.alloc (Obj.cells #[.pointer (some ⟨g, 0, none⟩)] 54)).alloc (Obj.cells B 30)).heap[w.heap.size + 1]? = some (.cells B 30 (0, 0)) := by repeat (first | exact heap_new (by simp; done) | refine heap_up ?_)
  have hgs : ((w.alloc (Obj.cells #[.pointer (some ⟨g, 0, none⟩)] 54)).alloc (Obj.cells B 30)).heap[w.heap.size]? = some (.cells #[.pointer (some ⟨g, 0, none⟩)] 54 (0, 0)) := by repeat (first | exact heap_new (by simp; done) | refine heap_up ?_)
  obtain ⟨w2, hw2⟩ : ∃ w2, w2 = (w.alloc (Obj.cells #[.pointer (some ⟨g, 0, none⟩)] 54)).alloc (Obj.cells B 30) := ⟨_, rfl⟩
  have HS := Lib.hid h
  obtain ⟨v, hg, hrow⟩ := h.row
  obtain ⟨ra, rc, rfl, hR, _⟩ := own_rows (c := 5) (fun i => (h.ord i).size) hrow
  have HR := Lib.hid hR
  have HG := Lib.hid hg
  have HROW := Lib.hid hrow
  have hN0 := hB.n.1
  have hB2 : B[2]? = some (.bool buy) := by rw [← hbuy]; exact hB.b
  have HB := Lib.hid hB
  have HEX := Lib.hid (extract_all hB.size)
  have CM := Lib.hid (fun w1 => smay_yes B w1 hB hok)
  have HAT := Lib.hid (fi_no (q := fun i => decide (N (L i) 0 = N B 0)) k fun j hj => decide_eq_false (hfr j hj))
  clear h hB hok hfr hg hrow hbuy hR
  go_enter Try.func43, Try.ntmps43
  rw [← hw2] at hb2 hgo hgs
  have hS2 := HS.out.kept hb2
  have hg2 := Ytmjfbilhalkegaa.kept hb2 HG.out
  have cs2 := cellF hgs
  have co2 := cellF hgo
  have cg2 := cellF hg2
  have cr := sready_yes hS2
  rw [hw2] at cs2 co2 cg2 cr
  go_wp2_with ((go_at_call 39; (with_reducible refine (cr).mono ?_); rintro e w1 ⟨rfl, rfl⟩))
  rw [← hw2] at cs2 co2 cg2 cr ⊢
  have hsz2 : w2.heap.size = w.heap.size + 2 := by rw [hw2]; simp
  clear hw2 cr cs2 co2 cg2
  refine wp_region_below (by kernel_rfl) (by kernel_rfl) ?_
  repeat (first | ((with_reducible apply q_skip); (case hw => rfl); (try simp only [Act.put, List.setIfInBounds_toArray, List.set_cons_zero, List.set_cons_succ])) | ((with_reducible refine at_qload 30 ?_); refine q_load_part (by rfl) 30 _ rfl (w.heap.size + 1) (0) rfl _ (B) _ 5 (hgo) Try.underlying30 rfl (by kernel_rfl) (by rw [HB.out.size]; omega) (B) (HEX.out) ?_; try simp only [Act.put, List.setIfInBounds_toArray, List.set_cons_zero, List.set_cons_succ]) | ((with_reducible refine at_qcall 26 ?_); refine q_call_below _ 26 _ (by rfl) (CM.out) (fun wq hbq => by go_simp) ?_; try simp only [Act.put, List.setIfInBounds_toArray, List.set_cons_zero, List.set_cons_succ]) | ((with_reducible apply q_val); (case hw => rfl); (case hv => intro wq hbq; have hcq := cellF (Ytmjfbilhalkegaa.kept hbq hgo); have hcr := cellF (Ytmjfbilhalkegaa.kept hbq hg2); have hcs := cellF (Ytmjfbilhalkegaa.kept hbq hgs); go_simp; try rfl); (try simp only [Act.put, List.setIfInBounds_toArray, List.set_cons_zero, List.set_cons_succ])))
  refine q_nil ?_
  intro w6 hb6
  have hb62 := below_then hb2 hb6
  have hS6 := HS.out.kept hb62
  have hgo6 := Ytmjfbilhalkegaa.kept hb6 hgo
  have hgs6 := Ytmjfbilhalkegaa.kept hb6 hgs
  have hg6 := Ytmjfbilhalkegaa.kept hb6 hg2
  have ca := sat_any (N B 0) hS6
  rw [HAT.out] at ca
  clear hS2 hg2 hgo hgs
  have co := cellF hgo6
  have cs := cellF hgs6
  have hmf : ∀ (fn : Fn) (first cap : Array Value) (w : World), (Instr.makeFunc fn first cap).run Try.prog w = .ok (.func fn first cap) w := fun _ _ _ _ => rfl
  have h100 : ¬ (100 : Int) ≤ k := by omega
  go_wp2_with ((go_at_call 48; (with_reducible refine (ca).mono ?_); rintro e w7 ⟨rfl, hb7⟩; have cs7 := cellF (Ytmjfbilhalkegaa.kept hb7 hgs6); have cg7 := cellF (Ytmjfbilhalkegaa.kept hb7 hg6)))
  have hb67 := below_then hb62 hb7
  refine (idxadd_any ra rc k L B HB.out buy (.slice ra k rc) g w.heap.size (w.heap.size + 1) w7 HS.out.ord (rowsT_kept HR.out hb67) (by omega) (Ytmjfbilhalkegaa.kept hb7 hgs6) (Ytmjfbilhalkegaa.kept hb7 hgo6) (Ytmjfbilhalkegaa.kept hb7 hg6)).mono ?_
  rintro e w8 ⟨rfl, hb8⟩
  have hb78 := below_then hb7 hb8
  have hg8 := Ytmjfbilhalkegaa.kept hb78 hg6
  have hgs8 := Ytmjfbilhalkegaa.kept hb78 hgs6
  have hgo8 := Ytmjfbilhalkegaa.kept hb78 hgo6
  have hb86 := below_then hb62 hb78
  have HPL := Lib.hid (show plc buy L B k = if fi (fun i => bet buy (N B 3) (N (L i) 3)) k < 0 then k else (fi (fun i => bet buy (N B 3) (N (L i) 3)) k).toNat from rfl)
  have hfb := fi_bd (q := fun i => bet buy (N B 3) (N (L i) 3)) k
  generalize fi (fun i => bet buy (N B 3) (N (L i) 3)) k = pv at *
  clear co cs hmf h100 hS6 hg6 hgs6 hgo6 cs7 cg7 ca
  have cs8 := cellF hgs8
  have cg8 := cellF hg8
  by_cases hp : pv < 0
  · have hplc : plc buy L B k = k := by rw [HPL.out, if_pos hp]
    have HPC := Lib.hid hplc
    have hple : k ≤ k := Nat.le_refl _
    clear hplc
    go_wp2_with fail
    clear cs8 cg8
    refine wp_region_held (S := fun wt => wt.heap[w.heap.size + 1]? = some (.cells B 30 (0, 0)) ∧ wt.heap[w.heap.size]? = some (.cells #[.pointer (some ⟨g, 0, none⟩)] 54 (0, 0))) (by kernel_rfl) ?_
    change wpAnyH _ _ _ _ _ _ _ _ (World.drew _)
    obtain ⟨wq, hwq⟩ : ∃ wq, wq = w8.drew := ⟨_, rfl⟩
    have hBq : Below w.heap.size w wq := by rw [hwq]; exact Below.drew hb86
    have hoq := own_below hBq HROW.out
    have hgq := Ytmjfbilhalkegaa.kept hBq HG.out
    have HSH : wq.heap[w.heap.size + 1]? = some (.cells B 30 (0, 0)) ∧ wq.heap[w.heap.size]? = some (.cells #[.pointer (some ⟨g, 0, none⟩)] 54 (0, 0)) := by rw [hwq]; exact ⟨hgo8, hgs8⟩
    have hszq : w.heap.size + 1 < wq.heap.size := (Array.getElem?_eq_some_iff.1 HSH.1).1
    have HS0 := HS
    clear HS
    have HS := HSH
    rw [← hwq]
    clear hwq HSH hgo8 hgs8 hg8
    (refine wpAnyH_take (i := 0) (v := ?_) rfl (by kernel_rfl) (by kernel_rfl) (by kernel_rfl) (fun _ _ _ h => h) (Or.inl ⟨by rfl, ?ht_0⟩) HS ?_); (case ht_0 => (intro wt hS; have cg := cellF hS.2; go_simp; try with_reducible rfl)); (try simp only [Act.put, List.getElem_toArray, List.getElem_cons_zero, List.getElem_cons_succ, List.setIfInBounds_toArray, List.set_cons_zero, List.set_cons_succ])
    (refine wpAnyH_take (i := 1) (v := ?_) rfl (by kernel_rfl) (by kernel_rfl) (by kernel_rfl) (fun _ _ _ h => h) (Or.inl ⟨by rfl, ?ht_1⟩) HS ?_); (case ht_1 => (intro wt hS; have cg := cellF hS.2; go_simp; try with_reducible rfl)); (try simp only [Act.put, List.getElem_toArray, List.getElem_cons_zero, List.getElem_cons_succ, List.setIfInBounds_toArray, List.set_cons_zero, List.set_cons_succ])
    (refine wpAnyH_take (i := 2) (v := ?_) rfl (by kernel_rfl) (by kernel_rfl) (by kernel_rfl) (fun _ _ _ h => h) (Or.inl ⟨by rfl, ?ht_2⟩) HS ?_); (case ht_2 => (intro wt hS; go_simp; try with_reducible rfl)); (try simp only [Act.put, List.getElem_toArray, List.getElem_cons_zero, List.getElem_cons_succ, List.setIfInBounds_toArray, List.set_cons_zero, List.set_cons_succ]); (refine wpAnyH_take (i := 3) (v := ?_) rfl (by kernel_rfl) (by kernel_rfl) (by kernel_rfl) (fun _ _ _ h => h) (Or.inl ⟨by rfl, ?ht_3⟩) HS ?_); (case ht_3 => (intro wt hS; go_simp; try with_reducible rfl)); (try simp only [Act.put, List.getElem_toArray, List.getElem_cons_zero, List.getElem_cons_succ, List.setIfInBounds_toArray, List.set_cons_zero, List.set_cons_succ]); (refine wpAnyH_take (i := 5) (v := ?_) rfl (by kernel_rfl) (by kernel_rfl) (by kernel_rfl) (fun _ _ _ h => h) (Or.inl ⟨by rfl, ?ht_5⟩) HS ?_); (case ht_5 => (intro wt hS; go_simp; try with_reducible rfl)); (try simp only [Act.put, List.getElem_toArray, List.getElem_cons_zero, List.getElem_cons_succ, List.setIfInBounds_toArray, List.set_cons_zero, List.set_cons_succ])
    (refine wpAnyH_take (i := 6) (v := .agg B) rfl (by kernel_rfl) (by kernel_rfl) (by kernel_rfl) (fun _ _ _ h => h) (Or.inl ⟨by rfl, ?ht_6⟩) HS ?_); (case ht_6 => (intro wt hS; exact exec_load_part 30 _ rfl (w.heap.size + 1) 0 (by rfl) _ B _ _ 5 hS.1 Try.underlying30 rfl (by kernel_rfl) (by rw [HB.out.size]; omega) B HEX.out)); (try simp only [Act.put, List.getElem_toArray, List.getElem_cons_zero, List.getElem_cons_succ, List.setIfInBounds_toArray, List.set_cons_zero, List.set_cons_succ])
    refine wpAnyH_ready (rs := [4, 7]) (by kernel_rfl) (by decide) ?_
    obtain ⟨ip, zp, ip1, ip2, ip3, ip4, ip5⟩ := info_ord
    refine AllReadyH.cons rfl (fun K' hK => ?_) (AllReadyH.cons rfl (fun K' hK => ?_) AllReadyH.nil)
    · have cgA := cellF hgq
      go_simp
      refine hK.out _ _ HS (fun HS => ?_)
      clear hK K' cgA
      (try simp only [Act.put, List.getElem_toArray, List.getElem_cons_zero, List.getElem_cons_succ, List.setIfInBounds_toArray, List.set_cons_zero, List.set_cons_succ])
      (refine wpAnyH_ready (rs := [7]) (by kernel_rfl) (by decide) ?_); (refine AllReadyH.cons rfl (fun K' hK => ?_) AllReadyH.nil); (rw [if_pos (by rfl)])
      refine op_slice1 35 30 _ rfl B 5 rfl HB.out.size ip zp Try.underlying35 ip1 ip2 ip3 ip5 (by omega) (by omega) (hK.out _ _ ⟨heap_up HS.1, heap_up HS.2⟩ (fun HS => ?_))
      clear hK K'
      (try simp only [Act.put, List.getElem_toArray, List.getElem_cons_zero, List.getElem_cons_succ, List.setIfInBounds_toArray, List.set_cons_zero, List.set_cons_succ])
      obtain ⟨gx, hgx0⟩ : ∃ gx, gx = wq.heap.size := ⟨_, rfl⟩
      have hgx : (wq.alloc (Obj.cells B 30)).heap[gx]? = some (.cells B 30 (0, 0)) := by rw [hgx0]; exact heap_alloc_new _ _
      have hgxq : wq.heap.size ≤ gx := by omega
      rw [← hgx0]
      clear hgx0
      (refine wpAnyH_ready (rs := [8]) (by kernel_rfl) (by decide) ?_); (refine AllReadyH.cons rfl (fun K' hK => ?_) AllReadyH.nil); (rw [if_pos (by rfl)])
      have hoq1 := hoq.alloc (Obj.cells B 30)
      refine op_call 51 #[.slice ra k rc, .int .i64 k, .slice (some ⟨gx, 0, none⟩) 1 1] (by go_simp) (fun v' w1 => w1.ownsRow base 30 5 v' (k + 1) (flat (ins L k B) (k + 1)) ∧ (wq.alloc (Obj.cells B 30)).grownBy w1 (Value.slice ra k rc).ownBlock) (insany_ord base k k L (.slice ra k rc) gx B _ (fun i => (HS0.out.ord i).size) (fun i => (HS0.out.ord i).all) hoq1 (by omega) hple HB.out.size HB.out.all hgx (fun e => by have := (hoq.lt _ e.symm).2; omega) (by simp; have := HS0.out.bg; have := (Array.getElem?_eq_some_iff.1 hgq).1; omega)) ?_
      rintro v5 w5 ⟨ho5, hg5⟩
      have hfin := side_grown HS0.out (by omega) HG.out (below_then hBq (below_new wq _)) HB.out hoq1 hg5 ho5
      have hoth : ∀ j, j < wq.heap.size → (∀ A fr, wq.heap[j]? ≠ some (.cells A 30 fr) ∨ w.heap.size ≤ j) → w5.heap[j]? = wq.heap[j]? := fun j hj hd => by
        refine (hg5.block j (by simp; omega) (fun e => ?_)).trans ?_
        · obtain ⟨A9, fr9, h9⟩ := own_tag HROW.out _ e.symm
          have hjw := (Array.getElem?_eq_some_iff.1 h9).1
          rcases hd A9 fr9 with hd | hd
          · exact hd (Ytmjfbilhalkegaa.kept hBq h9)
          · omega
        · rw [Below.heap_alloc _ _ _ hj]
      have hS5 : w5.heap[w.heap.size + 1]? = some (.cells B 30 (0, 0)) ∧ w5.heap[w.heap.size]? = some (.cells #[.pointer (some ⟨g, 0, none⟩)] 54 (0, 0)) := by
        have e1 := hoth (w.heap.size + 1) (by omega) (fun _ _ => .inr (by omega))
        have e2 := hoth w.heap.size (by omega) (fun _ _ => .inr (by omega))
        have h1 := HS.1
        have h2 := HS.2
        rw [Below.heap_alloc _ _ _ (by omega)] at h1 h2
        exact ⟨e1.trans h1, e2.trans h2⟩
      refine hK.out _ _ hS5 (fun HS => ?_)
      clear hK K'
      (try simp only [Act.put, List.getElem_toArray, List.getElem_cons_zero, List.getElem_cons_succ, List.setIfInBounds_toArray, List.set_cons_zero, List.set_cons_succ])
      (refine wpAnyH_take (i := 9) (v := ?_) rfl (by kernel_rfl) (by kernel_rfl) (by kernel_rfl) (fun _ _ _ h => h) (Or.inl ⟨by rfl, ?ht_9⟩) HS ?_); (case ht_9 => (intro wt hS; go_simp; try with_reducible rfl)); (try simp only [Act.put, List.getElem_toArray, List.getElem_cons_zero, List.getElem_cons_succ, List.setIfInBounds_toArray, List.set_cons_zero, List.set_cons_succ]); (refine wpAnyH_take (i := 10) (v := ?_) rfl (by kernel_rfl) (by kernel_rfl) (by kernel_rfl) (fun _ _ _ h => h) (Or.inl ⟨by rfl, ?ht_10⟩) HS ?_); (case ht_10 => (intro wt hS; go_simp; try with_reducible rfl)); (try simp only [Act.put, List.getElem_toArray, List.getElem_cons_zero, List.getElem_cons_succ, List.setIfInBounds_toArray, List.set_cons_zero, List.set_cons_succ])
      have c5 := cellF hfin.1
      have f5 := (cells_of hfin.1).2.1
      obtain ⟨ra5, rc5, rfl, _⟩ := own_rows (c := 5) (L := ins L k B) (fun i => (hfin.2.1.ord i).size) ho5
      have hgw := (Array.getElem?_eq_some_iff.1 HG.out).1
      (refine wpAnyH_ready (rs := [11]) (by kernel_rfl) (by decide) ?_); (refine AllReadyH.cons rfl (fun K' hK => ?_) AllReadyH.nil); (rw [if_pos (by rfl)])
      go_simp
      refine hK.out _ _ ⟨heap_set_other HS.1 (by omega), heap_set_other HS.2 (by omega)⟩ (fun HS => ?_)
      clear hK K' c5 f5
      (try simp only [Act.put, List.getElem_toArray, List.getElem_cons_zero, List.getElem_cons_succ, List.setIfInBounds_toArray, List.set_cons_zero, List.set_cons_succ])
      refine wpAnyH_done (by kernel_rfl) ?_ _
      go_wp2
      go_ret
      exact ⟨rfl, by rw [HPC.out]; exact hfin.2⟩
    · rw [if_pos (by rfl)]
      refine op_slice1 35 30 _ rfl B 5 rfl HB.out.size ip zp Try.underlying35 ip1 ip2 ip3 ip5 (by omega) (by omega) (hK.out _ _ ⟨heap_up HS.1, heap_up HS.2⟩ (fun HS => ?_))
      clear hK K'
      (try simp only [Act.put, List.getElem_toArray, List.getElem_cons_zero, List.getElem_cons_succ, List.setIfInBounds_toArray, List.set_cons_zero, List.set_cons_succ])
      have cgA := cellF (heap_up (o := Obj.cells B 30) hgq)
      (refine wpAnyH_ready (rs := [4]) (by kernel_rfl) (by decide) ?_); (refine AllReadyH.cons rfl (fun K' hK => ?_) AllReadyH.nil); (rw [if_pos (by rfl)])
      go_simp
      refine hK.out _ _ HS (fun HS => ?_)
      clear hK K' cgA
      (try simp only [Act.put, List.getElem_toArray, List.getElem_cons_zero, List.getElem_cons_succ, List.setIfInBounds_toArray, List.set_cons_zero, List.set_cons_succ])
      obtain ⟨gx, hgx0⟩ : ∃ gx, gx = wq.heap.size := ⟨_, rfl⟩
      have hgx : (wq.alloc (Obj.cells B 30)).heap[gx]? = some (.cells B 30 (0, 0)) := by rw [hgx0]; exact heap_alloc_new _ _
      have hgxq : wq.heap.size ≤ gx := by omega
      rw [← hgx0]
      clear hgx0
      (refine wpAnyH_ready (rs := [8]) (by kernel_rfl) (by decide) ?_); (refine AllReadyH.cons rfl (fun K' hK => ?_) AllReadyH.nil); (rw [if_pos (by rfl)])
      have hoq1 := hoq.alloc (Obj.cells B 30)
      refine op_call 51 #[.slice ra k rc, .int .i64 k, .slice (some ⟨gx, 0, none⟩) 1 1] (by go_simp) (fun v' w1 => w1.ownsRow base 30 5 v' (k + 1) (flat (ins L k B) (k + 1)) ∧ (wq.alloc (Obj.cells B 30)).grownBy w1 (Value.slice ra k rc).ownBlock) (insany_ord base k k L (.slice ra k rc) gx B _ (fun i => (HS0.out.ord i).size) (fun i => (HS0.out.ord i).all) hoq1 (by omega) hple HB.out.size HB.out.all hgx (fun e => by have := (hoq.lt _ e.symm).2; omega) (by simp; have := HS0.out.bg; have := (Array.getElem?_eq_some_iff.1 hgq).1; omega)) ?_
      rintro v5 w5 ⟨ho5, hg5⟩
      have hfin := side_grown HS0.out (by omega) HG.out (below_then hBq (below_new wq _)) HB.out hoq1 hg5 ho5
      have hoth : ∀ j, j < wq.heap.size → (∀ A fr, wq.heap[j]? ≠ some (.cells A 30 fr) ∨ w.heap.size ≤ j) → w5.heap[j]? = wq.heap[j]? := fun j hj hd => by
        refine (hg5.block j (by simp; omega) (fun e => ?_)).trans ?_
        · obtain ⟨A9, fr9, h9⟩ := own_tag HROW.out _ e.symm
          have hjw := (Array.getElem?_eq_some_iff.1 h9).1
          rcases hd A9 fr9 with hd | hd
          · exact hd (Ytmjfbilhalkegaa.kept hBq h9)
          · omega
        · rw [Below.heap_alloc _ _ _ hj]
      have hS5 : w5.heap[w.heap.size + 1]? = some (.cells B 30 (0, 0)) ∧ w5.heap[w.heap.size]? = some (.cells #[.pointer (some ⟨g, 0, none⟩)] 54 (0, 0)) := by
        have e1 := hoth (w.heap.size + 1) (by omega) (fun _ _ => .inr (by omega))
        have e2 := hoth w.heap.size (by omega) (fun _ _ => .inr (by omega))
        have h1 := HS.1
        have h2 := HS.2
        rw [Below.heap_alloc _ _ _ (by omega)] at h1 h2
        exact ⟨e1.trans h1, e2.trans h2⟩
      refine hK.out _ _ hS5 (fun HS => ?_)
      clear hK K'
      (try simp only [Act.put, List.getElem_toArray, List.getElem_cons_zero, List.getElem_cons_succ, List.setIfInBounds_toArray, List.set_cons_zero, List.set_cons_succ])
      (refine wpAnyH_take (i := 9) (v := ?_) rfl (by kernel_rfl) (by kernel_rfl) (by kernel_rfl) (fun _ _ _ h => h) (Or.inl ⟨by rfl, ?ht_9⟩) HS ?_); (case ht_9 => (intro wt hS; go_simp; try with_reducible rfl)); (try simp only [Act.put, List.getElem_toArray, List.getElem_cons_zero, List.getElem_cons_succ, List.setIfInBounds_toArray, List.set_cons_zero, List.set_cons_succ]); (refine wpAnyH_take (i := 10) (v := ?_) rfl (by kernel_rfl) (by kernel_rfl) (by kernel_rfl) (fun _ _ _ h => h) (Or.inl ⟨by rfl, ?ht_10⟩) HS ?_); (case ht_10 => (intro wt hS; go_simp; try with_reducible rfl)); (try simp only [Act.put, List.getElem_toArray, List.getElem_cons_zero, List.getElem_cons_succ, List.setIfInBounds_toArray, List.set_cons_zero, List.set_cons_succ])
      have c5 := cellF hfin.1
      have f5 := (cells_of hfin.1).2.1
      obtain ⟨ra5, rc5, rfl, _⟩ := own_rows (c := 5) (L := ins L k B) (fun i => (hfin.2.1.ord i).size) ho5
      have hgw := (Array.getElem?_eq_some_iff.1 HG.out).1
      (refine wpAnyH_ready (rs := [11]) (by kernel_rfl) (by decide) ?_); (refine AllReadyH.cons rfl (fun K' hK => ?_) AllReadyH.nil); (rw [if_pos (by rfl)])
      go_simp
      refine hK.out _ _ ⟨heap_set_other HS.1 (by omega), heap_set_other HS.2 (by omega)⟩ (fun HS => ?_)
      clear hK K' c5 f5
      (try simp only [Act.put, List.getElem_toArray, List.getElem_cons_zero, List.getElem_cons_succ, List.setIfInBounds_toArray, List.set_cons_zero, List.set_cons_succ])
      refine wpAnyH_done (by kernel_rfl) ?_ _
      go_wp2
      go_ret
      exact ⟨rfl, by rw [HPC.out]; exact hfin.2⟩
  · obtain ⟨pi, rfl⟩ : ∃ pi : Nat, pv = pi := ⟨pv.toNat, by omega⟩
    have hplc : plc buy L B k = pi := by rw [HPL.out, if_neg hp]; omega
    have HPC := Lib.hid hplc
    have hple : pi ≤ k := by omega
    clear hplc
    go_wp2_with fail
    clear cs8 cg8
    refine wp_region_held (S := fun wt => wt.heap[w.heap.size + 1]? = some (.cells B 30 (0, 0)) ∧ wt.heap[w.heap.size]? = some (.cells #[.pointer (some ⟨g, 0, none⟩)] 54 (0, 0))) (by kernel_rfl) ?_
    change wpAnyH _ _ _ _ _ _ _ _ (World.drew _)
    obtain ⟨wq, hwq⟩ : ∃ wq, wq = w8.drew := ⟨_, rfl⟩
    have hBq : Below w.heap.size w wq := by rw [hwq]; exact Below.drew hb86
    have hoq := own_below hBq HROW.out
    have hgq := Ytmjfbilhalkegaa.kept hBq HG.out
    have HSH : wq.heap[w.heap.size + 1]? = some (.cells B 30 (0, 0)) ∧ wq.heap[w.heap.size]? = some (.cells #[.pointer (some ⟨g, 0, none⟩)] 54 (0, 0)) := by rw [hwq]; exact ⟨hgo8, hgs8⟩
    have hszq : w.heap.size + 1 < wq.heap.size := (Array.getElem?_eq_some_iff.1 HSH.1).1
    have HS0 := HS
    clear HS
    have HS := HSH
    rw [← hwq]
    clear hwq HSH hgo8 hgs8 hg8
    (refine wpAnyH_take (i := 0) (v := ?_) rfl (by kernel_rfl) (by kernel_rfl) (by kernel_rfl) (fun _ _ _ h => h) (Or.inl ⟨by rfl, ?ht_0⟩) HS ?_); (case ht_0 => (intro wt hS; have cg := cellF hS.2; go_simp; try with_reducible rfl)); (try simp only [Act.put, List.getElem_toArray, List.getElem_cons_zero, List.getElem_cons_succ, List.setIfInBounds_toArray, List.set_cons_zero, List.set_cons_succ])
    (refine wpAnyH_take (i := 1) (v := ?_) rfl (by kernel_rfl) (by kernel_rfl) (by kernel_rfl) (fun _ _ _ h => h) (Or.inl ⟨by rfl, ?ht_1⟩) HS ?_); (case ht_1 => (intro wt hS; have cg := cellF hS.2; go_simp; try with_reducible rfl)); (try simp only [Act.put, List.getElem_toArray, List.getElem_cons_zero, List.getElem_cons_succ, List.setIfInBounds_toArray, List.set_cons_zero, List.set_cons_succ])
    (refine wpAnyH_take (i := 2) (v := ?_) rfl (by kernel_rfl) (by kernel_rfl) (by kernel_rfl) (fun _ _ _ h => h) (Or.inl ⟨by rfl, ?ht_2⟩) HS ?_); (case ht_2 => (intro wt hS; go_simp; try with_reducible rfl)); (try simp only [Act.put, List.getElem_toArray, List.getElem_cons_zero, List.getElem_cons_succ, List.setIfInBounds_toArray, List.set_cons_zero, List.set_cons_succ]); (refine wpAnyH_take (i := 3) (v := ?_) rfl (by kernel_rfl) (by kernel_rfl) (by kernel_rfl) (fun _ _ _ h => h) (Or.inl ⟨by rfl, ?ht_3⟩) HS ?_); (case ht_3 => (intro wt hS; go_simp; try with_reducible rfl)); (try simp only [Act.put, List.getElem_toArray, List.getElem_cons_zero, List.getElem_cons_succ, List.setIfInBounds_toArray, List.set_cons_zero, List.set_cons_succ]); (refine wpAnyH_take (i := 5) (v := ?_) rfl (by kernel_rfl) (by kernel_rfl) (by kernel_rfl) (fun _ _ _ h => h) (Or.inl ⟨by rfl, ?ht_5⟩) HS ?_); (case ht_5 => (intro wt hS; go_simp; try with_reducible rfl)); (try simp only [Act.put, List.getElem_toArray, List.getElem_cons_zero, List.getElem_cons_succ, List.setIfInBounds_toArray, List.set_cons_zero, List.set_cons_succ])
    (refine wpAnyH_take (i := 6) (v := .agg B) rfl (by kernel_rfl) (by kernel_rfl) (by kernel_rfl) (fun _ _ _ h => h) (Or.inl ⟨by rfl, ?ht_6⟩) HS ?_); (case ht_6 => (intro wt hS; exact exec_load_part 30 _ rfl (w.heap.size + 1) 0 (by rfl) _ B _ _ 5 hS.1 Try.underlying30 rfl (by kernel_rfl) (by rw [HB.out.size]; omega) B HEX.out)); (try simp only [Act.put, List.getElem_toArray, List.getElem_cons_zero, List.getElem_cons_succ, List.setIfInBounds_toArray, List.set_cons_zero, List.set_cons_succ])
    refine wpAnyH_ready (rs := [4, 7]) (by kernel_rfl) (by decide) ?_
    obtain ⟨ip, zp, ip1, ip2, ip3, ip4, ip5⟩ := info_ord
    refine AllReadyH.cons rfl (fun K' hK => ?_) (AllReadyH.cons rfl (fun K' hK => ?_) AllReadyH.nil)
    · have cgA := cellF hgq
      go_simp
      refine hK.out _ _ HS (fun HS => ?_)
      clear hK K' cgA
      (try simp only [Act.put, List.getElem_toArray, List.getElem_cons_zero, List.getElem_cons_succ, List.setIfInBounds_toArray, List.set_cons_zero, List.set_cons_succ])
      (refine wpAnyH_ready (rs := [7]) (by kernel_rfl) (by decide) ?_); (refine AllReadyH.cons rfl (fun K' hK => ?_) AllReadyH.nil); (rw [if_pos (by rfl)])
      refine op_slice1 35 30 _ rfl B 5 rfl HB.out.size ip zp Try.underlying35 ip1 ip2 ip3 ip5 (by omega) (by omega) (hK.out _ _ ⟨heap_up HS.1, heap_up HS.2⟩ (fun HS => ?_))
      clear hK K'
      (try simp only [Act.put, List.getElem_toArray, List.getElem_cons_zero, List.getElem_cons_succ, List.setIfInBounds_toArray, List.set_cons_zero, List.set_cons_succ])
      obtain ⟨gx, hgx0⟩ : ∃ gx, gx = wq.heap.size := ⟨_, rfl⟩
      have hgx : (wq.alloc (Obj.cells B 30)).heap[gx]? = some (.cells B 30 (0, 0)) := by rw [hgx0]; exact heap_alloc_new _ _
      have hgxq : wq.heap.size ≤ gx := by omega
      rw [← hgx0]
      clear hgx0
      (refine wpAnyH_ready (rs := [8]) (by kernel_rfl) (by decide) ?_); (refine AllReadyH.cons rfl (fun K' hK => ?_) AllReadyH.nil); (rw [if_pos (by rfl)])
      have hoq1 := hoq.alloc (Obj.cells B 30)
      refine op_call 51 #[.slice ra k rc, .int .i64 pi, .slice (some ⟨gx, 0, none⟩) 1 1] (by go_simp) (fun v' w1 => w1.ownsRow base 30 5 v' (k + 1) (flat (ins L pi B) (k + 1)) ∧ (wq.alloc (Obj.cells B 30)).grownBy w1 (Value.slice ra k rc).ownBlock) (insany_ord base k pi L (.slice ra k rc) gx B _ (fun i => (HS0.out.ord i).size) (fun i => (HS0.out.ord i).all) hoq1 (by omega) hple HB.out.size HB.out.all hgx (fun e => by have := (hoq.lt _ e.symm).2; omega) (by simp; have := HS0.out.bg; have := (Array.getElem?_eq_some_iff.1 hgq).1; omega)) ?_
      rintro v5 w5 ⟨ho5, hg5⟩
      have hfin := side_grown HS0.out (by omega) HG.out (below_then hBq (below_new wq _)) HB.out hoq1 hg5 ho5
      have hoth : ∀ j, j < wq.heap.size → (∀ A fr, wq.heap[j]? ≠ some (.cells A 30 fr) ∨ w.heap.size ≤ j) → w5.heap[j]? = wq.heap[j]? := fun j hj hd => by
        refine (hg5.block j (by simp; omega) (fun e => ?_)).trans ?_
        · obtain ⟨A9, fr9, h9⟩ := own_tag HROW.out _ e.symm
          have hjw := (Array.getElem?_eq_some_iff.1 h9).1
          rcases hd A9 fr9 with hd | hd
          · exact hd (Ytmjfbilhalkegaa.kept hBq h9)
          · omega
        · rw [Below.heap_alloc _ _ _ hj]
      have hS5 : w5.heap[w.heap.size + 1]? = some (.cells B 30 (0, 0)) ∧ w5.heap[w.heap.size]? = some (.cells #[.pointer (some ⟨g, 0, none⟩)] 54 (0, 0)) := by
        have e1 := hoth (w.heap.size + 1) (by omega) (fun _ _ => .inr (by omega))
        have e2 := hoth w.heap.size (by omega) (fun _ _ => .inr (by omega))
        have h1 := HS.1
        have h2 := HS.2
        rw [Below.heap_alloc _ _ _ (by omega)] at h1 h2
        exact ⟨e1.trans h1, e2.trans h2⟩
      refine hK.out _ _ hS5 (fun HS => ?_)
      clear hK K'
      (try simp only [Act.put, List.getElem_toArray, List.getElem_cons_zero, List.getElem_cons_succ, List.setIfInBounds_toArray, List.set_cons_zero, List.set_cons_succ])
      (refine wpAnyH_take (i := 9) (v := ?_) rfl (by kernel_rfl) (by kernel_rfl) (by kernel_rfl) (fun _ _ _ h => h) (Or.inl ⟨by rfl, ?ht_9⟩) HS ?_); (case ht_9 => (intro wt hS; go_simp; try with_reducible rfl)); (try simp only [Act.put, List.getElem_toArray, List.getElem_cons_zero, List.getElem_cons_succ, List.setIfInBounds_toArray, List.set_cons_zero, List.set_cons_succ]); (refine wpAnyH_take (i := 10) (v := ?_) rfl (by kernel_rfl) (by kernel_rfl) (by kernel_rfl) (fun _ _ _ h => h) (Or.inl ⟨by rfl, ?ht_10⟩) HS ?_); (case ht_10 => (intro wt hS; go_simp; try with_reducible rfl)); (try simp only [Act.put, List.getElem_toArray, List.getElem_cons_zero, List.getElem_cons_succ, List.setIfInBounds_toArray, List.set_cons_zero, List.set_cons_succ])
      have c5 := cellF hfin.1
      have f5 := (cells_of hfin.1).2.1
      obtain ⟨ra5, rc5, rfl, _⟩ := own_rows (c := 5) (L := ins L pi B) (fun i => (hfin.2.1.ord i).size) ho5
      have hgw := (Array.getElem?_eq_some_iff.1 HG.out).1
      (refine wpAnyH_ready (rs := [11]) (by kernel_rfl) (by decide) ?_); (refine AllReadyH.cons rfl (fun K' hK => ?_) AllReadyH.nil); (rw [if_pos (by rfl)])
      go_simp
      refine hK.out _ _ ⟨heap_set_other HS.1 (by omega), heap_set_other HS.2 (by omega)⟩ (fun HS => ?_)
      clear hK K' c5 f5
      (try simp only [Act.put, List.getElem_toArray, List.getElem_cons_zero, List.getElem_cons_succ, List.setIfInBounds_toArray, List.set_cons_zero, List.set_cons_succ])
      refine wpAnyH_done (by kernel_rfl) ?_ _
      go_wp2
      go_ret
      exact ⟨rfl, by rw [HPC.out]; exact hfin.2⟩
    · rw [if_pos (by rfl)]
      refine op_slice1 35 30 _ rfl B 5 rfl HB.out.size ip zp Try.underlying35 ip1 ip2 ip3 ip5 (by omega) (by omega) (hK.out _ _ ⟨heap_up HS.1, heap_up HS.2⟩ (fun HS => ?_))
      clear hK K'
      (try simp only [Act.put, List.getElem_toArray, List.getElem_cons_zero, List.getElem_cons_succ, List.setIfInBounds_toArray, List.set_cons_zero, List.set_cons_succ])
      have cgA := cellF (heap_up (o := Obj.cells B 30) hgq)
      (refine wpAnyH_ready (rs := [4]) (by kernel_rfl) (by decide) ?_); (refine AllReadyH.cons rfl (fun K' hK => ?_) AllReadyH.nil); (rw [if_pos (by rfl)])
      go_simp
      refine hK.out _ _ HS (fun HS => ?_)
      clear hK K' cgA
      (try simp only [Act.put, List.getElem_toArray, List.getElem_cons_zero, List.getElem_cons_succ, List.setIfInBounds_toArray, List.set_cons_zero, List.set_cons_succ])
      obtain ⟨gx, hgx0⟩ : ∃ gx, gx = wq.heap.size := ⟨_, rfl⟩
      have hgx : (wq.alloc (Obj.cells B 30)).heap[gx]? = some (.cells B 30 (0, 0)) := by rw [hgx0]; exact heap_alloc_new _ _
      have hgxq : wq.heap.size ≤ gx := by omega
      rw [← hgx0]
      clear hgx0
      (refine wpAnyH_ready (rs := [8]) (by kernel_rfl) (by decide) ?_); (refine AllReadyH.cons rfl (fun K' hK => ?_) AllReadyH.nil); (rw [if_pos (by rfl)])
      have hoq1 := hoq.alloc (Obj.cells B 30)
      refine op_call 51 #[.slice ra k rc, .int .i64 pi, .slice (some ⟨gx, 0, none⟩) 1 1] (by go_simp) (fun v' w1 => w1.ownsRow base 30 5 v' (k + 1) (flat (ins L pi B) (k + 1)) ∧ (wq.alloc (Obj.cells B 30)).grownBy w1 (Value.slice ra k rc).ownBlock) (insany_ord base k pi L (.slice ra k rc) gx B _ (fun i => (HS0.out.ord i).size) (fun i => (HS0.out.ord i).all) hoq1 (by omega) hple HB.out.size HB.out.all hgx (fun e => by have := (hoq.lt _ e.symm).2; omega) (by simp; have := HS0.out.bg; have := (Array.getElem?_eq_some_iff.1 hgq).1; omega)) ?_
      rintro v5 w5 ⟨ho5, hg5⟩
      have hfin := side_grown HS0.out (by omega) HG.out (below_then hBq (below_new wq _)) HB.out hoq1 hg5 ho5
      have hoth : ∀ j, j < wq.heap.size → (∀ A fr, wq.heap[j]? ≠ some (.cells A 30 fr) ∨ w.heap.size ≤ j) → w5.heap[j]? = wq.heap[j]? := fun j hj hd => by
        refine (hg5.block j (by simp; omega) (fun e => ?_)).trans ?_
        · obtain ⟨A9, fr9, h9⟩ := own_tag HROW.out _ e.symm
          have hjw := (Array.getElem?_eq_some_iff.1 h9).1
          rcases hd A9 fr9 with hd | hd
          · exact hd (Ytmjfbilhalkegaa.kept hBq h9)
          · omega
        · rw [Below.heap_alloc _ _ _ hj]
      have hS5 : w5.heap[w.heap.size + 1]? = some (.cells B 30 (0, 0)) ∧ w5.heap[w.heap.size]? = some (.cells #[.pointer (some ⟨g, 0, none⟩)] 54 (0, 0)) := by
        have e1 := hoth (w.heap.size + 1) (by omega) (fun _ _ => .inr (by omega))
        have e2 := hoth w.heap.size (by omega) (fun _ _ => .inr (by omega))
        have h1 := HS.1
        have h2 := HS.2
        rw [Below.heap_alloc _ _ _ (by omega)] at h1 h2
        exact ⟨e1.trans h1, e2.trans h2⟩
      refine hK.out _ _ hS5 (fun HS => ?_)
      clear hK K'
      (try simp only [Act.put, List.getElem_toArray, List.getElem_cons_zero, List.getElem_cons_succ, List.setIfInBounds_toArray, List.set_cons_zero, List.set_cons_succ])
      (refine wpAnyH_take (i := 9) (v := ?_) rfl (by kernel_rfl) (by kernel_rfl) (by kernel_rfl) (fun _ _ _ h => h) (Or.inl ⟨by rfl, ?ht_9⟩) HS ?_); (case ht_9 => (intro wt hS; go_simp; try with_reducible rfl)); (try simp only [Act.put, List.getElem_toArray, List.getElem_cons_zero, List.getElem_cons_succ, List.setIfInBounds_toArray, List.set_cons_zero, List.set_cons_succ]); (refine wpAnyH_take (i := 10) (v := ?_) rfl (by kernel_rfl) (by kernel_rfl) (by kernel_rfl) (fun _ _ _ h => h) (Or.inl ⟨by rfl, ?ht_10⟩) HS ?_); (case ht_10 => (intro wt hS; go_simp; try with_reducible rfl)); (try simp only [Act.put, List.getElem_toArray, List.getElem_cons_zero, List.getElem_cons_succ, List.setIfInBounds_toArray, List.set_cons_zero, List.set_cons_succ])
      have c5 := cellF hfin.1
      have f5 := (cells_of hfin.1).2.1
      obtain ⟨ra5, rc5, rfl, _⟩ := own_rows (c := 5) (L := ins L pi B) (fun i => (hfin.2.1.ord i).size) ho5
      have hgw := (Array.getElem?_eq_some_iff.1 HG.out).1
      (refine wpAnyH_ready (rs := [11]) (by kernel_rfl) (by decide) ?_); (refine AllReadyH.cons rfl (fun K' hK => ?_) AllReadyH.nil); (rw [if_pos (by rfl)])
      go_simp
      refine hK.out _ _ ⟨heap_set_other HS.1 (by omega), heap_set_other HS.2 (by omega)⟩ (fun HS => ?_)
      clear hK K' c5 f5
      (try simp only [Act.put, List.getElem_toArray, List.getElem_cons_zero, List.getElem_cons_succ, List.setIfInBounds_toArray, List.set_cons_zero, List.set_cons_succ])
      refine wpAnyH_done (by kernel_rfl) ?_ _
      go_wp2
      go_ret
      exact ⟨rfl, by rw [HPC.out]; exact hfin.2⟩
end Go.Proofs.Ytmjfbilhalkegaa
