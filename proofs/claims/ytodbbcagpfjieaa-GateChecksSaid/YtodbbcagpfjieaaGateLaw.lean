/- The gate's laws return true, whatever Gate comes in. No condition. -/
import Derived.Test.YtodbbcagpfjieaaKnown12
import Derived.Test.YtodbbcagpfjieaaRow
namespace Go.Proofs.Ytodbbcagpfjieaa
open Go.RowKit

def specKs : List (Option IntKind) := some .u32 :: some .u8 :: List.replicate 21 (some .i64) ++ [some .u32, some .i64]
def gateKs : List (Option IntKind) := specKs ++ [some .u8, some .i64, some .u32, some .i64, none, none, some .i64, some .i64, some .i64, none, some .i64, some .i64]
theorem isSpec_of {A : Array Value} (h : Rowk specKs A) : IsSpec A := by
  refine ⟨h.1, h.isN rfl, h.isN rfl, fun i h1 h2 => h.isN ?_, h.isN rfl, h.isN rfl⟩
  have : i = 2 ∨ i = 3 ∨ i = 4 ∨ i = 5 ∨ i = 6 ∨ i = 7 ∨ i = 8 ∨ i = 9 ∨ i = 10 ∨ i = 11 ∨ i = 12 ∨ i = 13 ∨ i = 14 ∨ i = 15 ∨ i = 16 ∨ i = 17 ∨ i = 18 ∨ i = 19 ∨ i = 20 ∨ i = 21 ∨ i = 22 := by omega
  rcases this with rfl | rfl | rfl | rfl | rfl | rfl | rfl | rfl | rfl | rfl | rfl | rfl | rfl | rfl | rfl | rfl | rfl | rfl | rfl | rfl | rfl <;> rfl
theorem isGate_of {G : Array Value} (h : Rowk gateKs G) : IsGate G :=
  ⟨h.1, isSpec_of (h.extract 0 25 (by decide)), h.isN rfl, h.isN rfl, h.isN rfl, h.isN rfl, h.isB rfl, h.isB rfl, h.isN rfl, h.isN rfl, h.isN rfl, h.isB rfl, h.isN rfl, h.isN rfl⟩
theorem fit_b (b : Bool) : fitsK none (.bool b) := ⟨b, rfl⟩
theorem fit_i64 {n : Int} (h : F64 n) : fitsK (some .i64) (.int .i64 n) := ⟨n, rfl, h⟩
theorem fit_u8 {n : Int} (h : 0 ≤ n ∧ n ≤ 255) : fitsK (some .u8) (.int .u8 n) := ⟨n, rfl, h⟩
theorem fit_u32 {n : Int} (h : 0 ≤ n ∧ n ≤ 4294967295) : fitsK (some .u32) (.int .u32 n) := ⟨n, rfl, h⟩

def accOne : Array Value := #[.int .u32 1, .int .i64 0, .bool false, .bool false]
def accKs : List (Option IntKind) := [some .u32, some .i64, none, none]
theorem accOne_row : Rowk accKs accOne := by
  refine ⟨rfl, fun i k hi => ?_⟩
  have : i < 4 := (List.getElem?_eq_some_iff.1 hi).1
  have : i = 0 ∨ i = 1 ∨ i = 2 ∨ i = 3 := by omega
  rcases this with rfl | rfl | rfl | rfl <;> (simp [accKs] at hi; subst hi)
  · exact ⟨_, rfl, fit_u32 (by omega)⟩
  · exact ⟨_, rfl, fit_i64 ⟨by omega, by omega⟩⟩
  · exact ⟨_, rfl, fit_b _⟩
  · exact ⟨_, rfl, fit_b _⟩

theorem Bo_acc {G : Array Value} (h : G.size = 37) : Bo (splice G 27 accOne) 30 = false ∧ Bo (splice G 27 accOne) 29 = false := by
  have hle : 27 + accOne.size ≤ G.size := by rw [h]; decide
  refine ⟨?_, ?_⟩
  · unfold Bo; rw [splice_get hle, if_pos (by decide)]; rfl
  · unfold Bo; rw [splice_get hle, if_pos (by decide)]; rfl
theorem gchk_dead {G : Array Value} (h1 : Bo G 30 = false) (h2 : Bo G 29 = false) : (N G 25 = 3 → gchk G = 50) ∧ (N G 25 = 2 → gchk G = 122) := by
  refine ⟨fun h => ?_, fun h => ?_⟩ <;> simp [gchk, gchkS, h1, h2, h]
theorem gchk_def {G : Array Value} (h1 : Bo G 30 = true) : gchk G = 120 := by simp [gchk, gchkS, h1]
theorem gchk_kill {G : Array Value} (h1 : Bo G 30 = false) (h2 : Bo G 29 = true) : gchk G = 121 := by simp [gchk, gchkS, h1, h2]

set_option maxHeartbeats 1000000 in
theorem flags_walk (G : Array Value) (k : Int) (w : World) (h : Rowk gateKs G) (hk : 0 ≤ k ∧ k ≤ 255) :
    Calls Try.prog 4 #[.agg G, .int .u8 k] w fun e w' => e = .returned (.bool true) ∧ Below w.heap.size w w' := by
  have hsz : G.size = 37 := h.1
  have HS := Lib.hid hsz
  have g := isGate_of h
  have a29 := g.killed
  have a30 := g.deflt
  unfold IsB at a29 a30
  have hbo := Bo_acc hsz
  clear hsz
  have h5 : Rowk gateKs (G.setIfInBounds 30 (.bool true)) := h.set rfl (fit_b _)
  have h6 : Rowk gateKs ((G.setIfInBounds 30 (.bool false)).setIfInBounds 29 (.bool true)) := (h.set rfl (fit_b _)).set rfl (fit_b _)
  have hHr : Rowk gateKs (splice G 27 accOne) := h.splice accOne_row rfl (by decide)
  obtain ⟨H, hH⟩ : ∃ H, splice G 27 accOne = H := ⟨_, rfl⟩
  rw [hH] at hHr hbo
  have hH25 := (isGate_of hHr).state.1
  have hHs : H.size = 37 := hHr.1
  have HH := Lib.hid hH
  by_cases hk2 : k % 2 = 0
  · have e0 : (k % 2 == 0) = true := by simp [hk2]
    have e1 : (k % 2 == 1) = false := by simp [hk2]
    have hgk : gchk ((H.setIfInBounds 25 (.int .u8 2)).setIfInBounds 25 (.int .u8 3)) = 50 := by
      refine (gchk_dead ?_ ?_).1 ?_
      · rw [Bo_set (by simp [hHs]), Bo_set (by simp [hHs])]; exact hbo.1
      · rw [Bo_set (by simp [hHs]), Bo_set (by simp [hHs])]; exact hbo.2
      · rw [N_set (by simp [hHs])]; rfl
    have hKr : Rowk gateKs ((H.setIfInBounds 25 (.int .u8 2)).setIfInBounds 25 (.int .u8 3)) := (hHr.set rfl (fit_u8 (by omega))).set rfl (fit_u8 (by omega))
    obtain ⟨HK, hHK⟩ : ∃ K, (H.setIfInBounds 25 (.int .u8 2)).setIfInBounds 25 (.int .u8 3) = K := ⟨_, rfl⟩
    rw [hHK] at hKr hgk
    have HKs := Lib.hid (show HK.size = 37 from hKr.1)
    have HHK := Lib.hid hHK
    have Hgk := Lib.hid hgk
    clear hHK hH hHs hbo hgk hk2
    go_enter Try.func4, Try.ntmps4
    go_wp2_with (first | ((with_reducible refine at_load 32 ?_); refine wpList_load_part rfl 32 _ rfl (w.heap.size) 0 rfl 32 (G) (0, 0) _ 37 (by repeat (first | exact heap_new (by simp; done) | refine heap_up ?_)) Try.underlying32 rfl (by kernel_rfl) (by rw [HS.out]; omega) (G) (extract_all HS.out) ?_) | ((with_reducible refine at_store 32 ?_); refine wpList_store_new rfl 32 _ _ rfl (G) _ _ _ rfl (by simp) rfl (by rw [HS.out]; kernel_rfl) (by rw [HS.out]; rfl) (h.one) ?_) | ((with_reducible refine at_build 30 ?_); refine wpList_build_named rfl 30 _ rfl (accOne) (by kernel_rfl) ?_) | ((with_reducible refine at_store 30 ?_); refine wpList_store_part rfl 30 _ _ rfl (w.heap.size + 3) 27 (accOne) rfl rfl _ _ (by repeat (first | exact heap_new (by simp; done) | refine heap_up ?_)) (by kernel_rfl) (by rw [HS.out]; decide) (by kernel_rfl) ?_; rw [HH.out]; intro w1 hg1 hs1 ho1 hb1; have hc1 := (cells_of hg1).1; have hf1 := (cells_of hg1).2.1) | ((with_reducible refine at_load 32 ?_); refine wpList_load_part rfl 32 _ rfl (w.heap.size + 3) 0 rfl 32 (HK) (0, 0) _ 37 (by rw [← HHK.out]; first | exact heap_set (heap_set hg1) | exact heap_set hg1) Try.underlying32 rfl (by kernel_rfl) (by rw [HKs.out]; omega) (HK) (extract_all HKs.out) ?_))
    have q5 : w1.heap[w.heap.size + 1]? = some (.cells (G.setIfInBounds 30 (.bool true)) 32 (0, 0)) := (ho1 _ (by omega)).trans (by repeat (first | exact heap_new (by simp; done) | refine heap_up ?_))
    have q6 : w1.heap[w.heap.size + 2]? = some (.cells ((G.setIfInBounds 30 (.bool false)).setIfInBounds 29 (.bool true)) 32 (0, 0)) := (ho1 _ (by omega)).trans (by repeat (first | exact heap_new (by simp; done) | refine heap_up ?_))
    have hB : Below w.heap.size w w1 := Below.trans (below_alloc (below_alloc (below_alloc (below_new _ _) _) _) _) (hb1 _ (by omega))
    clear ho1 hb1 hg1 hc1 hf1
    refine (check_any HK _ (isGate_of hKr)).mono ?_
    rintro e w2 ⟨rfl, hb⟩
    rw [Hgk.out]
    have q5 := heap_set_other (i := 25) (g := w.heap.size + 3) (v := .int .u8 3) (heap_set_other (i := 25) (g := w.heap.size + 3) (v := .int .u8 2) q5 (by omega)) (by omega)
    have q6 := heap_set_other (i := 25) (g := w.heap.size + 3) (v := .int .u8 3) (heap_set_other (i := 25) (g := w.heap.size + 3) (v := .int .u8 2) q6 (by omega)) (by omega)
    have hB := (hB.setCell (p := ⟨w.heap.size + 3, 25, none⟩) (by simp) (.int .u8 2)).setCell (p := ⟨w.heap.size + 3, 25, none⟩) (by simp) (.int .u8 3)
    have q5 := kept hb q5
    have q6 := kept hb q6
    have hB := below_then hB hb
    clear hb
    go_wp2_with (first | ((with_reducible refine at_load 32 ?_); refine wpList_load_part rfl 32 _ rfl (w.heap.size + 1) 0 rfl _ (G.setIfInBounds 30 (.bool true)) (0, 0) _ 37 (q5) Try.underlying32 rfl (by kernel_rfl) (by simp [HS.out]) (G.setIfInBounds 30 (.bool true)) (extract_all (by simp [HS.out])) ?_))
    refine (check_any _ _ (isGate_of h5)).mono ?_
    rintro e w3 ⟨rfl, hb⟩
    rw [gchk_def (by rw [Bo_set (by rw [HS.out]; omega)]; rfl)]
    have q6 := kept hb q6
    have hB := below_then hB hb
    clear hb q5
    go_wp2_with (first | ((with_reducible refine at_load 32 ?_); refine wpList_load_part rfl 32 _ rfl (w.heap.size + 2) 0 rfl _ ((G.setIfInBounds 30 (.bool false)).setIfInBounds 29 (.bool true)) (0, 0) _ 37 (q6) Try.underlying32 rfl (by kernel_rfl) (by simp [HS.out]) ((G.setIfInBounds 30 (.bool false)).setIfInBounds 29 (.bool true)) (extract_all (by simp [HS.out])) ?_))
    refine (check_any _ _ (isGate_of h6)).mono ?_
    rintro e w4 ⟨rfl, hb⟩
    rw [gchk_kill (by rw [Bo_set (by simp [HS.out]), Bo_set (by rw [HS.out]; omega)]; rfl) (by rw [Bo_set (by simp [HS.out])]; rfl)]
    have hB := below_then hB hb
    clear hb q6
    go_wp2_with fail
    refine (known12 _).mono ?_
    rintro e w5 ⟨rfl, hb⟩
    have hB := below_then hB hb
    clear hb
    go_wp2
    go_ret
    exact ⟨rfl, hB⟩
  · have e0 : (k % 2 == 0) = false := by simp [hk2]
    have e1 : (k % 2 == 1) = true := by simp; omega
    have hgk : gchk (H.setIfInBounds 25 (.int .u8 2)) = 122 := by
      refine (gchk_dead ?_ ?_).2 ?_
      · rw [Bo_set (by simp [hHs])]; exact hbo.1
      · rw [Bo_set (by simp [hHs])]; exact hbo.2
      · rw [N_set (by simp [hHs])]; rfl
    have hKr : Rowk gateKs (H.setIfInBounds 25 (.int .u8 2)) := hHr.set rfl (fit_u8 (by omega))
    obtain ⟨HK, hHK⟩ : ∃ K, H.setIfInBounds 25 (.int .u8 2) = K := ⟨_, rfl⟩
    rw [hHK] at hKr hgk
    have HKs := Lib.hid (show HK.size = 37 from hKr.1)
    have HHK := Lib.hid hHK
    have Hgk := Lib.hid hgk
    clear hHK hH hHs hbo hgk hk2
    go_enter Try.func4, Try.ntmps4
    go_wp2_with (first | ((with_reducible refine at_load 32 ?_); refine wpList_load_part rfl 32 _ rfl (w.heap.size) 0 rfl 32 (G) (0, 0) _ 37 (by repeat (first | exact heap_new (by simp; done) | refine heap_up ?_)) Try.underlying32 rfl (by kernel_rfl) (by rw [HS.out]; omega) (G) (extract_all HS.out) ?_) | ((with_reducible refine at_store 32 ?_); refine wpList_store_new rfl 32 _ _ rfl (G) _ _ _ rfl (by simp) rfl (by rw [HS.out]; kernel_rfl) (by rw [HS.out]; rfl) (h.one) ?_) | ((with_reducible refine at_build 30 ?_); refine wpList_build_named rfl 30 _ rfl (accOne) (by kernel_rfl) ?_) | ((with_reducible refine at_store 30 ?_); refine wpList_store_part rfl 30 _ _ rfl (w.heap.size + 3) 27 (accOne) rfl rfl _ _ (by repeat (first | exact heap_new (by simp; done) | refine heap_up ?_)) (by kernel_rfl) (by rw [HS.out]; decide) (by kernel_rfl) ?_; rw [HH.out]; intro w1 hg1 hs1 ho1 hb1; have hc1 := (cells_of hg1).1; have hf1 := (cells_of hg1).2.1) | ((with_reducible refine at_load 32 ?_); refine wpList_load_part rfl 32 _ rfl (w.heap.size + 3) 0 rfl 32 (HK) (0, 0) _ 37 (by rw [← HHK.out]; first | exact heap_set (heap_set hg1) | exact heap_set hg1) Try.underlying32 rfl (by kernel_rfl) (by rw [HKs.out]; omega) (HK) (extract_all HKs.out) ?_))
    have q5 : w1.heap[w.heap.size + 1]? = some (.cells (G.setIfInBounds 30 (.bool true)) 32 (0, 0)) := (ho1 _ (by omega)).trans (by repeat (first | exact heap_new (by simp; done) | refine heap_up ?_))
    have q6 : w1.heap[w.heap.size + 2]? = some (.cells ((G.setIfInBounds 30 (.bool false)).setIfInBounds 29 (.bool true)) 32 (0, 0)) := (ho1 _ (by omega)).trans (by repeat (first | exact heap_new (by simp; done) | refine heap_up ?_))
    have hB : Below w.heap.size w w1 := Below.trans (below_alloc (below_alloc (below_alloc (below_new _ _) _) _) _) (hb1 _ (by omega))
    clear ho1 hb1 hg1 hc1 hf1
    refine (check_any HK _ (isGate_of hKr)).mono ?_
    rintro e w2 ⟨rfl, hb⟩
    rw [Hgk.out]
    have q5 := heap_set_other (i := 25) (g := w.heap.size + 3) (v := .int .u8 2) q5 (by omega)
    have q6 := heap_set_other (i := 25) (g := w.heap.size + 3) (v := .int .u8 2) q6 (by omega)
    have hB := (hB.setCell (p := ⟨w.heap.size + 3, 25, none⟩) (by simp) (.int .u8 2))
    have q5 := kept hb q5
    have q6 := kept hb q6
    have hB := below_then hB hb
    clear hb
    go_wp2_with (first | ((with_reducible refine at_load 32 ?_); refine wpList_load_part rfl 32 _ rfl (w.heap.size + 1) 0 rfl _ (G.setIfInBounds 30 (.bool true)) (0, 0) _ 37 (q5) Try.underlying32 rfl (by kernel_rfl) (by simp [HS.out]) (G.setIfInBounds 30 (.bool true)) (extract_all (by simp [HS.out])) ?_))
    refine (check_any _ _ (isGate_of h5)).mono ?_
    rintro e w3 ⟨rfl, hb⟩
    rw [gchk_def (by rw [Bo_set (by rw [HS.out]; omega)]; rfl)]
    have q6 := kept hb q6
    have hB := below_then hB hb
    clear hb q5
    go_wp2_with (first | ((with_reducible refine at_load 32 ?_); refine wpList_load_part rfl 32 _ rfl (w.heap.size + 2) 0 rfl _ ((G.setIfInBounds 30 (.bool false)).setIfInBounds 29 (.bool true)) (0, 0) _ 37 (q6) Try.underlying32 rfl (by kernel_rfl) (by simp [HS.out]) ((G.setIfInBounds 30 (.bool false)).setIfInBounds 29 (.bool true)) (extract_all (by simp [HS.out])) ?_))
    refine (check_any _ _ (isGate_of h6)).mono ?_
    rintro e w4 ⟨rfl, hb⟩
    rw [gchk_kill (by rw [Bo_set (by simp [HS.out]), Bo_set (by rw [HS.out]; omega)]; rfl) (by rw [Bo_set (by simp [HS.out])]; rfl)]
    have hB := below_then hB hb
    clear hb q6
    go_wp2_with fail
    refine (known12 _).mono ?_
    rintro e w5 ⟨rfl, hb⟩
    have hB := below_then hB hb
    clear hb
    go_wp2
    go_ret
    exact ⟨rfl, hB⟩
end Go.Proofs.Ytodbbcagpfjieaa
