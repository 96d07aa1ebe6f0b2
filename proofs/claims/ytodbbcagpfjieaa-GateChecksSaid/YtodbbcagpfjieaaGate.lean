/- gate.Check answers what its plain reading says. Conditions: the numbers fit their kinds. -/
import Derived.Test.YtodbbcagpfjieaaSpec2
namespace Go.Proofs.Ytodbbcagpfjieaa
open Go.RowKit

structure IsGate (G : Array Value) : Prop where
  size : G.size = 37
  spec : IsSpec (G.extract 0 25)
  state : IsN G .u8 25
  price : IsN G .i64 26
  num : IsN G .u32 27
  cash : IsN G .i64 28
  killed : IsB G 29
  deflt : IsB G 30
  q : IsN G .i64 31
  buys : IsN G .i64 32
  sells : IsN G .i64 33
  buy : IsB G 34
  pr : IsN G .i64 35
  qty : IsN G .i64 36

theorem IsGate.limit {G : Array Value} (h : IsGate G) : IsN G .i64 5 := by
  have := h.spec.c 5 (by omega) (by omega)
  have hn : N (G.extract 0 25) 5 = N G 5 := by rw [N_extract (by rw [h.size]; omega) (by omega)]
  unfold IsN at this ⊢
  rw [hn, Array.getElem?_extract, if_pos (by rw [h.size]; omega)] at this
  exact this

def farB (G : Array Value) : Bool := if Bo G 34 then decide (N G 5 < N G 31 + N G 32 + N G 36) else decide (N G 31 - N G 33 - N G 36 < - N G 5)
def sB (S G : Array Value) : Bool := (N G 25 == 1) && ipB S (N G 26) && inB (N G 32) 0 1000000000 && inB (N G 33) 0 1000000000 && inB (N G 31) (-10000000) 10000000
def gchkS (S G : Array Value) : Int :=
  if Bo G 30 then 120 else if Bo G 29 then 121 else if N G 25 = 3 then 50 else if N G 25 = 2 then 122
  else if sB S G = false then 2 else if iqB S (N G 36) = false then 123 else if ipB S (N G 35) = false then 52
  else if ibB S (N G 26) (N G 35) = false then 124 else if farB G then 125 else 0
def gchk (G : Array Value) : Int := gchkS (G.extract 0 25) G

set_option maxHeartbeats 400000 in
theorem far_any (G : Array Value) (w : World) (h : IsGate G) (hb : inB (N G 32) 0 1000000000 = true) (hs : inB (N G 33) 0 1000000000 = true) (hq : inB (N G 31) (-10000000) 10000000 = true) (hy : iqB (G.extract 0 25) (N G 36) = true) :
    Calls Try.prog 26 #[.agg G] w fun e w' => e = .returned (.bool (farB G)) ∧ Below w.heap.size w w' := by
  have hsz := h.size
  have hm : mayB (G.extract 0 25) = true := by simp [iqB] at hy; exact hy.1.1
  have hl := (mayB_facts hm).2.2.2.1
  rw [N_extract (by omega) (by omega)] at hl
  have hq2 := inB_iff.1 (show inB (N G 36) 1 1000000 = true by simp [iqB] at hy; exact hy.1.2)
  have a5 := h.limit.1
  have a31 := h.q.1
  have a32 := h.buys.1
  have a33 := h.sells.1
  have a34 := h.buy
  have a36 := h.qty.1
  unfold IsB at a34
  obtain ⟨b1, b2⟩ := inB_iff.1 hb
  obtain ⟨s1, s2⟩ := inB_iff.1 hs
  obtain ⟨q1, q2⟩ := inB_iff.1 hq
  obtain ⟨l1, l2⟩ := hl
  obtain ⟨y1, y2⟩ := hq2
  simp only [Nat.zero_add] at l1 l2
  clear hb hs hq hy hm hsz
  unfold farB
  cases hbuy : Bo G 34
  all_goals
    go_enter Try.func26, Try.ntmps26
    go_wp2
    go_ret
    exact ⟨rfl, (Below.refl _ _).alloc (Nat.le_refl _) _⟩

set_option maxHeartbeats 1000000 in
theorem check_a (S G : Array Value) (w : World) (h : IsGate G) (hS : S = G.extract 0 25) (hx : Bo G 30 = true ∨ Bo G 29 = true ∨ N G 25 ≠ 1) :
    Calls Try.prog 12 #[.agg G] w fun e w' => e = .returned (.int .i64 (gchkS S G)) ∧ Below w.heap.size w w' := by
  have hsz := h.size
  have hsp := h.spec
  rw [← hS] at hsp
  have hSs := hsp.size
  have a25 := h.state.1
  have a26 := h.price.1
  have a29 := h.killed
  have a30 := h.deflt
  have a31 := h.q.1
  have a32 := h.buys.1
  have a33 := h.sells.1
  have a35 := h.pr.1
  have a36 := h.qty.1
  unfold IsB at a29 a30
  have f26 : F64 (N G 26) := h.price.2
  have f31 : F64 (N G 31) := h.q.2
  have f35 : F64 (N G 35) := h.pr.2
  have f36 : F64 (N G 36) := h.qty.2
  have HSs := Lib.hid hSs
  have HS := Lib.hid hS
  have Hsz := Lib.hid hsz
  have hex : S.extract 0 25 = S := by rw [← hSs]; simp
  have HE := Lib.hid hex
  have heG : G.extract 0 37 = G := by rw [← hsz]; simp
  have HEG := Lib.hid heG
  clear hS hsz hSs hex heG
  have hG : ((w.alloc (.cells G 32)).alloc (.cells S 25)).heap[w.heap.size]? = some (.cells G 32 (0, 0)) := heap_alloc2_old _ _ _
  have hT : ((w.alloc (.cells G 32)).alloc (.cells S 25)).heap[w.heap.size + 1]? = some (.cells S 25 (0, 0)) := heap_alloc2_new _ _ _
  have hB : Below w.heap.size w ((w.alloc (.cells G 32)).alloc (.cells S 25)) := below_alloc (below_new _ _) _
  cases k1 : Bo G 30
  · cases k2 : Bo G 29
    · have k3 : ¬ N G 25 = 1 := by simpa [k1, k2] using hx
      clear hx
      by_cases k4 : N G 25 = 3
      · have k4' : (N G 25 == 3) = true := by simp [k4]
        have hf : gchkS S G = 50 := by simp [gchkS, *]
        have K4 := Lib.hid k4
        clear k4
        have HF := Lib.hid hf
        clear hf
        go_enter Try.func12, Try.ntmps12
        go_wp2_with (first | ((with_reducible refine at_load 25 ?_); refine wpList_load_part rfl 25 _ rfl (w.heap.size) 0 rfl _ (G) (0, 0) _ 25 (heap_alloc_new _ _) Try.underlying25 rfl (by kernel_rfl) (by rw [Hsz.out]; omega) (S) (HS.out.symm) ?_) | ((with_reducible refine at_store 25 ?_); refine wpList_store_new rfl 25 _ _ rfl (S) _ _ _ rfl (by simp) rfl (by rw [HSs.out]; kernel_rfl) (by rw [HSs.out]; rfl) (hsp.all) ?_) | ((with_reducible refine at_load 25 ?_); refine wpList_load_part rfl 25 _ rfl (w.heap.size + 1) 0 rfl _ (S) (0, 0) _ 25 (hT) Try.underlying25 rfl (by kernel_rfl) (by rw [HSs.out]; omega) (S) (HE.out) ?_) | ((with_reducible refine at_load 32 ?_); refine wpList_load_part rfl 32 _ rfl (w.heap.size) 0 rfl _ (G) (0, 0) _ 37 (hG) Try.underlying32 rfl (by kernel_rfl) (by rw [Hsz.out]; omega) (G) (HEG.out) ?_) | (go_at_call 21; (refine (isprice_any S _ _ hsp (by with_reducible assumption)).mono ?_); rintro e w1 ⟨rfl, hb⟩; have hB := below_then hB hb; have hG := kept hb hG; have hT := kept hb hT; have hcG := (cells_of hG).1; clear hb) | (go_at_call 24; (refine (isqty_any S _ _ hsp f36).mono ?_); rintro e w1 ⟨rfl, hb⟩; have hB := below_then hB hb; have hG := kept hb hG; have hT := kept hb hT; have hcG := (cells_of hG).1; clear hb) | (go_at_call 25; (refine (inband_any S _ _ _ hsp f26 f35).mono ?_); rintro e w1 ⟨rfl, hb⟩; have hB := below_then hB hb; have hG := kept hb hG; have hT := kept hb hT; have hcG := (cells_of hG).1; clear hb) | (go_at_call 22; (refine (open_any _ _).mono ?_); rintro e w' ⟨rfl, rfl⟩) | (go_at_call 23; (refine (within_any _ _ _ f31 (by omega) (by omega)).mono ?_); rintro e w' ⟨rfl, rfl⟩) | (go_at_call 26; (refine (far_any G _ h h2 h3 h4 (by rw [← HS.out]; exact h5)).mono ?_); rintro e w1 ⟨rfl, hb⟩; have hB := below_then hB hb; clear hb))
        go_ret
        exact ⟨ret_int HF.out.symm, hB⟩
      · have k4' : (N G 25 == 3) = false := by simp [k4]
        by_cases k5 : N G 25 = 2
        · have k5' : (N G 25 == 2) = true := by simp [k5]
          have hf : gchkS S G = 122 := by simp [gchkS, *]
          have K5 := Lib.hid k5
          clear k5
          have HF := Lib.hid hf
          clear hf
          go_enter Try.func12, Try.ntmps12
          go_wp2_with (first | ((with_reducible refine at_load 25 ?_); refine wpList_load_part rfl 25 _ rfl (w.heap.size) 0 rfl _ (G) (0, 0) _ 25 (heap_alloc_new _ _) Try.underlying25 rfl (by kernel_rfl) (by rw [Hsz.out]; omega) (S) (HS.out.symm) ?_) | ((with_reducible refine at_store 25 ?_); refine wpList_store_new rfl 25 _ _ rfl (S) _ _ _ rfl (by simp) rfl (by rw [HSs.out]; kernel_rfl) (by rw [HSs.out]; rfl) (hsp.all) ?_) | ((with_reducible refine at_load 25 ?_); refine wpList_load_part rfl 25 _ rfl (w.heap.size + 1) 0 rfl _ (S) (0, 0) _ 25 (hT) Try.underlying25 rfl (by kernel_rfl) (by rw [HSs.out]; omega) (S) (HE.out) ?_) | ((with_reducible refine at_load 32 ?_); refine wpList_load_part rfl 32 _ rfl (w.heap.size) 0 rfl _ (G) (0, 0) _ 37 (hG) Try.underlying32 rfl (by kernel_rfl) (by rw [Hsz.out]; omega) (G) (HEG.out) ?_) | (go_at_call 21; (refine (isprice_any S _ _ hsp (by with_reducible assumption)).mono ?_); rintro e w1 ⟨rfl, hb⟩; have hB := below_then hB hb; have hG := kept hb hG; have hT := kept hb hT; have hcG := (cells_of hG).1; clear hb) | (go_at_call 24; (refine (isqty_any S _ _ hsp f36).mono ?_); rintro e w1 ⟨rfl, hb⟩; have hB := below_then hB hb; have hG := kept hb hG; have hT := kept hb hT; have hcG := (cells_of hG).1; clear hb) | (go_at_call 25; (refine (inband_any S _ _ _ hsp f26 f35).mono ?_); rintro e w1 ⟨rfl, hb⟩; have hB := below_then hB hb; have hG := kept hb hG; have hT := kept hb hT; have hcG := (cells_of hG).1; clear hb) | (go_at_call 22; (refine (open_any _ _).mono ?_); rintro e w' ⟨rfl, rfl⟩) | (go_at_call 23; (refine (within_any _ _ _ f31 (by omega) (by omega)).mono ?_); rintro e w' ⟨rfl, rfl⟩) | (go_at_call 26; (refine (far_any G _ h h2 h3 h4 (by rw [← HS.out]; exact h5)).mono ?_); rintro e w1 ⟨rfl, hb⟩; have hB := below_then hB hb; clear hb))
          go_ret
          exact ⟨ret_int HF.out.symm, hB⟩
        · have k5' : (N G 25 == 2) = false := by simp [k5]
          have k6' : (N G 25 != 1) = true := by simp [k3]
          have hf : gchkS S G = 2 := by simp [gchkS, sB, *]
          have HF := Lib.hid hf
          clear hf
          go_enter Try.func12, Try.ntmps12
          go_wp2_with (first | ((with_reducible refine at_load 25 ?_); refine wpList_load_part rfl 25 _ rfl (w.heap.size) 0 rfl _ (G) (0, 0) _ 25 (heap_alloc_new _ _) Try.underlying25 rfl (by kernel_rfl) (by rw [Hsz.out]; omega) (S) (HS.out.symm) ?_) | ((with_reducible refine at_store 25 ?_); refine wpList_store_new rfl 25 _ _ rfl (S) _ _ _ rfl (by simp) rfl (by rw [HSs.out]; kernel_rfl) (by rw [HSs.out]; rfl) (hsp.all) ?_) | ((with_reducible refine at_load 25 ?_); refine wpList_load_part rfl 25 _ rfl (w.heap.size + 1) 0 rfl _ (S) (0, 0) _ 25 (hT) Try.underlying25 rfl (by kernel_rfl) (by rw [HSs.out]; omega) (S) (HE.out) ?_) | ((with_reducible refine at_load 32 ?_); refine wpList_load_part rfl 32 _ rfl (w.heap.size) 0 rfl _ (G) (0, 0) _ 37 (hG) Try.underlying32 rfl (by kernel_rfl) (by rw [Hsz.out]; omega) (G) (HEG.out) ?_) | (go_at_call 21; (refine (isprice_any S _ _ hsp (by with_reducible assumption)).mono ?_); rintro e w1 ⟨rfl, hb⟩; have hB := below_then hB hb; have hG := kept hb hG; have hT := kept hb hT; have hcG := (cells_of hG).1; clear hb) | (go_at_call 24; (refine (isqty_any S _ _ hsp f36).mono ?_); rintro e w1 ⟨rfl, hb⟩; have hB := below_then hB hb; have hG := kept hb hG; have hT := kept hb hT; have hcG := (cells_of hG).1; clear hb) | (go_at_call 25; (refine (inband_any S _ _ _ hsp f26 f35).mono ?_); rintro e w1 ⟨rfl, hb⟩; have hB := below_then hB hb; have hG := kept hb hG; have hT := kept hb hT; have hcG := (cells_of hG).1; clear hb) | (go_at_call 22; (refine (open_any _ _).mono ?_); rintro e w' ⟨rfl, rfl⟩) | (go_at_call 23; (refine (within_any _ _ _ f31 (by omega) (by omega)).mono ?_); rintro e w' ⟨rfl, rfl⟩) | (go_at_call 26; (refine (far_any G _ h h2 h3 h4 (by rw [← HS.out]; exact h5)).mono ?_); rintro e w1 ⟨rfl, hb⟩; have hB := below_then hB hb; clear hb))
          go_ret
          exact ⟨ret_int HF.out.symm, hB⟩
    · clear hx
      have hf : gchkS S G = 121 := by simp [gchkS, *]
      have HF := Lib.hid hf
      clear hf
      go_enter Try.func12, Try.ntmps12
      go_wp2_with (first | ((with_reducible refine at_load 25 ?_); refine wpList_load_part rfl 25 _ rfl (w.heap.size) 0 rfl _ (G) (0, 0) _ 25 (heap_alloc_new _ _) Try.underlying25 rfl (by kernel_rfl) (by rw [Hsz.out]; omega) (S) (HS.out.symm) ?_) | ((with_reducible refine at_store 25 ?_); refine wpList_store_new rfl 25 _ _ rfl (S) _ _ _ rfl (by simp) rfl (by rw [HSs.out]; kernel_rfl) (by rw [HSs.out]; rfl) (hsp.all) ?_) | ((with_reducible refine at_load 25 ?_); refine wpList_load_part rfl 25 _ rfl (w.heap.size + 1) 0 rfl _ (S) (0, 0) _ 25 (hT) Try.underlying25 rfl (by kernel_rfl) (by rw [HSs.out]; omega) (S) (HE.out) ?_) | ((with_reducible refine at_load 32 ?_); refine wpList_load_part rfl 32 _ rfl (w.heap.size) 0 rfl _ (G) (0, 0) _ 37 (hG) Try.underlying32 rfl (by kernel_rfl) (by rw [Hsz.out]; omega) (G) (HEG.out) ?_) | (go_at_call 21; (refine (isprice_any S _ _ hsp (by with_reducible assumption)).mono ?_); rintro e w1 ⟨rfl, hb⟩; have hB := below_then hB hb; have hG := kept hb hG; have hT := kept hb hT; have hcG := (cells_of hG).1; clear hb) | (go_at_call 24; (refine (isqty_any S _ _ hsp f36).mono ?_); rintro e w1 ⟨rfl, hb⟩; have hB := below_then hB hb; have hG := kept hb hG; have hT := kept hb hT; have hcG := (cells_of hG).1; clear hb) | (go_at_call 25; (refine (inband_any S _ _ _ hsp f26 f35).mono ?_); rintro e w1 ⟨rfl, hb⟩; have hB := below_then hB hb; have hG := kept hb hG; have hT := kept hb hT; have hcG := (cells_of hG).1; clear hb) | (go_at_call 22; (refine (open_any _ _).mono ?_); rintro e w' ⟨rfl, rfl⟩) | (go_at_call 23; (refine (within_any _ _ _ f31 (by omega) (by omega)).mono ?_); rintro e w' ⟨rfl, rfl⟩) | (go_at_call 26; (refine (far_any G _ h h2 h3 h4 (by rw [← HS.out]; exact h5)).mono ?_); rintro e w1 ⟨rfl, hb⟩; have hB := below_then hB hb; clear hb))
      go_ret
      exact ⟨ret_int HF.out.symm, hB⟩
  · clear hx
    have hf : gchkS S G = 120 := by simp [gchkS, *]
    have HF := Lib.hid hf
    clear hf
    go_enter Try.func12, Try.ntmps12
    go_wp2_with (first | ((with_reducible refine at_load 25 ?_); refine wpList_load_part rfl 25 _ rfl (w.heap.size) 0 rfl _ (G) (0, 0) _ 25 (heap_alloc_new _ _) Try.underlying25 rfl (by kernel_rfl) (by rw [Hsz.out]; omega) (S) (HS.out.symm) ?_) | ((with_reducible refine at_store 25 ?_); refine wpList_store_new rfl 25 _ _ rfl (S) _ _ _ rfl (by simp) rfl (by rw [HSs.out]; kernel_rfl) (by rw [HSs.out]; rfl) (hsp.all) ?_) | ((with_reducible refine at_load 25 ?_); refine wpList_load_part rfl 25 _ rfl (w.heap.size + 1) 0 rfl _ (S) (0, 0) _ 25 (hT) Try.underlying25 rfl (by kernel_rfl) (by rw [HSs.out]; omega) (S) (HE.out) ?_) | ((with_reducible refine at_load 32 ?_); refine wpList_load_part rfl 32 _ rfl (w.heap.size) 0 rfl _ (G) (0, 0) _ 37 (hG) Try.underlying32 rfl (by kernel_rfl) (by rw [Hsz.out]; omega) (G) (HEG.out) ?_) | (go_at_call 21; (refine (isprice_any S _ _ hsp (by with_reducible assumption)).mono ?_); rintro e w1 ⟨rfl, hb⟩; have hB := below_then hB hb; have hG := kept hb hG; have hT := kept hb hT; have hcG := (cells_of hG).1; clear hb) | (go_at_call 24; (refine (isqty_any S _ _ hsp f36).mono ?_); rintro e w1 ⟨rfl, hb⟩; have hB := below_then hB hb; have hG := kept hb hG; have hT := kept hb hT; have hcG := (cells_of hG).1; clear hb) | (go_at_call 25; (refine (inband_any S _ _ _ hsp f26 f35).mono ?_); rintro e w1 ⟨rfl, hb⟩; have hB := below_then hB hb; have hG := kept hb hG; have hT := kept hb hT; have hcG := (cells_of hG).1; clear hb) | (go_at_call 22; (refine (open_any _ _).mono ?_); rintro e w' ⟨rfl, rfl⟩) | (go_at_call 23; (refine (within_any _ _ _ f31 (by omega) (by omega)).mono ?_); rintro e w' ⟨rfl, rfl⟩) | (go_at_call 26; (refine (far_any G _ h h2 h3 h4 (by rw [← HS.out]; exact h5)).mono ?_); rintro e w1 ⟨rfl, hb⟩; have hB := below_then hB hb; clear hb))
    go_ret
    exact ⟨ret_int HF.out.symm, hB⟩

set_option maxHeartbeats 1000000 in
theorem check_b (S G : Array Value) (w : World) (h : IsGate G) (hS : S = G.extract 0 25) (k1 : Bo G 30 = false) (k2 : Bo G 29 = false) (k3 : N G 25 = 1) (hx : sB S G = false) :
    Calls Try.prog 12 #[.agg G] w fun e w' => e = .returned (.int .i64 (gchkS S G)) ∧ Below w.heap.size w w' := by
  have hsz := h.size
  have hsp := h.spec
  rw [← hS] at hsp
  have hSs := hsp.size
  have a25 := h.state.1
  have a26 := h.price.1
  have a29 := h.killed
  have a30 := h.deflt
  have a31 := h.q.1
  have a32 := h.buys.1
  have a33 := h.sells.1
  have a35 := h.pr.1
  have a36 := h.qty.1
  unfold IsB at a29 a30
  have f26 : F64 (N G 26) := h.price.2
  have f31 : F64 (N G 31) := h.q.2
  have f35 : F64 (N G 35) := h.pr.2
  have f36 : F64 (N G 36) := h.qty.2
  have HSs := Lib.hid hSs
  have HS := Lib.hid hS
  have Hsz := Lib.hid hsz
  have hex : S.extract 0 25 = S := by rw [← hSs]; simp
  have HE := Lib.hid hex
  have heG : G.extract 0 37 = G := by rw [← hsz]; simp
  have HEG := Lib.hid heG
  clear hS hsz hSs hex heG
  have hG : ((w.alloc (.cells G 32)).alloc (.cells S 25)).heap[w.heap.size]? = some (.cells G 32 (0, 0)) := heap_alloc2_old _ _ _
  have hT : ((w.alloc (.cells G 32)).alloc (.cells S 25)).heap[w.heap.size + 1]? = some (.cells S 25 (0, 0)) := heap_alloc2_new _ _ _
  have hB : Below w.heap.size w ((w.alloc (.cells G 32)).alloc (.cells S 25)) := below_alloc (below_new _ _) _
  have hf : gchkS S G = 2 := by simp [gchkS, *]
  have k4 : (N G 25 == 3) = false := by simp [k3]
  have k5 : (N G 25 == 2) = false := by simp [k3]
  have k6 : (N G 25 != 1) = false := by simp [k3]
  have K3 := Lib.hid k3
  simp only [sB, k3] at hx
  clear k3
  cases h1 : ipB S (N G 26)
  · clear hx
    have HF := Lib.hid hf
    clear hf
    go_enter Try.func12, Try.ntmps12
    go_wp2_with (first | ((with_reducible refine at_load 25 ?_); refine wpList_load_part rfl 25 _ rfl (w.heap.size) 0 rfl _ (G) (0, 0) _ 25 (heap_alloc_new _ _) Try.underlying25 rfl (by kernel_rfl) (by rw [Hsz.out]; omega) (S) (HS.out.symm) ?_) | ((with_reducible refine at_store 25 ?_); refine wpList_store_new rfl 25 _ _ rfl (S) _ _ _ rfl (by simp) rfl (by rw [HSs.out]; kernel_rfl) (by rw [HSs.out]; rfl) (hsp.all) ?_) | ((with_reducible refine at_load 25 ?_); refine wpList_load_part rfl 25 _ rfl (w.heap.size + 1) 0 rfl _ (S) (0, 0) _ 25 (hT) Try.underlying25 rfl (by kernel_rfl) (by rw [HSs.out]; omega) (S) (HE.out) ?_) | ((with_reducible refine at_load 32 ?_); refine wpList_load_part rfl 32 _ rfl (w.heap.size) 0 rfl _ (G) (0, 0) _ 37 (hG) Try.underlying32 rfl (by kernel_rfl) (by rw [Hsz.out]; omega) (G) (HEG.out) ?_) | (go_at_call 21; (refine (isprice_any S _ _ hsp (by with_reducible assumption)).mono ?_); rintro e w1 ⟨rfl, hb⟩; have hB := below_then hB hb; have hG := kept hb hG; have hT := kept hb hT; have hcG := (cells_of hG).1; clear hb) | (go_at_call 24; (refine (isqty_any S _ _ hsp f36).mono ?_); rintro e w1 ⟨rfl, hb⟩; have hB := below_then hB hb; have hG := kept hb hG; have hT := kept hb hT; have hcG := (cells_of hG).1; clear hb) | (go_at_call 25; (refine (inband_any S _ _ _ hsp f26 f35).mono ?_); rintro e w1 ⟨rfl, hb⟩; have hB := below_then hB hb; have hG := kept hb hG; have hT := kept hb hT; have hcG := (cells_of hG).1; clear hb) | (go_at_call 22; (refine (open_any _ _).mono ?_); rintro e w' ⟨rfl, rfl⟩) | (go_at_call 23; (refine (within_any _ _ _ f31 (by omega) (by omega)).mono ?_); rintro e w' ⟨rfl, rfl⟩) | (go_at_call 26; (refine (far_any G _ h h2 h3 h4 (by rw [← HS.out]; exact h5)).mono ?_); rintro e w1 ⟨rfl, hb⟩; have hB := below_then hB hb; clear hb))
    go_ret
    exact ⟨ret_int HF.out.symm, hB⟩
  · cases h2 : inB (N G 32) 0 1000000000
    · clear hx
      have HF := Lib.hid hf
      clear hf
      go_enter Try.func12, Try.ntmps12
      go_wp2_with (first | ((with_reducible refine at_load 25 ?_); refine wpList_load_part rfl 25 _ rfl (w.heap.size) 0 rfl _ (G) (0, 0) _ 25 (heap_alloc_new _ _) Try.underlying25 rfl (by kernel_rfl) (by rw [Hsz.out]; omega) (S) (HS.out.symm) ?_) | ((with_reducible refine at_store 25 ?_); refine wpList_store_new rfl 25 _ _ rfl (S) _ _ _ rfl (by simp) rfl (by rw [HSs.out]; kernel_rfl) (by rw [HSs.out]; rfl) (hsp.all) ?_) | ((with_reducible refine at_load 25 ?_); refine wpList_load_part rfl 25 _ rfl (w.heap.size + 1) 0 rfl _ (S) (0, 0) _ 25 (hT) Try.underlying25 rfl (by kernel_rfl) (by rw [HSs.out]; omega) (S) (HE.out) ?_) | ((with_reducible refine at_load 32 ?_); refine wpList_load_part rfl 32 _ rfl (w.heap.size) 0 rfl _ (G) (0, 0) _ 37 (hG) Try.underlying32 rfl (by kernel_rfl) (by rw [Hsz.out]; omega) (G) (HEG.out) ?_) | (go_at_call 21; (refine (isprice_any S _ _ hsp (by with_reducible assumption)).mono ?_); rintro e w1 ⟨rfl, hb⟩; have hB := below_then hB hb; have hG := kept hb hG; have hT := kept hb hT; have hcG := (cells_of hG).1; clear hb) | (go_at_call 24; (refine (isqty_any S _ _ hsp f36).mono ?_); rintro e w1 ⟨rfl, hb⟩; have hB := below_then hB hb; have hG := kept hb hG; have hT := kept hb hT; have hcG := (cells_of hG).1; clear hb) | (go_at_call 25; (refine (inband_any S _ _ _ hsp f26 f35).mono ?_); rintro e w1 ⟨rfl, hb⟩; have hB := below_then hB hb; have hG := kept hb hG; have hT := kept hb hT; have hcG := (cells_of hG).1; clear hb) | (go_at_call 22; (refine (open_any _ _).mono ?_); rintro e w' ⟨rfl, rfl⟩) | (go_at_call 23; (refine (within_any _ _ _ f31 (by omega) (by omega)).mono ?_); rintro e w' ⟨rfl, rfl⟩) | (go_at_call 26; (refine (far_any G _ h h2 h3 h4 (by rw [← HS.out]; exact h5)).mono ?_); rintro e w1 ⟨rfl, hb⟩; have hB := below_then hB hb; clear hb))
      go_ret
      exact ⟨ret_int HF.out.symm, hB⟩
    · cases h3 : inB (N G 33) 0 1000000000
      · clear hx
        have HF := Lib.hid hf
        clear hf
        go_enter Try.func12, Try.ntmps12
        go_wp2_with (first | ((with_reducible refine at_load 25 ?_); refine wpList_load_part rfl 25 _ rfl (w.heap.size) 0 rfl _ (G) (0, 0) _ 25 (heap_alloc_new _ _) Try.underlying25 rfl (by kernel_rfl) (by rw [Hsz.out]; omega) (S) (HS.out.symm) ?_) | ((with_reducible refine at_store 25 ?_); refine wpList_store_new rfl 25 _ _ rfl (S) _ _ _ rfl (by simp) rfl (by rw [HSs.out]; kernel_rfl) (by rw [HSs.out]; rfl) (hsp.all) ?_) | ((with_reducible refine at_load 25 ?_); refine wpList_load_part rfl 25 _ rfl (w.heap.size + 1) 0 rfl _ (S) (0, 0) _ 25 (hT) Try.underlying25 rfl (by kernel_rfl) (by rw [HSs.out]; omega) (S) (HE.out) ?_) | ((with_reducible refine at_load 32 ?_); refine wpList_load_part rfl 32 _ rfl (w.heap.size) 0 rfl _ (G) (0, 0) _ 37 (hG) Try.underlying32 rfl (by kernel_rfl) (by rw [Hsz.out]; omega) (G) (HEG.out) ?_) | (go_at_call 21; (refine (isprice_any S _ _ hsp (by with_reducible assumption)).mono ?_); rintro e w1 ⟨rfl, hb⟩; have hB := below_then hB hb; have hG := kept hb hG; have hT := kept hb hT; have hcG := (cells_of hG).1; clear hb) | (go_at_call 24; (refine (isqty_any S _ _ hsp f36).mono ?_); rintro e w1 ⟨rfl, hb⟩; have hB := below_then hB hb; have hG := kept hb hG; have hT := kept hb hT; have hcG := (cells_of hG).1; clear hb) | (go_at_call 25; (refine (inband_any S _ _ _ hsp f26 f35).mono ?_); rintro e w1 ⟨rfl, hb⟩; have hB := below_then hB hb; have hG := kept hb hG; have hT := kept hb hT; have hcG := (cells_of hG).1; clear hb) | (go_at_call 22; (refine (open_any _ _).mono ?_); rintro e w' ⟨rfl, rfl⟩) | (go_at_call 23; (refine (within_any _ _ _ f31 (by omega) (by omega)).mono ?_); rintro e w' ⟨rfl, rfl⟩) | (go_at_call 26; (refine (far_any G _ h h2 h3 h4 (by rw [← HS.out]; exact h5)).mono ?_); rintro e w1 ⟨rfl, hb⟩; have hB := below_then hB hb; clear hb))
        go_ret
        exact ⟨ret_int HF.out.symm, hB⟩
      · have h4 : inB (N G 31) (-10000000) 10000000 = false := by simpa [h1, h2, h3] using hx
        clear hx
        have HF := Lib.hid hf
        clear hf
        go_enter Try.func12, Try.ntmps12
        go_wp2_with (first | ((with_reducible refine at_load 25 ?_); refine wpList_load_part rfl 25 _ rfl (w.heap.size) 0 rfl _ (G) (0, 0) _ 25 (heap_alloc_new _ _) Try.underlying25 rfl (by kernel_rfl) (by rw [Hsz.out]; omega) (S) (HS.out.symm) ?_) | ((with_reducible refine at_store 25 ?_); refine wpList_store_new rfl 25 _ _ rfl (S) _ _ _ rfl (by simp) rfl (by rw [HSs.out]; kernel_rfl) (by rw [HSs.out]; rfl) (hsp.all) ?_) | ((with_reducible refine at_load 25 ?_); refine wpList_load_part rfl 25 _ rfl (w.heap.size + 1) 0 rfl _ (S) (0, 0) _ 25 (hT) Try.underlying25 rfl (by kernel_rfl) (by rw [HSs.out]; omega) (S) (HE.out) ?_) | ((with_reducible refine at_load 32 ?_); refine wpList_load_part rfl 32 _ rfl (w.heap.size) 0 rfl _ (G) (0, 0) _ 37 (hG) Try.underlying32 rfl (by kernel_rfl) (by rw [Hsz.out]; omega) (G) (HEG.out) ?_) | (go_at_call 21; (refine (isprice_any S _ _ hsp (by with_reducible assumption)).mono ?_); rintro e w1 ⟨rfl, hb⟩; have hB := below_then hB hb; have hG := kept hb hG; have hT := kept hb hT; have hcG := (cells_of hG).1; clear hb) | (go_at_call 24; (refine (isqty_any S _ _ hsp f36).mono ?_); rintro e w1 ⟨rfl, hb⟩; have hB := below_then hB hb; have hG := kept hb hG; have hT := kept hb hT; have hcG := (cells_of hG).1; clear hb) | (go_at_call 25; (refine (inband_any S _ _ _ hsp f26 f35).mono ?_); rintro e w1 ⟨rfl, hb⟩; have hB := below_then hB hb; have hG := kept hb hG; have hT := kept hb hT; have hcG := (cells_of hG).1; clear hb) | (go_at_call 22; (refine (open_any _ _).mono ?_); rintro e w' ⟨rfl, rfl⟩) | (go_at_call 23; (refine (within_any _ _ _ f31 (by omega) (by omega)).mono ?_); rintro e w' ⟨rfl, rfl⟩) | (go_at_call 26; (refine (far_any G _ h h2 h3 h4 (by rw [← HS.out]; exact h5)).mono ?_); rintro e w1 ⟨rfl, hb⟩; have hB := below_then hB hb; clear hb))
        go_ret
        exact ⟨ret_int HF.out.symm, hB⟩

set_option maxHeartbeats 1000000 in
theorem check_c (S G : Array Value) (w : World) (h : IsGate G) (hS : S = G.extract 0 25) (k1 : Bo G 30 = false) (k2 : Bo G 29 = false) (k3 : N G 25 = 1) (hx : sB S G = true) :
    Calls Try.prog 12 #[.agg G] w fun e w' => e = .returned (.int .i64 (gchkS S G)) ∧ Below w.heap.size w w' := by
  have hsz := h.size
  have hsp := h.spec
  rw [← hS] at hsp
  have hSs := hsp.size
  have a25 := h.state.1
  have a26 := h.price.1
  have a29 := h.killed
  have a30 := h.deflt
  have a31 := h.q.1
  have a32 := h.buys.1
  have a33 := h.sells.1
  have a35 := h.pr.1
  have a36 := h.qty.1
  unfold IsB at a29 a30
  have f26 : F64 (N G 26) := h.price.2
  have f31 : F64 (N G 31) := h.q.2
  have f35 : F64 (N G 35) := h.pr.2
  have f36 : F64 (N G 36) := h.qty.2
  have HSs := Lib.hid hSs
  have HS := Lib.hid hS
  have Hsz := Lib.hid hsz
  have hex : S.extract 0 25 = S := by rw [← hSs]; simp
  have HE := Lib.hid hex
  have heG : G.extract 0 37 = G := by rw [← hsz]; simp
  have HEG := Lib.hid heG
  clear hS hsz hSs hex heG
  have hG : ((w.alloc (.cells G 32)).alloc (.cells S 25)).heap[w.heap.size]? = some (.cells G 32 (0, 0)) := heap_alloc2_old _ _ _
  have hT : ((w.alloc (.cells G 32)).alloc (.cells S 25)).heap[w.heap.size + 1]? = some (.cells S 25 (0, 0)) := heap_alloc2_new _ _ _
  have hB : Below w.heap.size w ((w.alloc (.cells G 32)).alloc (.cells S 25)) := below_alloc (below_new _ _) _
  have hf0 : gchkS S G = if iqB S (N G 36) = false then 123 else if ipB S (N G 35) = false then 52 else if ibB S (N G 26) (N G 35) = false then 124 else if farB G then 125 else 0 := by simp [gchkS, *]
  have k4 : (N G 25 == 3) = false := by simp [k3]
  have k5 : (N G 25 == 2) = false := by simp [k3]
  have k6 : (N G 25 != 1) = false := by simp [k3]
  have K3 := Lib.hid k3
  simp only [sB, k3, Bool.and_eq_true] at hx
  clear k3
  obtain ⟨⟨⟨⟨_, h1⟩, h2⟩, h3⟩, h4⟩ := hx
  cases h5 : iqB S (N G 36)
  · have hf : gchkS S G = 123 := by rw [hf0]; simp [*]
    clear hf0
    have HF := Lib.hid hf
    clear hf
    go_enter Try.func12, Try.ntmps12
    go_wp2_with (first | ((with_reducible refine at_load 25 ?_); refine wpList_load_part rfl 25 _ rfl (w.heap.size) 0 rfl _ (G) (0, 0) _ 25 (heap_alloc_new _ _) Try.underlying25 rfl (by kernel_rfl) (by rw [Hsz.out]; omega) (S) (HS.out.symm) ?_) | ((with_reducible refine at_store 25 ?_); refine wpList_store_new rfl 25 _ _ rfl (S) _ _ _ rfl (by simp) rfl (by rw [HSs.out]; kernel_rfl) (by rw [HSs.out]; rfl) (hsp.all) ?_) | ((with_reducible refine at_load 25 ?_); refine wpList_load_part rfl 25 _ rfl (w.heap.size + 1) 0 rfl _ (S) (0, 0) _ 25 (hT) Try.underlying25 rfl (by kernel_rfl) (by rw [HSs.out]; omega) (S) (HE.out) ?_) | ((with_reducible refine at_load 32 ?_); refine wpList_load_part rfl 32 _ rfl (w.heap.size) 0 rfl _ (G) (0, 0) _ 37 (hG) Try.underlying32 rfl (by kernel_rfl) (by rw [Hsz.out]; omega) (G) (HEG.out) ?_) | (go_at_call 21; (refine (isprice_any S _ _ hsp (by with_reducible assumption)).mono ?_); rintro e w1 ⟨rfl, hb⟩; have hB := below_then hB hb; have hG := kept hb hG; have hT := kept hb hT; have hcG := (cells_of hG).1; clear hb) | (go_at_call 24; (refine (isqty_any S _ _ hsp f36).mono ?_); rintro e w1 ⟨rfl, hb⟩; have hB := below_then hB hb; have hG := kept hb hG; have hT := kept hb hT; have hcG := (cells_of hG).1; clear hb) | (go_at_call 25; (refine (inband_any S _ _ _ hsp f26 f35).mono ?_); rintro e w1 ⟨rfl, hb⟩; have hB := below_then hB hb; have hG := kept hb hG; have hT := kept hb hT; have hcG := (cells_of hG).1; clear hb) | (go_at_call 22; (refine (open_any _ _).mono ?_); rintro e w' ⟨rfl, rfl⟩) | (go_at_call 23; (refine (within_any _ _ _ f31 (by omega) (by omega)).mono ?_); rintro e w' ⟨rfl, rfl⟩) | (go_at_call 26; (refine (far_any G _ h h2 h3 h4 (by rw [← HS.out]; exact h5)).mono ?_); rintro e w1 ⟨rfl, hb⟩; have hB := below_then hB hb; clear hb))
    go_ret
    exact ⟨ret_int HF.out.symm, hB⟩
  · cases h6 : ipB S (N G 35)
    · have hf : gchkS S G = 52 := by rw [hf0]; simp [*]
      clear hf0
      have HF := Lib.hid hf
      clear hf
      go_enter Try.func12, Try.ntmps12
      go_wp2_with (first | ((with_reducible refine at_load 25 ?_); refine wpList_load_part rfl 25 _ rfl (w.heap.size) 0 rfl _ (G) (0, 0) _ 25 (heap_alloc_new _ _) Try.underlying25 rfl (by kernel_rfl) (by rw [Hsz.out]; omega) (S) (HS.out.symm) ?_) | ((with_reducible refine at_store 25 ?_); refine wpList_store_new rfl 25 _ _ rfl (S) _ _ _ rfl (by simp) rfl (by rw [HSs.out]; kernel_rfl) (by rw [HSs.out]; rfl) (hsp.all) ?_) | ((with_reducible refine at_load 25 ?_); refine wpList_load_part rfl 25 _ rfl (w.heap.size + 1) 0 rfl _ (S) (0, 0) _ 25 (hT) Try.underlying25 rfl (by kernel_rfl) (by rw [HSs.out]; omega) (S) (HE.out) ?_) | ((with_reducible refine at_load 32 ?_); refine wpList_load_part rfl 32 _ rfl (w.heap.size) 0 rfl _ (G) (0, 0) _ 37 (hG) Try.underlying32 rfl (by kernel_rfl) (by rw [Hsz.out]; omega) (G) (HEG.out) ?_) | (go_at_call 21; (refine (isprice_any S _ _ hsp (by with_reducible assumption)).mono ?_); rintro e w1 ⟨rfl, hb⟩; have hB := below_then hB hb; have hG := kept hb hG; have hT := kept hb hT; have hcG := (cells_of hG).1; clear hb) | (go_at_call 24; (refine (isqty_any S _ _ hsp f36).mono ?_); rintro e w1 ⟨rfl, hb⟩; have hB := below_then hB hb; have hG := kept hb hG; have hT := kept hb hT; have hcG := (cells_of hG).1; clear hb) | (go_at_call 25; (refine (inband_any S _ _ _ hsp f26 f35).mono ?_); rintro e w1 ⟨rfl, hb⟩; have hB := below_then hB hb; have hG := kept hb hG; have hT := kept hb hT; have hcG := (cells_of hG).1; clear hb) | (go_at_call 22; (refine (open_any _ _).mono ?_); rintro e w' ⟨rfl, rfl⟩) | (go_at_call 23; (refine (within_any _ _ _ f31 (by omega) (by omega)).mono ?_); rintro e w' ⟨rfl, rfl⟩) | (go_at_call 26; (refine (far_any G _ h h2 h3 h4 (by rw [← HS.out]; exact h5)).mono ?_); rintro e w1 ⟨rfl, hb⟩; have hB := below_then hB hb; clear hb))
      go_ret
      exact ⟨ret_int HF.out.symm, hB⟩
    · cases h7 : ibB S (N G 26) (N G 35)
      · have hf : gchkS S G = 124 := by rw [hf0]; simp [*]
        clear hf0
        have HF := Lib.hid hf
        clear hf
        go_enter Try.func12, Try.ntmps12
        go_wp2_with (first | ((with_reducible refine at_load 25 ?_); refine wpList_load_part rfl 25 _ rfl (w.heap.size) 0 rfl _ (G) (0, 0) _ 25 (heap_alloc_new _ _) Try.underlying25 rfl (by kernel_rfl) (by rw [Hsz.out]; omega) (S) (HS.out.symm) ?_) | ((with_reducible refine at_store 25 ?_); refine wpList_store_new rfl 25 _ _ rfl (S) _ _ _ rfl (by simp) rfl (by rw [HSs.out]; kernel_rfl) (by rw [HSs.out]; rfl) (hsp.all) ?_) | ((with_reducible refine at_load 25 ?_); refine wpList_load_part rfl 25 _ rfl (w.heap.size + 1) 0 rfl _ (S) (0, 0) _ 25 (hT) Try.underlying25 rfl (by kernel_rfl) (by rw [HSs.out]; omega) (S) (HE.out) ?_) | ((with_reducible refine at_load 32 ?_); refine wpList_load_part rfl 32 _ rfl (w.heap.size) 0 rfl _ (G) (0, 0) _ 37 (hG) Try.underlying32 rfl (by kernel_rfl) (by rw [Hsz.out]; omega) (G) (HEG.out) ?_) | (go_at_call 21; (refine (isprice_any S _ _ hsp (by with_reducible assumption)).mono ?_); rintro e w1 ⟨rfl, hb⟩; have hB := below_then hB hb; have hG := kept hb hG; have hT := kept hb hT; have hcG := (cells_of hG).1; clear hb) | (go_at_call 24; (refine (isqty_any S _ _ hsp f36).mono ?_); rintro e w1 ⟨rfl, hb⟩; have hB := below_then hB hb; have hG := kept hb hG; have hT := kept hb hT; have hcG := (cells_of hG).1; clear hb) | (go_at_call 25; (refine (inband_any S _ _ _ hsp f26 f35).mono ?_); rintro e w1 ⟨rfl, hb⟩; have hB := below_then hB hb; have hG := kept hb hG; have hT := kept hb hT; have hcG := (cells_of hG).1; clear hb) | (go_at_call 22; (refine (open_any _ _).mono ?_); rintro e w' ⟨rfl, rfl⟩) | (go_at_call 23; (refine (within_any _ _ _ f31 (by omega) (by omega)).mono ?_); rintro e w' ⟨rfl, rfl⟩) | (go_at_call 26; (refine (far_any G _ h h2 h3 h4 (by rw [← HS.out]; exact h5)).mono ?_); rintro e w1 ⟨rfl, hb⟩; have hB := below_then hB hb; clear hb))
        go_ret
        exact ⟨ret_int HF.out.symm, hB⟩
      · cases h8 : farB G
        · have hf : gchkS S G = 0 := by rw [hf0]; simp [*]
          clear hf0
          have HF := Lib.hid hf
          clear hf
          go_enter Try.func12, Try.ntmps12
          go_wp2_with (first | ((with_reducible refine at_load 25 ?_); refine wpList_load_part rfl 25 _ rfl (w.heap.size) 0 rfl _ (G) (0, 0) _ 25 (heap_alloc_new _ _) Try.underlying25 rfl (by kernel_rfl) (by rw [Hsz.out]; omega) (S) (HS.out.symm) ?_) | ((with_reducible refine at_store 25 ?_); refine wpList_store_new rfl 25 _ _ rfl (S) _ _ _ rfl (by simp) rfl (by rw [HSs.out]; kernel_rfl) (by rw [HSs.out]; rfl) (hsp.all) ?_) | ((with_reducible refine at_load 25 ?_); refine wpList_load_part rfl 25 _ rfl (w.heap.size + 1) 0 rfl _ (S) (0, 0) _ 25 (hT) Try.underlying25 rfl (by kernel_rfl) (by rw [HSs.out]; omega) (S) (HE.out) ?_) | ((with_reducible refine at_load 32 ?_); refine wpList_load_part rfl 32 _ rfl (w.heap.size) 0 rfl _ (G) (0, 0) _ 37 (hG) Try.underlying32 rfl (by kernel_rfl) (by rw [Hsz.out]; omega) (G) (HEG.out) ?_) | (go_at_call 21; (refine (isprice_any S _ _ hsp (by with_reducible assumption)).mono ?_); rintro e w1 ⟨rfl, hb⟩; have hB := below_then hB hb; have hG := kept hb hG; have hT := kept hb hT; have hcG := (cells_of hG).1; clear hb) | (go_at_call 24; (refine (isqty_any S _ _ hsp f36).mono ?_); rintro e w1 ⟨rfl, hb⟩; have hB := below_then hB hb; have hG := kept hb hG; have hT := kept hb hT; have hcG := (cells_of hG).1; clear hb) | (go_at_call 25; (refine (inband_any S _ _ _ hsp f26 f35).mono ?_); rintro e w1 ⟨rfl, hb⟩; have hB := below_then hB hb; have hG := kept hb hG; have hT := kept hb hT; have hcG := (cells_of hG).1; clear hb) | (go_at_call 22; (refine (open_any _ _).mono ?_); rintro e w' ⟨rfl, rfl⟩) | (go_at_call 23; (refine (within_any _ _ _ f31 (by omega) (by omega)).mono ?_); rintro e w' ⟨rfl, rfl⟩) | (go_at_call 26; (refine (far_any G _ h h2 h3 h4 (by rw [← HS.out]; exact h5)).mono ?_); rintro e w1 ⟨rfl, hb⟩; have hB := below_then hB hb; clear hb))
          go_ret
          exact ⟨ret_int HF.out.symm, hB⟩
        · have hf : gchkS S G = 125 := by rw [hf0]; simp [*]
          clear hf0
          have HF := Lib.hid hf
          clear hf
          go_enter Try.func12, Try.ntmps12
          go_wp2_with (first | ((with_reducible refine at_load 25 ?_); refine wpList_load_part rfl 25 _ rfl (w.heap.size) 0 rfl _ (G) (0, 0) _ 25 (heap_alloc_new _ _) Try.underlying25 rfl (by kernel_rfl) (by rw [Hsz.out]; omega) (S) (HS.out.symm) ?_) | ((with_reducible refine at_store 25 ?_); refine wpList_store_new rfl 25 _ _ rfl (S) _ _ _ rfl (by simp) rfl (by rw [HSs.out]; kernel_rfl) (by rw [HSs.out]; rfl) (hsp.all) ?_) | ((with_reducible refine at_load 25 ?_); refine wpList_load_part rfl 25 _ rfl (w.heap.size + 1) 0 rfl _ (S) (0, 0) _ 25 (hT) Try.underlying25 rfl (by kernel_rfl) (by rw [HSs.out]; omega) (S) (HE.out) ?_) | ((with_reducible refine at_load 32 ?_); refine wpList_load_part rfl 32 _ rfl (w.heap.size) 0 rfl _ (G) (0, 0) _ 37 (hG) Try.underlying32 rfl (by kernel_rfl) (by rw [Hsz.out]; omega) (G) (HEG.out) ?_) | (go_at_call 21; (refine (isprice_any S _ _ hsp (by with_reducible assumption)).mono ?_); rintro e w1 ⟨rfl, hb⟩; have hB := below_then hB hb; have hG := kept hb hG; have hT := kept hb hT; have hcG := (cells_of hG).1; clear hb) | (go_at_call 24; (refine (isqty_any S _ _ hsp f36).mono ?_); rintro e w1 ⟨rfl, hb⟩; have hB := below_then hB hb; have hG := kept hb hG; have hT := kept hb hT; have hcG := (cells_of hG).1; clear hb) | (go_at_call 25; (refine (inband_any S _ _ _ hsp f26 f35).mono ?_); rintro e w1 ⟨rfl, hb⟩; have hB := below_then hB hb; have hG := kept hb hG; have hT := kept hb hT; have hcG := (cells_of hG).1; clear hb) | (go_at_call 22; (refine (open_any _ _).mono ?_); rintro e w' ⟨rfl, rfl⟩) | (go_at_call 23; (refine (within_any _ _ _ f31 (by omega) (by omega)).mono ?_); rintro e w' ⟨rfl, rfl⟩) | (go_at_call 26; (refine (far_any G _ h h2 h3 h4 (by rw [← HS.out]; exact h5)).mono ?_); rintro e w1 ⟨rfl, hb⟩; have hB := below_then hB hb; clear hb))
          go_ret
          exact ⟨ret_int HF.out.symm, hB⟩

theorem check_any (G : Array Value) (w : World) (h : IsGate G) :
    Calls Try.prog 12 #[.agg G] w fun e w' => e = .returned (.int .i64 (gchk G)) ∧ Below w.heap.size w w' := by
  by_cases hx : Bo G 30 = true ∨ Bo G 29 = true ∨ N G 25 ≠ 1
  · exact check_a _ G w h rfl hx
  · have k1 : Bo G 30 = false := by cases k : Bo G 30 <;> simp_all
    have k2 : Bo G 29 = false := by cases k : Bo G 29 <;> simp_all
    have k3 : N G 25 = 1 := by simp_all
    cases hs : sB (G.extract 0 25) G
    · exact check_b _ G w h rfl k1 k2 k3 hs
    · exact check_c _ G w h rfl k1 k2 k3 hs
end Go.Proofs.Ytodbbcagpfjieaa
