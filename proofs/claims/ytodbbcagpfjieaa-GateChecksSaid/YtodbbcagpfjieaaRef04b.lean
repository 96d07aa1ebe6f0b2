/- The document's IsQty and gate Check. Conditions: the numbers fit their kinds. -/
import Derived.Test.YtodbbcagpfjieaaRef04
import Derived.Test.YtodbbcagpfjieaaGate
namespace Go.Proofs.Ytodbbcagpfjieaa
open Go.RowKit
set_option maxHeartbeats 400000 in
theorem risqty_any (A : Array Value) (n : Int) (w : World) (h : IsSpec A) (hn : F64 n) :
    Calls Try.prog 34 #[.agg A, .int .i64 n] w fun e w' => e = .returned (.bool (iqB A n)) ∧ Below w.heap.size w w' := by
  have Hsz := Lib.hid h.size
  obtain ⟨a3, b3, b3'⟩ := (h.c 3 (by omega) (by omega)).i64
  cases hm : mayB A
  · have hf : iqB A n = false := by simp [iqB, hm]
    rw [hf]
    have rm : ∀ w, Calls Try.prog 31 #[.agg A] w fun e w' => e = .returned (.bool false) ∧ Below w.heap.size w w' := fun w => by rw [← hm]; exact rmay_any A w h
    clear hf hm
    go_enter Try.func34, Try.ntmps34
    go_wp2
    refine wp_region_below (by kernel_rfl) (by kernel_rfl) ?_
    repeat (first | ((with_reducible apply q_skip); (case hw => rfl); (try simp only [Act.put, List.setIfInBounds_toArray, List.set_cons_zero, List.set_cons_succ])) | ((with_reducible refine at_qload 25 ?_); refine q_load_part (by rfl) 25 _ rfl (w.heap.size) 0 rfl _ (A) _ 25 (heap_alloc_new _ _) Try.underlying25 rfl (by kernel_rfl) (by rw [Hsz.out]; omega) (A) (extract_all Hsz.out) ?_; try simp only [Act.put, List.setIfInBounds_toArray, List.set_cons_zero, List.set_cons_succ]) | ((with_reducible refine at_qcall 31 ?_); refine q_call_below _ 31 _ (by rfl) (rm) (fun wq hbq => by go_simp) ?_; try simp only [Act.put, List.setIfInBounds_toArray, List.set_cons_zero, List.set_cons_succ]) | ((with_reducible refine at_qcall 39 ?_); refine q_call_same _ 39 _ (by rfl) (am) (fun wq hbq => by go_simp) ?_; try simp only [Act.put, List.setIfInBounds_toArray, List.set_cons_zero, List.set_cons_succ]) | ((with_reducible apply q_val); (case hw => rfl); (case hv => intro wq hbq; have hcq := (cells_of (kept hbq (heap_alloc_new w (.cells A 25)))).1; go_simp; try rfl); (try simp only [Act.put, List.setIfInBounds_toArray, List.set_cons_zero, List.set_cons_succ])))
    refine q_nil ?_
    intro w1 hb
    go_wp2
    go_ret
    exact ⟨rfl, below_then (below_new _ _) hb⟩
  · obtain ⟨t1, t2⟩ := (mayB_facts hm).2.1
    have rm : ∀ w, Calls Try.prog 31 #[.agg A] w fun e w' => e = .returned (.bool true) ∧ Below w.heap.size w w' := fun w => by rw [← hm]; exact rmay_any A w h
    cases hi : inB n 1 1000000
    · have hf : iqB A n = false := by simp [iqB, hm, hi]
      rw [hf]
      clear hf hm
      have am : ∀ w, Calls Try.prog 39 #[.int .i64 n, .int .i64 1, .int .i64 1000000] w fun e w' => e = .returned (.bool false) ∧ w = w' := fun w => by rw [← hi]; exact among_any _ _ _ w
      clear hi
      go_enter Try.func34, Try.ntmps34
      go_wp2
      refine wp_region_below (by kernel_rfl) (by kernel_rfl) ?_
      repeat (first | ((with_reducible apply q_skip); (case hw => rfl); (try simp only [Act.put, List.setIfInBounds_toArray, List.set_cons_zero, List.set_cons_succ])) | ((with_reducible refine at_qload 25 ?_); refine q_load_part (by rfl) 25 _ rfl (w.heap.size) 0 rfl _ (A) _ 25 (heap_alloc_new _ _) Try.underlying25 rfl (by kernel_rfl) (by rw [Hsz.out]; omega) (A) (extract_all Hsz.out) ?_; try simp only [Act.put, List.setIfInBounds_toArray, List.set_cons_zero, List.set_cons_succ]) | ((with_reducible refine at_qcall 31 ?_); refine q_call_below _ 31 _ (by rfl) (rm) (fun wq hbq => by go_simp) ?_; try simp only [Act.put, List.setIfInBounds_toArray, List.set_cons_zero, List.set_cons_succ]) | ((with_reducible refine at_qcall 39 ?_); refine q_call_same _ 39 _ (by rfl) (am) (fun wq hbq => by go_simp) ?_; try simp only [Act.put, List.setIfInBounds_toArray, List.set_cons_zero, List.set_cons_succ]) | ((with_reducible apply q_val); (case hw => rfl); (case hv => intro wq hbq; have hcq := (cells_of (kept hbq (heap_alloc_new w (.cells A 25)))).1; go_simp; try rfl); (try simp only [Act.put, List.setIfInBounds_toArray, List.set_cons_zero, List.set_cons_succ])))
      refine q_nil ?_
      intro w1 hb
      go_wp2
      go_ret
      exact ⟨rfl, below_then (below_new _ _) hb⟩
    · obtain ⟨i1, i2⟩ := inB_iff.1 hi
      have am : ∀ w, Calls Try.prog 39 #[.int .i64 n, .int .i64 1, .int .i64 1000000] w fun e w' => e = .returned (.bool true) ∧ w = w' := fun w => by rw [← hi]; exact among_any _ _ _ w
      have hf : iqB A n = decide (n % N A 3 = 0) := by simp [iqB, hm, hi]
      rw [hf]
      clear hf hm hi
      generalize N A 3 = x at *
      have h0 : (x == 0) = false := by simp; omega
      have h00 : ¬ x = 0 := by omega
      have hq0 : 0 ≤ n / x := Int.ediv_nonneg (by omega) (by omega)
      have hq : n / x * x ≤ n := Int.ediv_mul_le n (by omega)
      have hq1 : 0 ≤ n / x * x := Int.mul_nonneg hq0 (by omega)
      go_enter Try.func34, Try.ntmps34
      go_wp2
      refine wp_region_below (by kernel_rfl) (by kernel_rfl) ?_
      repeat (first | ((with_reducible apply q_skip); (case hw => rfl); (try simp only [Act.put, List.setIfInBounds_toArray, List.set_cons_zero, List.set_cons_succ])) | ((with_reducible refine at_qload 25 ?_); refine q_load_part (by rfl) 25 _ rfl (w.heap.size) 0 rfl _ (A) _ 25 (heap_alloc_new _ _) Try.underlying25 rfl (by kernel_rfl) (by rw [Hsz.out]; omega) (A) (extract_all Hsz.out) ?_; try simp only [Act.put, List.setIfInBounds_toArray, List.set_cons_zero, List.set_cons_succ]) | ((with_reducible refine at_qcall 31 ?_); refine q_call_below _ 31 _ (by rfl) (rm) (fun wq hbq => by go_simp) ?_; try simp only [Act.put, List.setIfInBounds_toArray, List.set_cons_zero, List.set_cons_succ]) | ((with_reducible refine at_qcall 39 ?_); refine q_call_same _ 39 _ (by rfl) (am) (fun wq hbq => by go_simp) ?_; try simp only [Act.put, List.setIfInBounds_toArray, List.set_cons_zero, List.set_cons_succ]) | ((with_reducible apply q_val); (case hw => rfl); (case hv => intro wq hbq; have hcq := (cells_of (kept hbq (heap_alloc_new w (.cells A 25)))).1; go_simp; try rfl); (try simp only [Act.put, List.setIfInBounds_toArray, List.set_cons_zero, List.set_cons_succ])))
      refine q_nil ?_
      intro w1 hb
      go_wp2
      go_ret
      have he := Int.emod_add_mul_ediv n x
      rw [Int.mul_comm] at he
      have w1' : IntKind.i64.wrap (n.tdiv x) = n / x := by rw [Int.tdiv_eq_ediv_of_nonneg (by omega)]; exact IntWalk.i64_in _ ⟨by omega, by have := Int.ediv_le_self x (show 0 ≤ n by omega); omega⟩
      have w2' : IntKind.i64.wrap (n / x * x) = n / x * x := IntWalk.i64_in _ ⟨by omega, by omega⟩
      refine ⟨ret_bool ?_, below_then (below_new _ _) hb⟩
      show (IntKind.i64.wrap (IntKind.i64.wrap (n.tdiv x) * x) == n) = true ↔ _
      rw [w1', w2']
      simp
      omega

/-- What the document's gate answers: the same, where the same is asked. -/
theorem iq_may {A : Array Value} {n : Int} (h : mayB A = false) : iqB A n = false := by simp [iqB, h]
theorem ip_may {A : Array Value} {n : Int} (h : mayB A = false) : ipB A n = false := by simp [ipB, h]


set_option maxHeartbeats 1000000 in
theorem rcheck_a (S G : Array Value) (w : World) (h : IsGate G) (hS : S = G.extract 0 25) (hx : Bo G 30 = true ∨ Bo G 29 = true ∨ N G 25 ≠ 1) :
    Calls Try.prog 19 #[.agg G] w fun e w' => e = .returned (.int .i64 (gchkS S G)) ∧ Below w.heap.size w w' := by
  have hsz := h.size
  have hsp := h.spec
  rw [← hS] at hsp
  have hSs := hsp.size
  have a25 := h.state.1
  have a26 := h.price.1
  have a29 := h.killed
  have a30 := h.deflt
  have a31 := h.q.1
  have a32 := h.buys.1
  have a33 := h.sells.1
  have a34 := h.buy
  have a35 := h.pr.1
  have a36 := h.qty.1
  unfold IsB at a29 a30 a34
  have s4 := (hsp.c 4 (by omega) (by omega)).i64.1
  have s5 := (hsp.c 5 (by omega) (by omega)).i64.1
  have f26 : F64 (N G 26) := h.price.2
  have f35 : F64 (N G 35) := h.pr.2
  have f36 : F64 (N G 36) := h.qty.2
  have HSs := Lib.hid hSs
  have HS := Lib.hid hS
  have Hsz := Lib.hid hsz
  clear hS hsz hSs
  have hG : ((w.alloc (.cells G 32)).alloc (.cells S 25)).heap[w.heap.size]? = some (.cells G 32 (0, 0)) := heap_alloc2_old _ _ _
  have hT : ((w.alloc (.cells G 32)).alloc (.cells S 25)).heap[w.heap.size + 1]? = some (.cells S 25 (0, 0)) := heap_alloc2_new _ _ _
  have hB : Below w.heap.size w ((w.alloc (.cells G 32)).alloc (.cells S 25)) := below_alloc (below_new _ _) _
  have hB1 : Below w.heap.size w (w.alloc (.cells G 32)) := below_new _ _
  cases k1 : Bo G 30
  · cases k2 : Bo G 29
    · have k3 : ¬ N G 25 = 1 := by simpa [k1, k2] using hx
      clear hx
      by_cases k4 : N G 25 = 3
      · have k4' : (N G 25 == 3) = true := by simp [k4]
        have hf : gchkS S G = 50 := by simp [gchkS, *]
        have K4 := Lib.hid k4
        clear k4 hB
        have hB := hB1
        have HF := Lib.hid hf
        clear hf
        go_enter Try.func19, Try.ntmps19
        go_wp2_with (first | ((with_reducible refine at_load 25 ?_); refine wpList_load_part rfl 25 _ rfl (w.heap.size) 0 rfl _ (G) (0, 0) _ 25 (heap_alloc_new _ _) Try.underlying25 rfl (by kernel_rfl) (by rw [Hsz.out]; omega) (S) (HS.out.symm) ?_) | ((with_reducible refine at_store 25 ?_); refine wpList_store_new rfl 25 _ _ rfl (S) _ _ _ rfl (by simp) rfl (by rw [HSs.out]; kernel_rfl) (by rw [HSs.out]; rfl) (hsp.all) ?_) | ((with_reducible refine at_load 25 ?_); refine wpList_load_part rfl 25 _ rfl (w.heap.size + 1) 0 rfl _ (S) (0, 0) _ 25 (hT) Try.underlying25 rfl (by kernel_rfl) (by rw [HSs.out]; omega) (S) (extract_all HSs.out) ?_) | (go_at_call 31; (with_reducible refine (rmay_any S _ hsp).mono ?_); rintro e w1 ⟨rfl, hb⟩; have hB := below_then hB hb; have hG := kept hb hG; have hT := kept hb hT; have hcG := (cells_of hG).1; have hcT := (cells_of hT).1; clear hb) | (go_at_call 33; (with_reducible refine (risprice_any S _ _ hsp (by with_reducible assumption)).mono ?_); rintro e w1 ⟨rfl, hb⟩; have hB := below_then hB hb; have hG := kept hb hG; have hT := kept hb hT; have hcG := (cells_of hG).1; have hcT := (cells_of hT).1; clear hb) | (go_at_call 34; (with_reducible refine (risqty_any S _ _ hsp f36).mono ?_); rintro e w1 ⟨rfl, hb⟩; have hB := below_then hB hb; have hG := kept hb hG; have hT := kept hb hT; have hcG := (cells_of hG).1; have hcT := (cells_of hT).1; clear hb))
        go_ret
        exact ⟨ret_int HF.out.symm, hB⟩
      · have k4' : (N G 25 == 3) = false := by simp [k4]
        by_cases k5 : N G 25 = 2
        · have k5' : (N G 25 == 2) = true := by simp [k5]
          have hf : gchkS S G = 122 := by simp [gchkS, *]
          have K5 := Lib.hid k5
          clear k5 hB
          have hB := hB1
          have HF := Lib.hid hf
          clear hf
          go_enter Try.func19, Try.ntmps19
          go_wp2_with (first | ((with_reducible refine at_load 25 ?_); refine wpList_load_part rfl 25 _ rfl (w.heap.size) 0 rfl _ (G) (0, 0) _ 25 (heap_alloc_new _ _) Try.underlying25 rfl (by kernel_rfl) (by rw [Hsz.out]; omega) (S) (HS.out.symm) ?_) | ((with_reducible refine at_store 25 ?_); refine wpList_store_new rfl 25 _ _ rfl (S) _ _ _ rfl (by simp) rfl (by rw [HSs.out]; kernel_rfl) (by rw [HSs.out]; rfl) (hsp.all) ?_) | ((with_reducible refine at_load 25 ?_); refine wpList_load_part rfl 25 _ rfl (w.heap.size + 1) 0 rfl _ (S) (0, 0) _ 25 (hT) Try.underlying25 rfl (by kernel_rfl) (by rw [HSs.out]; omega) (S) (extract_all HSs.out) ?_) | (go_at_call 31; (with_reducible refine (rmay_any S _ hsp).mono ?_); rintro e w1 ⟨rfl, hb⟩; have hB := below_then hB hb; have hG := kept hb hG; have hT := kept hb hT; have hcG := (cells_of hG).1; have hcT := (cells_of hT).1; clear hb) | (go_at_call 33; (with_reducible refine (risprice_any S _ _ hsp (by with_reducible assumption)).mono ?_); rintro e w1 ⟨rfl, hb⟩; have hB := below_then hB hb; have hG := kept hb hG; have hT := kept hb hT; have hcG := (cells_of hG).1; have hcT := (cells_of hT).1; clear hb) | (go_at_call 34; (with_reducible refine (risqty_any S _ _ hsp f36).mono ?_); rintro e w1 ⟨rfl, hb⟩; have hB := below_then hB hb; have hG := kept hb hG; have hT := kept hb hT; have hcG := (cells_of hG).1; have hcT := (cells_of hT).1; clear hb))
          go_ret
          exact ⟨ret_int HF.out.symm, hB⟩
        · have k5' : (N G 25 == 2) = false := by simp [k5]
          have k6' : (N G 25 != 1) = true := by simp [k3]
          have hf : gchkS S G = 2 := by simp [gchkS, sB, *]
          have HF := Lib.hid hf
          clear hf
          go_enter Try.func19, Try.ntmps19
          go_wp2_with (first | ((with_reducible refine at_load 25 ?_); refine wpList_load_part rfl 25 _ rfl (w.heap.size) 0 rfl _ (G) (0, 0) _ 25 (heap_alloc_new _ _) Try.underlying25 rfl (by kernel_rfl) (by rw [Hsz.out]; omega) (S) (HS.out.symm) ?_) | ((with_reducible refine at_store 25 ?_); refine wpList_store_new rfl 25 _ _ rfl (S) _ _ _ rfl (by simp) rfl (by rw [HSs.out]; kernel_rfl) (by rw [HSs.out]; rfl) (hsp.all) ?_) | ((with_reducible refine at_load 25 ?_); refine wpList_load_part rfl 25 _ rfl (w.heap.size + 1) 0 rfl _ (S) (0, 0) _ 25 (hT) Try.underlying25 rfl (by kernel_rfl) (by rw [HSs.out]; omega) (S) (extract_all HSs.out) ?_) | (go_at_call 31; (with_reducible refine (rmay_any S _ hsp).mono ?_); rintro e w1 ⟨rfl, hb⟩; have hB := below_then hB hb; have hG := kept hb hG; have hT := kept hb hT; have hcG := (cells_of hG).1; have hcT := (cells_of hT).1; clear hb) | (go_at_call 33; (with_reducible refine (risprice_any S _ _ hsp (by with_reducible assumption)).mono ?_); rintro e w1 ⟨rfl, hb⟩; have hB := below_then hB hb; have hG := kept hb hG; have hT := kept hb hT; have hcG := (cells_of hG).1; have hcT := (cells_of hT).1; clear hb) | (go_at_call 34; (with_reducible refine (risqty_any S _ _ hsp f36).mono ?_); rintro e w1 ⟨rfl, hb⟩; have hB := below_then hB hb; have hG := kept hb hG; have hT := kept hb hT; have hcG := (cells_of hG).1; have hcT := (cells_of hT).1; clear hb))
          go_ret
          exact ⟨ret_int HF.out.symm, hB⟩
    · clear hx hB
      have hB := hB1
      have hf : gchkS S G = 121 := by simp [gchkS, *]
      have HF := Lib.hid hf
      clear hf
      go_enter Try.func19, Try.ntmps19
      go_wp2_with (first | ((with_reducible refine at_load 25 ?_); refine wpList_load_part rfl 25 _ rfl (w.heap.size) 0 rfl _ (G) (0, 0) _ 25 (heap_alloc_new _ _) Try.underlying25 rfl (by kernel_rfl) (by rw [Hsz.out]; omega) (S) (HS.out.symm) ?_) | ((with_reducible refine at_store 25 ?_); refine wpList_store_new rfl 25 _ _ rfl (S) _ _ _ rfl (by simp) rfl (by rw [HSs.out]; kernel_rfl) (by rw [HSs.out]; rfl) (hsp.all) ?_) | ((with_reducible refine at_load 25 ?_); refine wpList_load_part rfl 25 _ rfl (w.heap.size + 1) 0 rfl _ (S) (0, 0) _ 25 (hT) Try.underlying25 rfl (by kernel_rfl) (by rw [HSs.out]; omega) (S) (extract_all HSs.out) ?_) | (go_at_call 31; (with_reducible refine (rmay_any S _ hsp).mono ?_); rintro e w1 ⟨rfl, hb⟩; have hB := below_then hB hb; have hG := kept hb hG; have hT := kept hb hT; have hcG := (cells_of hG).1; have hcT := (cells_of hT).1; clear hb) | (go_at_call 33; (with_reducible refine (risprice_any S _ _ hsp (by with_reducible assumption)).mono ?_); rintro e w1 ⟨rfl, hb⟩; have hB := below_then hB hb; have hG := kept hb hG; have hT := kept hb hT; have hcG := (cells_of hG).1; have hcT := (cells_of hT).1; clear hb) | (go_at_call 34; (with_reducible refine (risqty_any S _ _ hsp f36).mono ?_); rintro e w1 ⟨rfl, hb⟩; have hB := below_then hB hb; have hG := kept hb hG; have hT := kept hb hT; have hcG := (cells_of hG).1; have hcT := (cells_of hT).1; clear hb))
      go_ret
      exact ⟨ret_int HF.out.symm, hB⟩
  · clear hx hB
    have hB := hB1
    have hf : gchkS S G = 120 := by simp [gchkS, *]
    have HF := Lib.hid hf
    clear hf
    go_enter Try.func19, Try.ntmps19
    go_wp2_with (first | ((with_reducible refine at_load 25 ?_); refine wpList_load_part rfl 25 _ rfl (w.heap.size) 0 rfl _ (G) (0, 0) _ 25 (heap_alloc_new _ _) Try.underlying25 rfl (by kernel_rfl) (by rw [Hsz.out]; omega) (S) (HS.out.symm) ?_) | ((with_reducible refine at_store 25 ?_); refine wpList_store_new rfl 25 _ _ rfl (S) _ _ _ rfl (by simp) rfl (by rw [HSs.out]; kernel_rfl) (by rw [HSs.out]; rfl) (hsp.all) ?_) | ((with_reducible refine at_load 25 ?_); refine wpList_load_part rfl 25 _ rfl (w.heap.size + 1) 0 rfl _ (S) (0, 0) _ 25 (hT) Try.underlying25 rfl (by kernel_rfl) (by rw [HSs.out]; omega) (S) (extract_all HSs.out) ?_) | (go_at_call 31; (with_reducible refine (rmay_any S _ hsp).mono ?_); rintro e w1 ⟨rfl, hb⟩; have hB := below_then hB hb; have hG := kept hb hG; have hT := kept hb hT; have hcG := (cells_of hG).1; have hcT := (cells_of hT).1; clear hb) | (go_at_call 33; (with_reducible refine (risprice_any S _ _ hsp (by with_reducible assumption)).mono ?_); rintro e w1 ⟨rfl, hb⟩; have hB := below_then hB hb; have hG := kept hb hG; have hT := kept hb hT; have hcG := (cells_of hG).1; have hcT := (cells_of hT).1; clear hb) | (go_at_call 34; (with_reducible refine (risqty_any S _ _ hsp f36).mono ?_); rintro e w1 ⟨rfl, hb⟩; have hB := below_then hB hb; have hG := kept hb hG; have hT := kept hb hT; have hcG := (cells_of hG).1; have hcT := (cells_of hT).1; clear hb))
    go_ret
    exact ⟨ret_int HF.out.symm, hB⟩

set_option maxHeartbeats 1000000 in
theorem rcheck_b (S G : Array Value) (w : World) (h : IsGate G) (hS : S = G.extract 0 25) (k1 : Bo G 30 = false) (k2 : Bo G 29 = false) (k3 : N G 25 = 1) (hx : sB S G = false) :
    Calls Try.prog 19 #[.agg G] w fun e w' => e = .returned (.int .i64 (gchkS S G)) ∧ Below w.heap.size w w' := by
  have hsz := h.size
  have hsp := h.spec
  rw [← hS] at hsp
  have hSs := hsp.size
  have a25 := h.state.1
  have a26 := h.price.1
  have a29 := h.killed
  have a30 := h.deflt
  have a31 := h.q.1
  have a32 := h.buys.1
  have a33 := h.sells.1
  have a34 := h.buy
  have a35 := h.pr.1
  have a36 := h.qty.1
  unfold IsB at a29 a30 a34
  have s4 := (hsp.c 4 (by omega) (by omega)).i64.1
  have s5 := (hsp.c 5 (by omega) (by omega)).i64.1
  have f26 : F64 (N G 26) := h.price.2
  have f35 : F64 (N G 35) := h.pr.2
  have f36 : F64 (N G 36) := h.qty.2
  have HSs := Lib.hid hSs
  have HS := Lib.hid hS
  have Hsz := Lib.hid hsz
  clear hS hsz hSs
  have hG : ((w.alloc (.cells G 32)).alloc (.cells S 25)).heap[w.heap.size]? = some (.cells G 32 (0, 0)) := heap_alloc2_old _ _ _
  have hT : ((w.alloc (.cells G 32)).alloc (.cells S 25)).heap[w.heap.size + 1]? = some (.cells S 25 (0, 0)) := heap_alloc2_new _ _ _
  have hB : Below w.heap.size w ((w.alloc (.cells G 32)).alloc (.cells S 25)) := below_alloc (below_new _ _) _
  have hf : gchkS S G = 2 := by simp [gchkS, *]
  have k4 : (N G 25 == 3) = false := by simp [k3]
  have k5 : (N G 25 == 2) = false := by simp [k3]
  have k6 : (N G 25 != 1) = false := by simp [k3]
  have K3 := Lib.hid k3
  simp only [sB, k3] at hx
  clear k3
  cases hm : mayB S
  · clear hx
    have HF := Lib.hid hf
    clear hf
    go_enter Try.func19, Try.ntmps19
    go_wp2_with (first | ((with_reducible refine at_load 25 ?_); refine wpList_load_part rfl 25 _ rfl (w.heap.size) 0 rfl _ (G) (0, 0) _ 25 (heap_alloc_new _ _) Try.underlying25 rfl (by kernel_rfl) (by rw [Hsz.out]; omega) (S) (HS.out.symm) ?_) | ((with_reducible refine at_store 25 ?_); refine wpList_store_new rfl 25 _ _ rfl (S) _ _ _ rfl (by simp) rfl (by rw [HSs.out]; kernel_rfl) (by rw [HSs.out]; rfl) (hsp.all) ?_) | ((with_reducible refine at_load 25 ?_); refine wpList_load_part rfl 25 _ rfl (w.heap.size + 1) 0 rfl _ (S) (0, 0) _ 25 (hT) Try.underlying25 rfl (by kernel_rfl) (by rw [HSs.out]; omega) (S) (extract_all HSs.out) ?_) | (go_at_call 31; (with_reducible refine (rmay_any S _ hsp).mono ?_); rintro e w1 ⟨rfl, hb⟩; have hB := below_then hB hb; have hG := kept hb hG; have hT := kept hb hT; have hcG := (cells_of hG).1; have hcT := (cells_of hT).1; clear hb) | (go_at_call 33; (with_reducible refine (risprice_any S _ _ hsp (by with_reducible assumption)).mono ?_); rintro e w1 ⟨rfl, hb⟩; have hB := below_then hB hb; have hG := kept hb hG; have hT := kept hb hT; have hcG := (cells_of hG).1; have hcT := (cells_of hT).1; clear hb) | (go_at_call 34; (with_reducible refine (risqty_any S _ _ hsp f36).mono ?_); rintro e w1 ⟨rfl, hb⟩; have hB := below_then hB hb; have hG := kept hb hG; have hT := kept hb hT; have hcG := (cells_of hG).1; have hcT := (cells_of hT).1; clear hb))
    go_ret
    exact ⟨ret_int HF.out.symm, hB⟩
  · cases h1 : ipB S (N G 26)
    · clear hx
      have HF := Lib.hid hf
      clear hf
      go_enter Try.func19, Try.ntmps19
      go_wp2_with (first | ((with_reducible refine at_load 25 ?_); refine wpList_load_part rfl 25 _ rfl (w.heap.size) 0 rfl _ (G) (0, 0) _ 25 (heap_alloc_new _ _) Try.underlying25 rfl (by kernel_rfl) (by rw [Hsz.out]; omega) (S) (HS.out.symm) ?_) | ((with_reducible refine at_store 25 ?_); refine wpList_store_new rfl 25 _ _ rfl (S) _ _ _ rfl (by simp) rfl (by rw [HSs.out]; kernel_rfl) (by rw [HSs.out]; rfl) (hsp.all) ?_) | ((with_reducible refine at_load 25 ?_); refine wpList_load_part rfl 25 _ rfl (w.heap.size + 1) 0 rfl _ (S) (0, 0) _ 25 (hT) Try.underlying25 rfl (by kernel_rfl) (by rw [HSs.out]; omega) (S) (extract_all HSs.out) ?_) | (go_at_call 31; (with_reducible refine (rmay_any S _ hsp).mono ?_); rintro e w1 ⟨rfl, hb⟩; have hB := below_then hB hb; have hG := kept hb hG; have hT := kept hb hT; have hcG := (cells_of hG).1; have hcT := (cells_of hT).1; clear hb) | (go_at_call 33; (with_reducible refine (risprice_any S _ _ hsp (by with_reducible assumption)).mono ?_); rintro e w1 ⟨rfl, hb⟩; have hB := below_then hB hb; have hG := kept hb hG; have hT := kept hb hT; have hcG := (cells_of hG).1; have hcT := (cells_of hT).1; clear hb) | (go_at_call 34; (with_reducible refine (risqty_any S _ _ hsp f36).mono ?_); rintro e w1 ⟨rfl, hb⟩; have hB := below_then hB hb; have hG := kept hb hG; have hT := kept hb hT; have hcG := (cells_of hG).1; have hcT := (cells_of hT).1; clear hb))
      go_ret
      exact ⟨ret_int HF.out.symm, hB⟩
    · cases h2 : inB (N G 32) 0 1000000000
      · have j2 := inB_no.1 h2
        clear hx h2
        by_cases j : N G 32 < 0
        · have HF := Lib.hid hf
          clear hf
          go_enter Try.func19, Try.ntmps19
          go_wp2_with (first | ((with_reducible refine at_load 25 ?_); refine wpList_load_part rfl 25 _ rfl (w.heap.size) 0 rfl _ (G) (0, 0) _ 25 (heap_alloc_new _ _) Try.underlying25 rfl (by kernel_rfl) (by rw [Hsz.out]; omega) (S) (HS.out.symm) ?_) | ((with_reducible refine at_store 25 ?_); refine wpList_store_new rfl 25 _ _ rfl (S) _ _ _ rfl (by simp) rfl (by rw [HSs.out]; kernel_rfl) (by rw [HSs.out]; rfl) (hsp.all) ?_) | ((with_reducible refine at_load 25 ?_); refine wpList_load_part rfl 25 _ rfl (w.heap.size + 1) 0 rfl _ (S) (0, 0) _ 25 (hT) Try.underlying25 rfl (by kernel_rfl) (by rw [HSs.out]; omega) (S) (extract_all HSs.out) ?_) | (go_at_call 31; (with_reducible refine (rmay_any S _ hsp).mono ?_); rintro e w1 ⟨rfl, hb⟩; have hB := below_then hB hb; have hG := kept hb hG; have hT := kept hb hT; have hcG := (cells_of hG).1; have hcT := (cells_of hT).1; clear hb) | (go_at_call 33; (with_reducible refine (risprice_any S _ _ hsp (by with_reducible assumption)).mono ?_); rintro e w1 ⟨rfl, hb⟩; have hB := below_then hB hb; have hG := kept hb hG; have hT := kept hb hT; have hcG := (cells_of hG).1; have hcT := (cells_of hT).1; clear hb) | (go_at_call 34; (with_reducible refine (risqty_any S _ _ hsp f36).mono ?_); rintro e w1 ⟨rfl, hb⟩; have hB := below_then hB hb; have hG := kept hb hG; have hT := kept hb hT; have hcG := (cells_of hG).1; have hcT := (cells_of hT).1; clear hb))
          go_ret
          exact ⟨ret_int HF.out.symm, hB⟩
        · have j' : 1000000000 < N G 32 := by omega
          clear j2
          have HF := Lib.hid hf
          clear hf
          go_enter Try.func19, Try.ntmps19
          go_wp2_with (first | ((with_reducible refine at_load 25 ?_); refine wpList_load_part rfl 25 _ rfl (w.heap.size) 0 rfl _ (G) (0, 0) _ 25 (heap_alloc_new _ _) Try.underlying25 rfl (by kernel_rfl) (by rw [Hsz.out]; omega) (S) (HS.out.symm) ?_) | ((with_reducible refine at_store 25 ?_); refine wpList_store_new rfl 25 _ _ rfl (S) _ _ _ rfl (by simp) rfl (by rw [HSs.out]; kernel_rfl) (by rw [HSs.out]; rfl) (hsp.all) ?_) | ((with_reducible refine at_load 25 ?_); refine wpList_load_part rfl 25 _ rfl (w.heap.size + 1) 0 rfl _ (S) (0, 0) _ 25 (hT) Try.underlying25 rfl (by kernel_rfl) (by rw [HSs.out]; omega) (S) (extract_all HSs.out) ?_) | (go_at_call 31; (with_reducible refine (rmay_any S _ hsp).mono ?_); rintro e w1 ⟨rfl, hb⟩; have hB := below_then hB hb; have hG := kept hb hG; have hT := kept hb hT; have hcG := (cells_of hG).1; have hcT := (cells_of hT).1; clear hb) | (go_at_call 33; (with_reducible refine (risprice_any S _ _ hsp (by with_reducible assumption)).mono ?_); rintro e w1 ⟨rfl, hb⟩; have hB := below_then hB hb; have hG := kept hb hG; have hT := kept hb hT; have hcG := (cells_of hG).1; have hcT := (cells_of hT).1; clear hb) | (go_at_call 34; (with_reducible refine (risqty_any S _ _ hsp f36).mono ?_); rintro e w1 ⟨rfl, hb⟩; have hB := below_then hB hb; have hG := kept hb hG; have hT := kept hb hT; have hcG := (cells_of hG).1; have hcT := (cells_of hT).1; clear hb))
          go_ret
          exact ⟨ret_int HF.out.symm, hB⟩
      · obtain ⟨j1, j2⟩ := inB_iff.1 h2
        cases h3 : inB (N G 33) 0 1000000000
        · have j3 := inB_no.1 h3
          clear hx h2 h3
          by_cases j : N G 33 < 0
          · have HF := Lib.hid hf
            clear hf
            go_enter Try.func19, Try.ntmps19
            go_wp2_with (first | ((with_reducible refine at_load 25 ?_); refine wpList_load_part rfl 25 _ rfl (w.heap.size) 0 rfl _ (G) (0, 0) _ 25 (heap_alloc_new _ _) Try.underlying25 rfl (by kernel_rfl) (by rw [Hsz.out]; omega) (S) (HS.out.symm) ?_) | ((with_reducible refine at_store 25 ?_); refine wpList_store_new rfl 25 _ _ rfl (S) _ _ _ rfl (by simp) rfl (by rw [HSs.out]; kernel_rfl) (by rw [HSs.out]; rfl) (hsp.all) ?_) | ((with_reducible refine at_load 25 ?_); refine wpList_load_part rfl 25 _ rfl (w.heap.size + 1) 0 rfl _ (S) (0, 0) _ 25 (hT) Try.underlying25 rfl (by kernel_rfl) (by rw [HSs.out]; omega) (S) (extract_all HSs.out) ?_) | (go_at_call 31; (with_reducible refine (rmay_any S _ hsp).mono ?_); rintro e w1 ⟨rfl, hb⟩; have hB := below_then hB hb; have hG := kept hb hG; have hT := kept hb hT; have hcG := (cells_of hG).1; have hcT := (cells_of hT).1; clear hb) | (go_at_call 33; (with_reducible refine (risprice_any S _ _ hsp (by with_reducible assumption)).mono ?_); rintro e w1 ⟨rfl, hb⟩; have hB := below_then hB hb; have hG := kept hb hG; have hT := kept hb hT; have hcG := (cells_of hG).1; have hcT := (cells_of hT).1; clear hb) | (go_at_call 34; (with_reducible refine (risqty_any S _ _ hsp f36).mono ?_); rintro e w1 ⟨rfl, hb⟩; have hB := below_then hB hb; have hG := kept hb hG; have hT := kept hb hT; have hcG := (cells_of hG).1; have hcT := (cells_of hT).1; clear hb))
            go_ret
            exact ⟨ret_int HF.out.symm, hB⟩
          · have j' : 1000000000 < N G 33 := by omega
            clear j3
            have HF := Lib.hid hf
            clear hf
            go_enter Try.func19, Try.ntmps19
            go_wp2_with (first | ((with_reducible refine at_load 25 ?_); refine wpList_load_part rfl 25 _ rfl (w.heap.size) 0 rfl _ (G) (0, 0) _ 25 (heap_alloc_new _ _) Try.underlying25 rfl (by kernel_rfl) (by rw [Hsz.out]; omega) (S) (HS.out.symm) ?_) | ((with_reducible refine at_store 25 ?_); refine wpList_store_new rfl 25 _ _ rfl (S) _ _ _ rfl (by simp) rfl (by rw [HSs.out]; kernel_rfl) (by rw [HSs.out]; rfl) (hsp.all) ?_) | ((with_reducible refine at_load 25 ?_); refine wpList_load_part rfl 25 _ rfl (w.heap.size + 1) 0 rfl _ (S) (0, 0) _ 25 (hT) Try.underlying25 rfl (by kernel_rfl) (by rw [HSs.out]; omega) (S) (extract_all HSs.out) ?_) | (go_at_call 31; (with_reducible refine (rmay_any S _ hsp).mono ?_); rintro e w1 ⟨rfl, hb⟩; have hB := below_then hB hb; have hG := kept hb hG; have hT := kept hb hT; have hcG := (cells_of hG).1; have hcT := (cells_of hT).1; clear hb) | (go_at_call 33; (with_reducible refine (risprice_any S _ _ hsp (by with_reducible assumption)).mono ?_); rintro e w1 ⟨rfl, hb⟩; have hB := below_then hB hb; have hG := kept hb hG; have hT := kept hb hT; have hcG := (cells_of hG).1; have hcT := (cells_of hT).1; clear hb) | (go_at_call 34; (with_reducible refine (risqty_any S _ _ hsp f36).mono ?_); rintro e w1 ⟨rfl, hb⟩; have hB := below_then hB hb; have hG := kept hb hG; have hT := kept hb hT; have hcG := (cells_of hG).1; have hcT := (cells_of hT).1; clear hb))
            go_ret
            exact ⟨ret_int HF.out.symm, hB⟩
        · obtain ⟨j3, j4⟩ := inB_iff.1 h3
          have h4 : inB (N G 31) (-10000000) 10000000 = false := by simpa [h1, h2, h3] using hx
          have j5 := inB_no.1 h4
          clear hx h2 h3 h4
          by_cases j : 10000000 < N G 31
          · have HF := Lib.hid hf
            clear hf
            go_enter Try.func19, Try.ntmps19
            go_wp2_with (first | ((with_reducible refine at_load 25 ?_); refine wpList_load_part rfl 25 _ rfl (w.heap.size) 0 rfl _ (G) (0, 0) _ 25 (heap_alloc_new _ _) Try.underlying25 rfl (by kernel_rfl) (by rw [Hsz.out]; omega) (S) (HS.out.symm) ?_) | ((with_reducible refine at_store 25 ?_); refine wpList_store_new rfl 25 _ _ rfl (S) _ _ _ rfl (by simp) rfl (by rw [HSs.out]; kernel_rfl) (by rw [HSs.out]; rfl) (hsp.all) ?_) | ((with_reducible refine at_load 25 ?_); refine wpList_load_part rfl 25 _ rfl (w.heap.size + 1) 0 rfl _ (S) (0, 0) _ 25 (hT) Try.underlying25 rfl (by kernel_rfl) (by rw [HSs.out]; omega) (S) (extract_all HSs.out) ?_) | (go_at_call 31; (with_reducible refine (rmay_any S _ hsp).mono ?_); rintro e w1 ⟨rfl, hb⟩; have hB := below_then hB hb; have hG := kept hb hG; have hT := kept hb hT; have hcG := (cells_of hG).1; have hcT := (cells_of hT).1; clear hb) | (go_at_call 33; (with_reducible refine (risprice_any S _ _ hsp (by with_reducible assumption)).mono ?_); rintro e w1 ⟨rfl, hb⟩; have hB := below_then hB hb; have hG := kept hb hG; have hT := kept hb hT; have hcG := (cells_of hG).1; have hcT := (cells_of hT).1; clear hb) | (go_at_call 34; (with_reducible refine (risqty_any S _ _ hsp f36).mono ?_); rintro e w1 ⟨rfl, hb⟩; have hB := below_then hB hb; have hG := kept hb hG; have hT := kept hb hT; have hcG := (cells_of hG).1; have hcT := (cells_of hT).1; clear hb))
            go_ret
            exact ⟨ret_int HF.out.symm, hB⟩
          · have j' : N G 31 < -10000000 := by omega
            clear j5
            have HF := Lib.hid hf
            clear hf
            go_enter Try.func19, Try.ntmps19
            go_wp2_with (first | ((with_reducible refine at_load 25 ?_); refine wpList_load_part rfl 25 _ rfl (w.heap.size) 0 rfl _ (G) (0, 0) _ 25 (heap_alloc_new _ _) Try.underlying25 rfl (by kernel_rfl) (by rw [Hsz.out]; omega) (S) (HS.out.symm) ?_) | ((with_reducible refine at_store 25 ?_); refine wpList_store_new rfl 25 _ _ rfl (S) _ _ _ rfl (by simp) rfl (by rw [HSs.out]; kernel_rfl) (by rw [HSs.out]; rfl) (hsp.all) ?_) | ((with_reducible refine at_load 25 ?_); refine wpList_load_part rfl 25 _ rfl (w.heap.size + 1) 0 rfl _ (S) (0, 0) _ 25 (hT) Try.underlying25 rfl (by kernel_rfl) (by rw [HSs.out]; omega) (S) (extract_all HSs.out) ?_) | (go_at_call 31; (with_reducible refine (rmay_any S _ hsp).mono ?_); rintro e w1 ⟨rfl, hb⟩; have hB := below_then hB hb; have hG := kept hb hG; have hT := kept hb hT; have hcG := (cells_of hG).1; have hcT := (cells_of hT).1; clear hb) | (go_at_call 33; (with_reducible refine (risprice_any S _ _ hsp (by with_reducible assumption)).mono ?_); rintro e w1 ⟨rfl, hb⟩; have hB := below_then hB hb; have hG := kept hb hG; have hT := kept hb hT; have hcG := (cells_of hG).1; have hcT := (cells_of hT).1; clear hb) | (go_at_call 34; (with_reducible refine (risqty_any S _ _ hsp f36).mono ?_); rintro e w1 ⟨rfl, hb⟩; have hB := below_then hB hb; have hG := kept hb hG; have hT := kept hb hT; have hcG := (cells_of hG).1; have hcT := (cells_of hT).1; clear hb))
            go_ret
            exact ⟨ret_int HF.out.symm, hB⟩

set_option maxHeartbeats 2000000 in
theorem rcheck_c (S G : Array Value) (w : World) (h : IsGate G) (hS : S = G.extract 0 25) (k1 : Bo G 30 = false) (k2 : Bo G 29 = false) (k3 : N G 25 = 1) (hx : sB S G = true) :
    Calls Try.prog 19 #[.agg G] w fun e w' => e = .returned (.int .i64 (gchkS S G)) ∧ Below w.heap.size w w' := by
  have e5 : N G 5 = N S 5 := by rw [hS, N_extract (by rw [h.size]; omega) (by omega)]
  have hsz := h.size
  have hsp := h.spec
  rw [← hS] at hsp
  have hSs := hsp.size
  have a25 := h.state.1
  have a26 := h.price.1
  have a29 := h.killed
  have a30 := h.deflt
  have a31 := h.q.1
  have a32 := h.buys.1
  have a33 := h.sells.1
  have a34 := h.buy
  have a35 := h.pr.1
  have a36 := h.qty.1
  unfold IsB at a29 a30 a34
  have s4 := (hsp.c 4 (by omega) (by omega)).i64.1
  have s5 := (hsp.c 5 (by omega) (by omega)).i64.1
  have f26 : F64 (N G 26) := h.price.2
  have f35 : F64 (N G 35) := h.pr.2
  have f36 : F64 (N G 36) := h.qty.2
  have HSs := Lib.hid hSs
  have HS := Lib.hid hS
  have Hsz := Lib.hid hsz
  clear hS hsz hSs
  have hG : ((w.alloc (.cells G 32)).alloc (.cells S 25)).heap[w.heap.size]? = some (.cells G 32 (0, 0)) := heap_alloc2_old _ _ _
  have hT : ((w.alloc (.cells G 32)).alloc (.cells S 25)).heap[w.heap.size + 1]? = some (.cells S 25 (0, 0)) := heap_alloc2_new _ _ _
  have hB : Below w.heap.size w ((w.alloc (.cells G 32)).alloc (.cells S 25)) := below_alloc (below_new _ _) _
  have hf0 : gchkS S G = if iqB S (N G 36) = false then 123 else if ipB S (N G 35) = false then 52 else if ibB S (N G 26) (N G 35) = false then 124 else if farB G then 125 else 0 := by simp [gchkS, *]
  have k4 : (N G 25 == 3) = false := by simp [k3]
  have k5 : (N G 25 == 2) = false := by simp [k3]
  have k6 : (N G 25 != 1) = false := by simp [k3]
  have K3 := Lib.hid k3
  simp only [sB, k3, Bool.and_eq_true] at hx
  clear k3
  obtain ⟨⟨⟨⟨_, h1⟩, h2⟩, h3⟩, h4⟩ := hx
  obtain ⟨j1, j2⟩ := inB_iff.1 h2
  obtain ⟨j3, j4⟩ := inB_iff.1 h3
  obtain ⟨j5, j6⟩ := inB_iff.1 h4
  have hm : mayB S = true := by simp [ipB] at h1; exact h1.1
  obtain ⟨t1, t2⟩ := (mayB_facts hm).2.2.1
  obtain ⟨l1, l2⟩ := (mayB_facts hm).2.2.2.1
  have p26 : 1 ≤ N G 26 ∧ N G 26 ≤ 10000000 := by
    have : inB (N G 26) 1 10000000 = true := by simp [ipB, prB] at h1; exact h1.2.1
    exact inB_iff.1 this
  obtain ⟨p1, p2⟩ := p26
  clear h2 h3 h4
  cases h5 : iqB S (N G 36)
  · have hf : gchkS S G = 123 := by rw [hf0]; simp [*]
    clear hf0 e5
    have HF := Lib.hid hf
    clear hf
    go_enter Try.func19, Try.ntmps19
    go_wp2_with (first | ((with_reducible refine at_load 25 ?_); refine wpList_load_part rfl 25 _ rfl (w.heap.size) 0 rfl _ (G) (0, 0) _ 25 (heap_alloc_new _ _) Try.underlying25 rfl (by kernel_rfl) (by rw [Hsz.out]; omega) (S) (HS.out.symm) ?_) | ((with_reducible refine at_store 25 ?_); refine wpList_store_new rfl 25 _ _ rfl (S) _ _ _ rfl (by simp) rfl (by rw [HSs.out]; kernel_rfl) (by rw [HSs.out]; rfl) (hsp.all) ?_) | ((with_reducible refine at_load 25 ?_); refine wpList_load_part rfl 25 _ rfl (w.heap.size + 1) 0 rfl _ (S) (0, 0) _ 25 (hT) Try.underlying25 rfl (by kernel_rfl) (by rw [HSs.out]; omega) (S) (extract_all HSs.out) ?_) | (go_at_call 31; (with_reducible refine (rmay_any S _ hsp).mono ?_); rintro e w1 ⟨rfl, hb⟩; have hB := below_then hB hb; have hG := kept hb hG; have hT := kept hb hT; have hcG := (cells_of hG).1; have hcT := (cells_of hT).1; clear hb) | (go_at_call 33; (with_reducible refine (risprice_any S _ _ hsp (by with_reducible assumption)).mono ?_); rintro e w1 ⟨rfl, hb⟩; have hB := below_then hB hb; have hG := kept hb hG; have hT := kept hb hT; have hcG := (cells_of hG).1; have hcT := (cells_of hT).1; clear hb) | (go_at_call 34; (with_reducible refine (risqty_any S _ _ hsp f36).mono ?_); rintro e w1 ⟨rfl, hb⟩; have hB := below_then hB hb; have hG := kept hb hG; have hT := kept hb hT; have hcG := (cells_of hG).1; have hcT := (cells_of hT).1; clear hb))
    go_ret
    exact ⟨ret_int HF.out.symm, hB⟩
  · have y0 : inB (N G 36) 1 1000000 = true := by simp [iqB] at h5; exact h5.1.2
    obtain ⟨y1, y2⟩ := inB_iff.1 y0
    clear y0
    cases h6 : ipB S (N G 35)
    · have hf : gchkS S G = 52 := by rw [hf0]; simp [*]
      clear hf0 e5
      have HF := Lib.hid hf
      clear hf
      go_enter Try.func19, Try.ntmps19
      go_wp2_with (first | ((with_reducible refine at_load 25 ?_); refine wpList_load_part rfl 25 _ rfl (w.heap.size) 0 rfl _ (G) (0, 0) _ 25 (heap_alloc_new _ _) Try.underlying25 rfl (by kernel_rfl) (by rw [Hsz.out]; omega) (S) (HS.out.symm) ?_) | ((with_reducible refine at_store 25 ?_); refine wpList_store_new rfl 25 _ _ rfl (S) _ _ _ rfl (by simp) rfl (by rw [HSs.out]; kernel_rfl) (by rw [HSs.out]; rfl) (hsp.all) ?_) | ((with_reducible refine at_load 25 ?_); refine wpList_load_part rfl 25 _ rfl (w.heap.size + 1) 0 rfl _ (S) (0, 0) _ 25 (hT) Try.underlying25 rfl (by kernel_rfl) (by rw [HSs.out]; omega) (S) (extract_all HSs.out) ?_) | (go_at_call 31; (with_reducible refine (rmay_any S _ hsp).mono ?_); rintro e w1 ⟨rfl, hb⟩; have hB := below_then hB hb; have hG := kept hb hG; have hT := kept hb hT; have hcG := (cells_of hG).1; have hcT := (cells_of hT).1; clear hb) | (go_at_call 33; (with_reducible refine (risprice_any S _ _ hsp (by with_reducible assumption)).mono ?_); rintro e w1 ⟨rfl, hb⟩; have hB := below_then hB hb; have hG := kept hb hG; have hT := kept hb hT; have hcG := (cells_of hG).1; have hcT := (cells_of hT).1; clear hb) | (go_at_call 34; (with_reducible refine (risqty_any S _ _ hsp f36).mono ?_); rintro e w1 ⟨rfl, hb⟩; have hB := below_then hB hb; have hG := kept hb hG; have hT := kept hb hT; have hcG := (cells_of hG).1; have hcT := (cells_of hT).1; clear hb))
      go_ret
      exact ⟨ret_int HF.out.symm, hB⟩
    · have p35 : 1 ≤ N G 35 ∧ N G 35 ≤ 10000000 := by
        have : inB (N G 35) 1 10000000 = true := by simp [ipB, prB] at h6; exact h6.2.1
        exact inB_iff.1 this
      obtain ⟨r1, r2⟩ := p35
      cases h7 : ibB S (N G 26) (N G 35)
      · have hf : gchkS S G = 124 := by rw [hf0]; simp [*]
        have b0 : inB (N G 35 - N G 26) (-(N S 4)) (N S 4) = false := by simpa [ibB, hm] using h7
        have b1 := inB_no.1 b0
        clear hf0 e5 b0
        by_cases j : N S 4 < N G 35 - N G 26
        · clear b1
          have HF := Lib.hid hf
          clear hf
          go_enter Try.func19, Try.ntmps19
          go_wp2_with (first | ((with_reducible refine at_load 25 ?_); refine wpList_load_part rfl 25 _ rfl (w.heap.size) 0 rfl _ (G) (0, 0) _ 25 (heap_alloc_new _ _) Try.underlying25 rfl (by kernel_rfl) (by rw [Hsz.out]; omega) (S) (HS.out.symm) ?_) | ((with_reducible refine at_store 25 ?_); refine wpList_store_new rfl 25 _ _ rfl (S) _ _ _ rfl (by simp) rfl (by rw [HSs.out]; kernel_rfl) (by rw [HSs.out]; rfl) (hsp.all) ?_) | ((with_reducible refine at_load 25 ?_); refine wpList_load_part rfl 25 _ rfl (w.heap.size + 1) 0 rfl _ (S) (0, 0) _ 25 (hT) Try.underlying25 rfl (by kernel_rfl) (by rw [HSs.out]; omega) (S) (extract_all HSs.out) ?_) | (go_at_call 31; (with_reducible refine (rmay_any S _ hsp).mono ?_); rintro e w1 ⟨rfl, hb⟩; have hB := below_then hB hb; have hG := kept hb hG; have hT := kept hb hT; have hcG := (cells_of hG).1; have hcT := (cells_of hT).1; clear hb) | (go_at_call 33; (with_reducible refine (risprice_any S _ _ hsp (by with_reducible assumption)).mono ?_); rintro e w1 ⟨rfl, hb⟩; have hB := below_then hB hb; have hG := kept hb hG; have hT := kept hb hT; have hcG := (cells_of hG).1; have hcT := (cells_of hT).1; clear hb) | (go_at_call 34; (with_reducible refine (risqty_any S _ _ hsp f36).mono ?_); rintro e w1 ⟨rfl, hb⟩; have hB := below_then hB hb; have hG := kept hb hG; have hT := kept hb hT; have hcG := (cells_of hG).1; have hcT := (cells_of hT).1; clear hb))
          go_ret
          exact ⟨ret_int HF.out.symm, hB⟩
        · have j' : N S 4 < -(N G 35 - N G 26) := by omega
          clear b1
          have HF := Lib.hid hf
          clear hf
          go_enter Try.func19, Try.ntmps19
          go_wp2_with (first | ((with_reducible refine at_load 25 ?_); refine wpList_load_part rfl 25 _ rfl (w.heap.size) 0 rfl _ (G) (0, 0) _ 25 (heap_alloc_new _ _) Try.underlying25 rfl (by kernel_rfl) (by rw [Hsz.out]; omega) (S) (HS.out.symm) ?_) | ((with_reducible refine at_store 25 ?_); refine wpList_store_new rfl 25 _ _ rfl (S) _ _ _ rfl (by simp) rfl (by rw [HSs.out]; kernel_rfl) (by rw [HSs.out]; rfl) (hsp.all) ?_) | ((with_reducible refine at_load 25 ?_); refine wpList_load_part rfl 25 _ rfl (w.heap.size + 1) 0 rfl _ (S) (0, 0) _ 25 (hT) Try.underlying25 rfl (by kernel_rfl) (by rw [HSs.out]; omega) (S) (extract_all HSs.out) ?_) | (go_at_call 31; (with_reducible refine (rmay_any S _ hsp).mono ?_); rintro e w1 ⟨rfl, hb⟩; have hB := below_then hB hb; have hG := kept hb hG; have hT := kept hb hT; have hcG := (cells_of hG).1; have hcT := (cells_of hT).1; clear hb) | (go_at_call 33; (with_reducible refine (risprice_any S _ _ hsp (by with_reducible assumption)).mono ?_); rintro e w1 ⟨rfl, hb⟩; have hB := below_then hB hb; have hG := kept hb hG; have hT := kept hb hT; have hcG := (cells_of hG).1; have hcT := (cells_of hT).1; clear hb) | (go_at_call 34; (with_reducible refine (risqty_any S _ _ hsp f36).mono ?_); rintro e w1 ⟨rfl, hb⟩; have hB := below_then hB hb; have hG := kept hb hG; have hT := kept hb hT; have hcG := (cells_of hG).1; have hcT := (cells_of hT).1; clear hb))
          go_ret
          exact ⟨ret_int HF.out.symm, hB⟩
      · have b0 : inB (N G 35 - N G 26) (-(N S 4)) (N S 4) = true := by simp [ibB, hm] at h7; exact h7
        obtain ⟨b1, b2⟩ := inB_iff.1 b0
        have b1' : ¬ N S 4 < -(N G 35 - N G 26) := by omega
        clear b0
        cases h8 : farB G
        · have hf : gchkS S G = 0 := by rw [hf0]; simp [*]
          cases h9 : Bo G 34
          · have c0 : ¬ N S 5 < N G 33 + N G 36 - N G 31 := by simp [farB, h9] at h8; omega
            clear hf0 e5
            have HF := Lib.hid hf
            clear hf
            go_enter Try.func19, Try.ntmps19
            go_wp2_with (first | ((with_reducible refine at_load 25 ?_); refine wpList_load_part rfl 25 _ rfl (w.heap.size) 0 rfl _ (G) (0, 0) _ 25 (heap_alloc_new _ _) Try.underlying25 rfl (by kernel_rfl) (by rw [Hsz.out]; omega) (S) (HS.out.symm) ?_) | ((with_reducible refine at_store 25 ?_); refine wpList_store_new rfl 25 _ _ rfl (S) _ _ _ rfl (by simp) rfl (by rw [HSs.out]; kernel_rfl) (by rw [HSs.out]; rfl) (hsp.all) ?_) | ((with_reducible refine at_load 25 ?_); refine wpList_load_part rfl 25 _ rfl (w.heap.size + 1) 0 rfl _ (S) (0, 0) _ 25 (hT) Try.underlying25 rfl (by kernel_rfl) (by rw [HSs.out]; omega) (S) (extract_all HSs.out) ?_) | (go_at_call 31; (with_reducible refine (rmay_any S _ hsp).mono ?_); rintro e w1 ⟨rfl, hb⟩; have hB := below_then hB hb; have hG := kept hb hG; have hT := kept hb hT; have hcG := (cells_of hG).1; have hcT := (cells_of hT).1; clear hb) | (go_at_call 33; (with_reducible refine (risprice_any S _ _ hsp (by with_reducible assumption)).mono ?_); rintro e w1 ⟨rfl, hb⟩; have hB := below_then hB hb; have hG := kept hb hG; have hT := kept hb hT; have hcG := (cells_of hG).1; have hcT := (cells_of hT).1; clear hb) | (go_at_call 34; (with_reducible refine (risqty_any S _ _ hsp f36).mono ?_); rintro e w1 ⟨rfl, hb⟩; have hB := below_then hB hb; have hG := kept hb hG; have hT := kept hb hT; have hcG := (cells_of hG).1; have hcT := (cells_of hT).1; clear hb))
            go_ret
            exact ⟨ret_int HF.out.symm, hB⟩
          · have c0 : ¬ N S 5 < N G 31 + N G 32 + N G 36 := by simp [farB, h9] at h8; omega
            clear hf0 e5
            have HF := Lib.hid hf
            clear hf
            go_enter Try.func19, Try.ntmps19
            go_wp2_with (first | ((with_reducible refine at_load 25 ?_); refine wpList_load_part rfl 25 _ rfl (w.heap.size) 0 rfl _ (G) (0, 0) _ 25 (heap_alloc_new _ _) Try.underlying25 rfl (by kernel_rfl) (by rw [Hsz.out]; omega) (S) (HS.out.symm) ?_) | ((with_reducible refine at_store 25 ?_); refine wpList_store_new rfl 25 _ _ rfl (S) _ _ _ rfl (by simp) rfl (by rw [HSs.out]; kernel_rfl) (by rw [HSs.out]; rfl) (hsp.all) ?_) | ((with_reducible refine at_load 25 ?_); refine wpList_load_part rfl 25 _ rfl (w.heap.size + 1) 0 rfl _ (S) (0, 0) _ 25 (hT) Try.underlying25 rfl (by kernel_rfl) (by rw [HSs.out]; omega) (S) (extract_all HSs.out) ?_) | (go_at_call 31; (with_reducible refine (rmay_any S _ hsp).mono ?_); rintro e w1 ⟨rfl, hb⟩; have hB := below_then hB hb; have hG := kept hb hG; have hT := kept hb hT; have hcG := (cells_of hG).1; have hcT := (cells_of hT).1; clear hb) | (go_at_call 33; (with_reducible refine (risprice_any S _ _ hsp (by with_reducible assumption)).mono ?_); rintro e w1 ⟨rfl, hb⟩; have hB := below_then hB hb; have hG := kept hb hG; have hT := kept hb hT; have hcG := (cells_of hG).1; have hcT := (cells_of hT).1; clear hb) | (go_at_call 34; (with_reducible refine (risqty_any S _ _ hsp f36).mono ?_); rintro e w1 ⟨rfl, hb⟩; have hB := below_then hB hb; have hG := kept hb hG; have hT := kept hb hT; have hcG := (cells_of hG).1; have hcT := (cells_of hT).1; clear hb))
            go_ret
            exact ⟨ret_int HF.out.symm, hB⟩
        · have hf : gchkS S G = 125 := by rw [hf0]; simp [*]
          cases h9 : Bo G 34
          · have c0 : N S 5 < N G 33 + N G 36 - N G 31 := by simp [farB, h9] at h8; omega
            clear hf0 e5
            have HF := Lib.hid hf
            clear hf
            go_enter Try.func19, Try.ntmps19
            go_wp2_with (first | ((with_reducible refine at_load 25 ?_); refine wpList_load_part rfl 25 _ rfl (w.heap.size) 0 rfl _ (G) (0, 0) _ 25 (heap_alloc_new _ _) Try.underlying25 rfl (by kernel_rfl) (by rw [Hsz.out]; omega) (S) (HS.out.symm) ?_) | ((with_reducible refine at_store 25 ?_); refine wpList_store_new rfl 25 _ _ rfl (S) _ _ _ rfl (by simp) rfl (by rw [HSs.out]; kernel_rfl) (by rw [HSs.out]; rfl) (hsp.all) ?_) | ((with_reducible refine at_load 25 ?_); refine wpList_load_part rfl 25 _ rfl (w.heap.size + 1) 0 rfl _ (S) (0, 0) _ 25 (hT) Try.underlying25 rfl (by kernel_rfl) (by rw [HSs.out]; omega) (S) (extract_all HSs.out) ?_) | (go_at_call 31; (with_reducible refine (rmay_any S _ hsp).mono ?_); rintro e w1 ⟨rfl, hb⟩; have hB := below_then hB hb; have hG := kept hb hG; have hT := kept hb hT; have hcG := (cells_of hG).1; have hcT := (cells_of hT).1; clear hb) | (go_at_call 33; (with_reducible refine (risprice_any S _ _ hsp (by with_reducible assumption)).mono ?_); rintro e w1 ⟨rfl, hb⟩; have hB := below_then hB hb; have hG := kept hb hG; have hT := kept hb hT; have hcG := (cells_of hG).1; have hcT := (cells_of hT).1; clear hb) | (go_at_call 34; (with_reducible refine (risqty_any S _ _ hsp f36).mono ?_); rintro e w1 ⟨rfl, hb⟩; have hB := below_then hB hb; have hG := kept hb hG; have hT := kept hb hT; have hcG := (cells_of hG).1; have hcT := (cells_of hT).1; clear hb))
            go_ret
            exact ⟨ret_int HF.out.symm, hB⟩
          · have c0 : N S 5 < N G 31 + N G 32 + N G 36 := by simp [farB, h9] at h8; omega
            clear hf0 e5
            have HF := Lib.hid hf
            clear hf
            go_enter Try.func19, Try.ntmps19
            go_wp2_with (first | ((with_reducible refine at_load 25 ?_); refine wpList_load_part rfl 25 _ rfl (w.heap.size) 0 rfl _ (G) (0, 0) _ 25 (heap_alloc_new _ _) Try.underlying25 rfl (by kernel_rfl) (by rw [Hsz.out]; omega) (S) (HS.out.symm) ?_) | ((with_reducible refine at_store 25 ?_); refine wpList_store_new rfl 25 _ _ rfl (S) _ _ _ rfl (by simp) rfl (by rw [HSs.out]; kernel_rfl) (by rw [HSs.out]; rfl) (hsp.all) ?_) | ((with_reducible refine at_load 25 ?_); refine wpList_load_part rfl 25 _ rfl (w.heap.size + 1) 0 rfl _ (S) (0, 0) _ 25 (hT) Try.underlying25 rfl (by kernel_rfl) (by rw [HSs.out]; omega) (S) (extract_all HSs.out) ?_) | (go_at_call 31; (with_reducible refine (rmay_any S _ hsp).mono ?_); rintro e w1 ⟨rfl, hb⟩; have hB := below_then hB hb; have hG := kept hb hG; have hT := kept hb hT; have hcG := (cells_of hG).1; have hcT := (cells_of hT).1; clear hb) | (go_at_call 33; (with_reducible refine (risprice_any S _ _ hsp (by with_reducible assumption)).mono ?_); rintro e w1 ⟨rfl, hb⟩; have hB := below_then hB hb; have hG := kept hb hG; have hT := kept hb hT; have hcG := (cells_of hG).1; have hcT := (cells_of hT).1; clear hb) | (go_at_call 34; (with_reducible refine (risqty_any S _ _ hsp f36).mono ?_); rintro e w1 ⟨rfl, hb⟩; have hB := below_then hB hb; have hG := kept hb hG; have hT := kept hb hT; have hcG := (cells_of hG).1; have hcT := (cells_of hT).1; clear hb))
            go_ret
            exact ⟨ret_int HF.out.symm, hB⟩

theorem rcheck_any (G : Array Value) (w : World) (h : IsGate G) :
    Calls Try.prog 19 #[.agg G] w fun e w' => e = .returned (.int .i64 (gchk G)) ∧ Below w.heap.size w w' := by
  by_cases hx : Bo G 30 = true ∨ Bo G 29 = true ∨ N G 25 ≠ 1
  · exact rcheck_a _ G w h rfl hx
  · have k1 : Bo G 30 = false := by cases k : Bo G 30 <;> simp_all
    have k2 : Bo G 29 = false := by cases k : Bo G 29 <;> simp_all
    have k3 : N G 25 = 1 := by simp_all
    cases hs : sB (G.extract 0 25) G
    · exact rcheck_b _ G w h rfl k1 k2 k3 hs
    · exact rcheck_c _ G w h rfl k1 k2 k3 hs
end Go.Proofs.Ytodbbcagpfjieaa
