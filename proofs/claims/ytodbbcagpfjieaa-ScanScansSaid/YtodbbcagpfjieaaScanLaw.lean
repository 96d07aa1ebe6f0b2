/- The statements ScanScans and ScanGrows return true, whatever comes in. No condition but that the numbers fit their kinds. -/
import Derived.Test.YtodbbcagpfjieaaKnown10
namespace Go.Proofs.Ytodbbcagpfjieaa
set_option linter.unusedVariables false
set_option linter.unusedSimpArgs false
open Go.RowKit

def shKs : List (Option IntKind) := List.replicate 16 (some .i64)
theorem sh_of {A : Array Value} (h : Rowk shKs A) : IsSh A := ⟨by simpa [shKs] using h.1, fun i hi => h.isN (by unfold shKs; rw [List.getElem?_replicate, if_pos hi])⟩
theorem sh_all {A : Array Value} (h : IsSh A) : A.extract 0 16 = A := by rw [← h.size]; simp

theorem wk_zero (S : Array Value) : ∀ k, wk S 0 k = 0
  | 0 => rfl
  | k + 1 => by simp [wk, wk_zero S k]
theorem wk_nonneg (S : Array Value) (q : Int) : ∀ k, 0 ≤ wk S q k
  | 0 => by simp [wk]
  | k + 1 => by have := wk_nonneg S q k; simp only [wk]; omega
theorem wk_up {p q : Int} (S : Array Value) (h : 0 ≤ p) (hq : p ≤ q) : ∀ k, wk S p k ≤ wk S q k
  | 0 => by simp [wk]
  | k + 1 => by
    have ih := wk_up S h hq k
    have h0 := wk_nonneg S q k
    simp only [wk]
    by_cases hs : 0 ≤ N S k
    · have : 0 ≤ p * N S k := Int.mul_nonneg h hs
      omega
    · have h1 : q * N S k ≤ p * N S k := Int.mul_le_mul_of_nonpos_right hq (by omega)
      omega
theorem wk_down {p q : Int} (S : Array Value) (h : p ≤ 0) (hq : q ≤ p) : ∀ k, wk S p k ≤ wk S q k
  | 0 => by simp [wk]
  | k + 1 => by
    have ih := wk_down S h hq k
    have h0 := wk_nonneg S q k
    simp only [wk]
    by_cases hs : 0 ≤ N S k
    · have h1 : q * N S k ≤ p * N S k := Int.mul_le_mul_of_nonneg_right hq hs
      omega
    · have : 0 ≤ p * N S k := Int.mul_nonneg_of_nonpos_of_nonpos h (by omega)
      omega
theorem wk_sum (S : Array Value) (p q : Int) : ∀ k, wk S (p + q) k ≤ wk S p k + wk S q k
  | 0 => by simp [wk]
  | k + 1 => by
    have ih := wk_sum S p q k
    have h1 := wk_nonneg S p k
    have h2 := wk_nonneg S q k
    simp only [wk, Int.add_mul]
    omega

set_option maxRecDepth 100000 in
set_option maxHeartbeats 1000000 in
theorem scans_walk (A : Array Value) (q : Int) (W : World) (w0 : Rowk shKs A) (hq : F64 q) :
    Calls Try.prog 5 #[.agg A, .int .i64 q] W fun e W' => e = .returned (.bool true) ∧ Below W.heap.size W W' := by
  have hsh := sh_of w0
  have HS := Lib.hid hsh.size
  have HE := Lib.hid (sh_all hsh)
  have c1 := fun w => scan_any A q w hsh hq
  have c2 := fun w => rscan_any A q w hsh hq
  clear w0
  generalize scN A q = n at *
  generalize scE A q = e at *
  go_enter Try.func5, Try.ntmps5
  go_wp2_with (first | ((with_reducible refine at_load 23 ?_); refine wpList_load_part rfl 23 _ rfl (W.heap.size) 0 rfl _ (A) (0, 0) _ 16 (heap_alloc_new _ _) Try.underlying23 rfl (by kernel_rfl) (by have := HS.out; omega) (A) (HE.out) ?_) | ((with_reducible refine at_load 23 ?_); refine wpList_load_part rfl 23 _ rfl (W.heap.size) 0 rfl _ (A) (0, 0) _ 16 (hg1) Try.underlying23 rfl (by kernel_rfl) (by have := HS.out; omega) (A) (HE.out) ?_) | (go_at_call 14; (with_reducible refine (c1 _).mono ?_); rintro e w1 ⟨rfl, hb1⟩; have hg1 := kept hb1 (heap_alloc_new _ _)) | (go_at_call 15; (with_reducible refine (c2 _).mono ?_); rintro e w2 ⟨rfl, hb2⟩) | (go_at_call 16; (with_reducible refine (known10 _).mono ?_); rintro e w3 ⟨rfl, hb3⟩))
  go_ret
  exact ⟨rfl, below_then (below_then (below_then (below_new _ _) hb1) hb2) hb3⟩

set_option maxRecDepth 100000 in
set_option maxHeartbeats 2000000 in
theorem grows_walk (A : Array Value) (p q : Int) (W : World) (w0 : Rowk shKs A) (hp : F64 p) (hq : F64 q) :
    Calls Try.prog 7 #[.agg A, .int .i64 p, .int .i64 q] W fun e W' => e = .returned (.bool true) ∧ Below W.heap.size W W' := by
  have hsh := sh_of w0
  have HS := Lib.hid hsh.size
  have HE := Lib.hid (sh_all hsh)
  unfold F64 at hp hq
  clear w0
  by_cases b1 : p < -500000000
  · go_enter Try.func7, Try.ntmps7
    go_wp2_with (first | (go_at_call 16; (with_reducible refine (known10 _).mono ?_); rintro e w5 ⟨rfl, hb5⟩))
    go_ret
    exact ⟨rfl, below_then (below_new _ _) hb5⟩
  by_cases b2 : 500000000 < p
  · go_enter Try.func7, Try.ntmps7
    go_wp2_with (first | (go_at_call 16; (with_reducible refine (known10 _).mono ?_); rintro e w5 ⟨rfl, hb5⟩))
    go_ret
    exact ⟨rfl, below_then (below_new _ _) hb5⟩
  by_cases b3 : q < -500000000
  · go_enter Try.func7, Try.ntmps7
    go_wp2_with (first | (go_at_call 16; (with_reducible refine (known10 _).mono ?_); rintro e w5 ⟨rfl, hb5⟩))
    go_ret
    exact ⟨rfl, below_then (below_new _ _) hb5⟩
  by_cases b4 : 500000000 < q
  · go_enter Try.func7, Try.ntmps7
    go_wp2_with (first | (go_at_call 16; (with_reducible refine (known10 _).mono ?_); rintro e w5 ⟨rfl, hb5⟩))
    go_ret
    exact ⟨rfl, below_then (below_new _ _) hb5⟩
  have c1 := fun w => scan_any A p w hsh (by unfold F64; omega)
  have c2 := fun w => scan_any A q w hsh (by unfold F64; omega)
  have c3 := fun w => scan_any A (p + q) w hsh (by unfold F64; omega)
  have c4 := fun w => scan_any A 0 w hsh (by unfold F64; omega)
  cases hsw : swTo A 16
  · have e1 : ∀ x, scN A x = 0 ∧ scE A x = 2 := fun x => by simp [scN, scE, hsw]
    rw [(e1 _).1, (e1 _).2] at c1 c2 c3 c4
    clear e1
    go_enter Try.func7, Try.ntmps7
    go_wp2_with (first | ((with_reducible refine at_load 23 ?_); refine wpList_load_part rfl 23 _ rfl (W.heap.size) 0 rfl _ (A) (0, 0) _ 16 (heap_alloc_new _ _) Try.underlying23 rfl (by kernel_rfl) (by have := HS.out; omega) (A) (HE.out) ?_) | ((with_reducible refine at_load 23 ?_); refine wpList_load_part rfl 23 _ rfl (W.heap.size) 0 rfl _ (A) (0, 0) _ 16 (hg1) Try.underlying23 rfl (by kernel_rfl) (by have := HS.out; omega) (A) (HE.out) ?_) | ((with_reducible refine at_load 23 ?_); refine wpList_load_part rfl 23 _ rfl (W.heap.size) 0 rfl _ (A) (0, 0) _ 16 (hg2) Try.underlying23 rfl (by kernel_rfl) (by have := HS.out; omega) (A) (HE.out) ?_) | ((with_reducible refine at_load 23 ?_); refine wpList_load_part rfl 23 _ rfl (W.heap.size) 0 rfl _ (A) (0, 0) _ 16 (hg3) Try.underlying23 rfl (by kernel_rfl) (by have := HS.out; omega) (A) (HE.out) ?_) | (go_at_call 14; (with_reducible refine (c1 _).mono ?_); rintro e w1 ⟨rfl, hb1⟩; have hg1 := kept hb1 (heap_alloc_new _ _)) | (go_at_call 14; (with_reducible refine (c2 _).mono ?_); rintro e w2 ⟨rfl, hb2⟩; have hg2 := kept hb2 hg1) | (go_at_call 14; (with_reducible refine (c3 _).mono ?_); rintro e w3 ⟨rfl, hb3⟩; have hg3 := kept hb3 hg2) | (go_at_call 14; (with_reducible refine (c4 _).mono ?_); rintro e w4 ⟨rfl, hb4⟩) | (go_at_call 16; (with_reducible refine (known10 _).mono ?_); rintro e w5 ⟨rfl, hb5⟩))
    go_ret
    exact ⟨rfl, below_then (below_then (below_then (below_then (below_then (below_new _ _) hb1) hb2) hb3) hb4) hb5⟩
  · have e1 : ∀ x, -1000000000 ≤ x ∧ x ≤ 1000000000 → scN A x = wk A x 16 ∧ scE A x = 0 := fun x hx => by simp [scN, scE, hsw, inB_iff.2 hx]
    rw [(e1 _ (by omega)).1, (e1 _ (by omega)).2] at c1 c2 c3 c4
    rw [wk_zero] at c4
    have hu : 0 ≤ p → p ≤ q → wk A p 16 ≤ wk A q 16 := fun h1 h2 => wk_up A h1 h2 16
    have hd : p ≤ 0 → q ≤ p → wk A p 16 ≤ wk A q 16 := fun h1 h2 => wk_down A h1 h2 16
    have hs := wk_sum A p q 16
    have ha := wk_nonneg A p 16
    have hb := wk_bd (q := p) (by omega) hsw 16 (by omega)
    have hb' := wk_bd (q := q) (by omega) hsw 16 (by omega)
    generalize wk A p 16 = a at *
    generalize wk A q 16 = b at *
    generalize wk A (p + q) 16 = c at *
    clear e1
    have HU := Lib.hid hu
    have HD := Lib.hid hd
    clear hu hd
    by_cases f1 : 0 ≤ p
    · by_cases f2 : p ≤ q
      · have f5 := HU.out f1 f2
        have f5' : ¬ b < a := by omega
        by_cases f3 : p ≤ 0
        · by_cases f4 : q ≤ p
          · go_enter Try.func7, Try.ntmps7
            go_wp2_with (first | ((with_reducible refine at_load 23 ?_); refine wpList_load_part rfl 23 _ rfl (W.heap.size) 0 rfl _ (A) (0, 0) _ 16 (heap_alloc_new _ _) Try.underlying23 rfl (by kernel_rfl) (by have := HS.out; omega) (A) (HE.out) ?_) | ((with_reducible refine at_load 23 ?_); refine wpList_load_part rfl 23 _ rfl (W.heap.size) 0 rfl _ (A) (0, 0) _ 16 (hg1) Try.underlying23 rfl (by kernel_rfl) (by have := HS.out; omega) (A) (HE.out) ?_) | ((with_reducible refine at_load 23 ?_); refine wpList_load_part rfl 23 _ rfl (W.heap.size) 0 rfl _ (A) (0, 0) _ 16 (hg2) Try.underlying23 rfl (by kernel_rfl) (by have := HS.out; omega) (A) (HE.out) ?_) | ((with_reducible refine at_load 23 ?_); refine wpList_load_part rfl 23 _ rfl (W.heap.size) 0 rfl _ (A) (0, 0) _ 16 (hg3) Try.underlying23 rfl (by kernel_rfl) (by have := HS.out; omega) (A) (HE.out) ?_) | (go_at_call 14; (with_reducible refine (c1 _).mono ?_); rintro e w1 ⟨rfl, hb1⟩; have hg1 := kept hb1 (heap_alloc_new _ _)) | (go_at_call 14; (with_reducible refine (c2 _).mono ?_); rintro e w2 ⟨rfl, hb2⟩; have hg2 := kept hb2 hg1) | (go_at_call 14; (with_reducible refine (c3 _).mono ?_); rintro e w3 ⟨rfl, hb3⟩; have hg3 := kept hb3 hg2) | (go_at_call 14; (with_reducible refine (c4 _).mono ?_); rintro e w4 ⟨rfl, hb4⟩) | (go_at_call 16; (with_reducible refine (known10 _).mono ?_); rintro e w5 ⟨rfl, hb5⟩))
            go_ret
            exact ⟨rfl, below_then (below_then (below_then (below_then (below_then (below_new _ _) hb1) hb2) hb3) hb4) hb5⟩
          · go_enter Try.func7, Try.ntmps7
            go_wp2_with (first | ((with_reducible refine at_load 23 ?_); refine wpList_load_part rfl 23 _ rfl (W.heap.size) 0 rfl _ (A) (0, 0) _ 16 (heap_alloc_new _ _) Try.underlying23 rfl (by kernel_rfl) (by have := HS.out; omega) (A) (HE.out) ?_) | ((with_reducible refine at_load 23 ?_); refine wpList_load_part rfl 23 _ rfl (W.heap.size) 0 rfl _ (A) (0, 0) _ 16 (hg1) Try.underlying23 rfl (by kernel_rfl) (by have := HS.out; omega) (A) (HE.out) ?_) | ((with_reducible refine at_load 23 ?_); refine wpList_load_part rfl 23 _ rfl (W.heap.size) 0 rfl _ (A) (0, 0) _ 16 (hg2) Try.underlying23 rfl (by kernel_rfl) (by have := HS.out; omega) (A) (HE.out) ?_) | ((with_reducible refine at_load 23 ?_); refine wpList_load_part rfl 23 _ rfl (W.heap.size) 0 rfl _ (A) (0, 0) _ 16 (hg3) Try.underlying23 rfl (by kernel_rfl) (by have := HS.out; omega) (A) (HE.out) ?_) | (go_at_call 14; (with_reducible refine (c1 _).mono ?_); rintro e w1 ⟨rfl, hb1⟩; have hg1 := kept hb1 (heap_alloc_new _ _)) | (go_at_call 14; (with_reducible refine (c2 _).mono ?_); rintro e w2 ⟨rfl, hb2⟩; have hg2 := kept hb2 hg1) | (go_at_call 14; (with_reducible refine (c3 _).mono ?_); rintro e w3 ⟨rfl, hb3⟩; have hg3 := kept hb3 hg2) | (go_at_call 14; (with_reducible refine (c4 _).mono ?_); rintro e w4 ⟨rfl, hb4⟩) | (go_at_call 16; (with_reducible refine (known10 _).mono ?_); rintro e w5 ⟨rfl, hb5⟩))
            go_ret
            exact ⟨rfl, below_then (below_then (below_then (below_then (below_then (below_new _ _) hb1) hb2) hb3) hb4) hb5⟩
        · go_enter Try.func7, Try.ntmps7
          go_wp2_with (first | ((with_reducible refine at_load 23 ?_); refine wpList_load_part rfl 23 _ rfl (W.heap.size) 0 rfl _ (A) (0, 0) _ 16 (heap_alloc_new _ _) Try.underlying23 rfl (by kernel_rfl) (by have := HS.out; omega) (A) (HE.out) ?_) | ((with_reducible refine at_load 23 ?_); refine wpList_load_part rfl 23 _ rfl (W.heap.size) 0 rfl _ (A) (0, 0) _ 16 (hg1) Try.underlying23 rfl (by kernel_rfl) (by have := HS.out; omega) (A) (HE.out) ?_) | ((with_reducible refine at_load 23 ?_); refine wpList_load_part rfl 23 _ rfl (W.heap.size) 0 rfl _ (A) (0, 0) _ 16 (hg2) Try.underlying23 rfl (by kernel_rfl) (by have := HS.out; omega) (A) (HE.out) ?_) | ((with_reducible refine at_load 23 ?_); refine wpList_load_part rfl 23 _ rfl (W.heap.size) 0 rfl _ (A) (0, 0) _ 16 (hg3) Try.underlying23 rfl (by kernel_rfl) (by have := HS.out; omega) (A) (HE.out) ?_) | (go_at_call 14; (with_reducible refine (c1 _).mono ?_); rintro e w1 ⟨rfl, hb1⟩; have hg1 := kept hb1 (heap_alloc_new _ _)) | (go_at_call 14; (with_reducible refine (c2 _).mono ?_); rintro e w2 ⟨rfl, hb2⟩; have hg2 := kept hb2 hg1) | (go_at_call 14; (with_reducible refine (c3 _).mono ?_); rintro e w3 ⟨rfl, hb3⟩; have hg3 := kept hb3 hg2) | (go_at_call 14; (with_reducible refine (c4 _).mono ?_); rintro e w4 ⟨rfl, hb4⟩) | (go_at_call 16; (with_reducible refine (known10 _).mono ?_); rintro e w5 ⟨rfl, hb5⟩))
          go_ret
          exact ⟨rfl, below_then (below_then (below_then (below_then (below_then (below_new _ _) hb1) hb2) hb3) hb4) hb5⟩
      · by_cases f3 : p ≤ 0
        · have f4 : q ≤ p := by omega
          have f5 := HD.out f3 f4
          have f5' : ¬ b < a := by omega
          go_enter Try.func7, Try.ntmps7
          go_wp2_with (first | ((with_reducible refine at_load 23 ?_); refine wpList_load_part rfl 23 _ rfl (W.heap.size) 0 rfl _ (A) (0, 0) _ 16 (heap_alloc_new _ _) Try.underlying23 rfl (by kernel_rfl) (by have := HS.out; omega) (A) (HE.out) ?_) | ((with_reducible refine at_load 23 ?_); refine wpList_load_part rfl 23 _ rfl (W.heap.size) 0 rfl _ (A) (0, 0) _ 16 (hg1) Try.underlying23 rfl (by kernel_rfl) (by have := HS.out; omega) (A) (HE.out) ?_) | ((with_reducible refine at_load 23 ?_); refine wpList_load_part rfl 23 _ rfl (W.heap.size) 0 rfl _ (A) (0, 0) _ 16 (hg2) Try.underlying23 rfl (by kernel_rfl) (by have := HS.out; omega) (A) (HE.out) ?_) | ((with_reducible refine at_load 23 ?_); refine wpList_load_part rfl 23 _ rfl (W.heap.size) 0 rfl _ (A) (0, 0) _ 16 (hg3) Try.underlying23 rfl (by kernel_rfl) (by have := HS.out; omega) (A) (HE.out) ?_) | (go_at_call 14; (with_reducible refine (c1 _).mono ?_); rintro e w1 ⟨rfl, hb1⟩; have hg1 := kept hb1 (heap_alloc_new _ _)) | (go_at_call 14; (with_reducible refine (c2 _).mono ?_); rintro e w2 ⟨rfl, hb2⟩; have hg2 := kept hb2 hg1) | (go_at_call 14; (with_reducible refine (c3 _).mono ?_); rintro e w3 ⟨rfl, hb3⟩; have hg3 := kept hb3 hg2) | (go_at_call 14; (with_reducible refine (c4 _).mono ?_); rintro e w4 ⟨rfl, hb4⟩) | (go_at_call 16; (with_reducible refine (known10 _).mono ?_); rintro e w5 ⟨rfl, hb5⟩))
          go_ret
          exact ⟨rfl, below_then (below_then (below_then (below_then (below_then (below_new _ _) hb1) hb2) hb3) hb4) hb5⟩
        · go_enter Try.func7, Try.ntmps7
          go_wp2_with (first | ((with_reducible refine at_load 23 ?_); refine wpList_load_part rfl 23 _ rfl (W.heap.size) 0 rfl _ (A) (0, 0) _ 16 (heap_alloc_new _ _) Try.underlying23 rfl (by kernel_rfl) (by have := HS.out; omega) (A) (HE.out) ?_) | ((with_reducible refine at_load 23 ?_); refine wpList_load_part rfl 23 _ rfl (W.heap.size) 0 rfl _ (A) (0, 0) _ 16 (hg1) Try.underlying23 rfl (by kernel_rfl) (by have := HS.out; omega) (A) (HE.out) ?_) | ((with_reducible refine at_load 23 ?_); refine wpList_load_part rfl 23 _ rfl (W.heap.size) 0 rfl _ (A) (0, 0) _ 16 (hg2) Try.underlying23 rfl (by kernel_rfl) (by have := HS.out; omega) (A) (HE.out) ?_) | ((with_reducible refine at_load 23 ?_); refine wpList_load_part rfl 23 _ rfl (W.heap.size) 0 rfl _ (A) (0, 0) _ 16 (hg3) Try.underlying23 rfl (by kernel_rfl) (by have := HS.out; omega) (A) (HE.out) ?_) | (go_at_call 14; (with_reducible refine (c1 _).mono ?_); rintro e w1 ⟨rfl, hb1⟩; have hg1 := kept hb1 (heap_alloc_new _ _)) | (go_at_call 14; (with_reducible refine (c2 _).mono ?_); rintro e w2 ⟨rfl, hb2⟩; have hg2 := kept hb2 hg1) | (go_at_call 14; (with_reducible refine (c3 _).mono ?_); rintro e w3 ⟨rfl, hb3⟩; have hg3 := kept hb3 hg2) | (go_at_call 14; (with_reducible refine (c4 _).mono ?_); rintro e w4 ⟨rfl, hb4⟩) | (go_at_call 16; (with_reducible refine (known10 _).mono ?_); rintro e w5 ⟨rfl, hb5⟩))
          go_ret
          exact ⟨rfl, below_then (below_then (below_then (below_then (below_then (below_new _ _) hb1) hb2) hb3) hb4) hb5⟩
    · have f3 : p ≤ 0 := by omega
      by_cases f4 : q ≤ p
      · have f5 := HD.out f3 f4
        have f5' : ¬ b < a := by omega
        go_enter Try.func7, Try.ntmps7
        go_wp2_with (first | ((with_reducible refine at_load 23 ?_); refine wpList_load_part rfl 23 _ rfl (W.heap.size) 0 rfl _ (A) (0, 0) _ 16 (heap_alloc_new _ _) Try.underlying23 rfl (by kernel_rfl) (by have := HS.out; omega) (A) (HE.out) ?_) | ((with_reducible refine at_load 23 ?_); refine wpList_load_part rfl 23 _ rfl (W.heap.size) 0 rfl _ (A) (0, 0) _ 16 (hg1) Try.underlying23 rfl (by kernel_rfl) (by have := HS.out; omega) (A) (HE.out) ?_) | ((with_reducible refine at_load 23 ?_); refine wpList_load_part rfl 23 _ rfl (W.heap.size) 0 rfl _ (A) (0, 0) _ 16 (hg2) Try.underlying23 rfl (by kernel_rfl) (by have := HS.out; omega) (A) (HE.out) ?_) | ((with_reducible refine at_load 23 ?_); refine wpList_load_part rfl 23 _ rfl (W.heap.size) 0 rfl _ (A) (0, 0) _ 16 (hg3) Try.underlying23 rfl (by kernel_rfl) (by have := HS.out; omega) (A) (HE.out) ?_) | (go_at_call 14; (with_reducible refine (c1 _).mono ?_); rintro e w1 ⟨rfl, hb1⟩; have hg1 := kept hb1 (heap_alloc_new _ _)) | (go_at_call 14; (with_reducible refine (c2 _).mono ?_); rintro e w2 ⟨rfl, hb2⟩; have hg2 := kept hb2 hg1) | (go_at_call 14; (with_reducible refine (c3 _).mono ?_); rintro e w3 ⟨rfl, hb3⟩; have hg3 := kept hb3 hg2) | (go_at_call 14; (with_reducible refine (c4 _).mono ?_); rintro e w4 ⟨rfl, hb4⟩) | (go_at_call 16; (with_reducible refine (known10 _).mono ?_); rintro e w5 ⟨rfl, hb5⟩))
        go_ret
        exact ⟨rfl, below_then (below_then (below_then (below_then (below_then (below_new _ _) hb1) hb2) hb3) hb4) hb5⟩
      · go_enter Try.func7, Try.ntmps7
        go_wp2_with (first | ((with_reducible refine at_load 23 ?_); refine wpList_load_part rfl 23 _ rfl (W.heap.size) 0 rfl _ (A) (0, 0) _ 16 (heap_alloc_new _ _) Try.underlying23 rfl (by kernel_rfl) (by have := HS.out; omega) (A) (HE.out) ?_) | ((with_reducible refine at_load 23 ?_); refine wpList_load_part rfl 23 _ rfl (W.heap.size) 0 rfl _ (A) (0, 0) _ 16 (hg1) Try.underlying23 rfl (by kernel_rfl) (by have := HS.out; omega) (A) (HE.out) ?_) | ((with_reducible refine at_load 23 ?_); refine wpList_load_part rfl 23 _ rfl (W.heap.size) 0 rfl _ (A) (0, 0) _ 16 (hg2) Try.underlying23 rfl (by kernel_rfl) (by have := HS.out; omega) (A) (HE.out) ?_) | ((with_reducible refine at_load 23 ?_); refine wpList_load_part rfl 23 _ rfl (W.heap.size) 0 rfl _ (A) (0, 0) _ 16 (hg3) Try.underlying23 rfl (by kernel_rfl) (by have := HS.out; omega) (A) (HE.out) ?_) | (go_at_call 14; (with_reducible refine (c1 _).mono ?_); rintro e w1 ⟨rfl, hb1⟩; have hg1 := kept hb1 (heap_alloc_new _ _)) | (go_at_call 14; (with_reducible refine (c2 _).mono ?_); rintro e w2 ⟨rfl, hb2⟩; have hg2 := kept hb2 hg1) | (go_at_call 14; (with_reducible refine (c3 _).mono ?_); rintro e w3 ⟨rfl, hb3⟩; have hg3 := kept hb3 hg2) | (go_at_call 14; (with_reducible refine (c4 _).mono ?_); rintro e w4 ⟨rfl, hb4⟩) | (go_at_call 16; (with_reducible refine (known10 _).mono ?_); rintro e w5 ⟨rfl, hb5⟩))
        go_ret
        exact ⟨rfl, below_then (below_then (below_then (below_then (below_then (below_new _ _) hb1) hb2) hb3) hb4) hb5⟩
end Go.Proofs.Ytodbbcagpfjieaa
