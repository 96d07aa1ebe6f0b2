/- Whether a stake may be, and its worst case, as the document says. Condition: the numbers fit their kinds. -/
import Derived.Test.YtnpjclodcgejgaaMayK
namespace Go.Proofs.Ytnpjclodcgejgaa
set_option linter.unusedVariables false
set_option linter.unusedSimpArgs false
open Go.RowKit

set_option maxRecDepth 100000 in
set_option maxHeartbeats 1000000 in
theorem rmay_k (A : Array Value) (O : Nat → Array Value) (ad : Option Addr) (n c : Nat) (w : World) (hA : IsStk A) (hOo : ∀ i, IsOrd (O i)) (hO : Ords w ad n O) (h28 : A[28]? = some (.slice ad n c)) (hn : n ≤ 9223372036854775807) :
    Calls Try.prog 27 #[.agg A] w fun e w' => e = .returned (.bool (okK A O n)) ∧ Below w.heap.size w w' := by
  obtain ⟨aq, fq⟩ := hA.q.i64
  obtain ⟨ab, fb⟩ := hA.b.i64
  obtain ⟨ap, fp⟩ := hA.p.i64
  have HK := Lib.hid (okK_no (O := O) (n := n) hA)
  have hspec := Lib.hid (stk_spec hA)
  have HA := Lib.hid hA
  have HL := Lib.hid hOo
  have HO := Lib.hid hO
  have hsz := Lib.hid hA.size
  have HSA := Lib.hid hA.all
  clear hA hOo hO
  generalize okK A O n = ok at *
  generalize N A 25 = q at *
  generalize N A 26 = b at *
  generalize N A 27 = p at *
  have HMI := Lib.hid (show ipB (A.extract 0 25) p = (mayB (A.extract 0 25) && prB (N (A.extract 0 25) 2) p) from rfl)
  have cm := fun w => rmay_any (A.extract 0 25) w hspec.out
  have ci := fun w => risprice_any (A.extract 0 25) p w hspec.out fp
  generalize ipB (A.extract 0 25) p = ti at *
  generalize mayB (A.extract 0 25) = tm at *
  cases tm
  · have HX := Lib.hid (show ok = false by rw [HK.out, HMI.out]; simp)
    go_enter Try.func27, Try.ntmps27
    go_wp2_with (first | ((with_reducible refine at_load 28 ?_); refine wpList_load_part rfl 28 _ rfl (w.heap.size) (0) rfl _ (A) _ _ 25 (heap_alloc_new _ _) Try.underlying28 rfl (by kernel_rfl) (by rw [hsz.out]; omega) (A.extract 0 25) (rfl) ?_) | ((with_reducible refine at_load 28 ?_); refine wpList_load_part rfl 28 _ rfl (w.heap.size) (0) rfl _ (A) _ _ 25 (hg1) Try.underlying28 rfl (by kernel_rfl) (by rw [hsz.out]; omega) (A.extract 0 25) (rfl) ?_) | (go_at_call 47; (with_reducible refine (cm _).mono ?_); rintro e w1 ⟨rfl, hb1⟩; have hg1 := kept hb1 (heap_alloc_new _ _); have hc1 := (cells_of hg1).1) | (go_at_call 48; (with_reducible refine (ci _).mono ?_); rintro e w2 ⟨rfl, hb2⟩; have hg2 := kept hb2 hg1; have hc2 := (cells_of hg2).1))
    go_ret
    exact ⟨ret_beq HX.out.symm, below_then (below_new _ _) hb1⟩
  · by_cases q1 : 10000000 < q
    · have HX := Lib.hid (show ok = false by rw [HK.out, show inB q (-10000000) 10000000 = false from inB_no.2 (by omega)]; simp)
      go_enter Try.func27, Try.ntmps27
      go_wp2_with (first | ((with_reducible refine at_load 28 ?_); refine wpList_load_part rfl 28 _ rfl (w.heap.size) (0) rfl _ (A) _ _ 25 (heap_alloc_new _ _) Try.underlying28 rfl (by kernel_rfl) (by rw [hsz.out]; omega) (A.extract 0 25) (rfl) ?_) | ((with_reducible refine at_load 28 ?_); refine wpList_load_part rfl 28 _ rfl (w.heap.size) (0) rfl _ (A) _ _ 25 (hg1) Try.underlying28 rfl (by kernel_rfl) (by rw [hsz.out]; omega) (A.extract 0 25) (rfl) ?_) | (go_at_call 47; (with_reducible refine (cm _).mono ?_); rintro e w1 ⟨rfl, hb1⟩; have hg1 := kept hb1 (heap_alloc_new _ _); have hc1 := (cells_of hg1).1) | (go_at_call 48; (with_reducible refine (ci _).mono ?_); rintro e w2 ⟨rfl, hb2⟩; have hg2 := kept hb2 hg1; have hc2 := (cells_of hg2).1))
      go_ret
      exact ⟨ret_beq HX.out.symm, below_then (below_new _ _) hb1⟩
    · have d1 : decide (10000000 < q) = false := decide_eq_false q1
      by_cases q2 : q < -10000000
      · have HX := Lib.hid (show ok = false by rw [HK.out, show inB q (-10000000) 10000000 = false from inB_no.2 (by omega)]; simp)
        go_enter Try.func27, Try.ntmps27
        go_wp2_with (first | ((with_reducible refine at_load 28 ?_); refine wpList_load_part rfl 28 _ rfl (w.heap.size) (0) rfl _ (A) _ _ 25 (heap_alloc_new _ _) Try.underlying28 rfl (by kernel_rfl) (by rw [hsz.out]; omega) (A.extract 0 25) (rfl) ?_) | ((with_reducible refine at_load 28 ?_); refine wpList_load_part rfl 28 _ rfl (w.heap.size) (0) rfl _ (A) _ _ 25 (hg1) Try.underlying28 rfl (by kernel_rfl) (by rw [hsz.out]; omega) (A.extract 0 25) (rfl) ?_) | (go_at_call 47; (with_reducible refine (cm _).mono ?_); rintro e w1 ⟨rfl, hb1⟩; have hg1 := kept hb1 (heap_alloc_new _ _); have hc1 := (cells_of hg1).1) | (go_at_call 48; (with_reducible refine (ci _).mono ?_); rintro e w2 ⟨rfl, hb2⟩; have hg2 := kept hb2 hg1; have hc2 := (cells_of hg2).1))
        go_ret
        exact ⟨ret_beq HX.out.symm, below_then (below_new _ _) hb1⟩
      · have d2 : decide (q < -10000000) = false := decide_eq_false q2
        by_cases b1 : 1000000000000000 < b
        · have HX := Lib.hid (show ok = false by rw [HK.out, show inB b (-1000000000000000) 1000000000000000 = false from inB_no.2 (by omega)]; simp)
          go_enter Try.func27, Try.ntmps27
          go_wp2_with (first | ((with_reducible refine at_load 28 ?_); refine wpList_load_part rfl 28 _ rfl (w.heap.size) (0) rfl _ (A) _ _ 25 (heap_alloc_new _ _) Try.underlying28 rfl (by kernel_rfl) (by rw [hsz.out]; omega) (A.extract 0 25) (rfl) ?_) | ((with_reducible refine at_load 28 ?_); refine wpList_load_part rfl 28 _ rfl (w.heap.size) (0) rfl _ (A) _ _ 25 (hg1) Try.underlying28 rfl (by kernel_rfl) (by rw [hsz.out]; omega) (A.extract 0 25) (rfl) ?_) | (go_at_call 47; (with_reducible refine (cm _).mono ?_); rintro e w1 ⟨rfl, hb1⟩; have hg1 := kept hb1 (heap_alloc_new _ _); have hc1 := (cells_of hg1).1) | (go_at_call 48; (with_reducible refine (ci _).mono ?_); rintro e w2 ⟨rfl, hb2⟩; have hg2 := kept hb2 hg1; have hc2 := (cells_of hg2).1))
          go_ret
          exact ⟨ret_beq HX.out.symm, below_then (below_new _ _) hb1⟩
        · have d3 : decide (1000000000000000 < b) = false := decide_eq_false b1
          by_cases b2 : b < -1000000000000000
          · have HX := Lib.hid (show ok = false by rw [HK.out, show inB b (-1000000000000000) 1000000000000000 = false from inB_no.2 (by omega)]; simp)
            go_enter Try.func27, Try.ntmps27
            go_wp2_with (first | ((with_reducible refine at_load 28 ?_); refine wpList_load_part rfl 28 _ rfl (w.heap.size) (0) rfl _ (A) _ _ 25 (heap_alloc_new _ _) Try.underlying28 rfl (by kernel_rfl) (by rw [hsz.out]; omega) (A.extract 0 25) (rfl) ?_) | ((with_reducible refine at_load 28 ?_); refine wpList_load_part rfl 28 _ rfl (w.heap.size) (0) rfl _ (A) _ _ 25 (hg1) Try.underlying28 rfl (by kernel_rfl) (by rw [hsz.out]; omega) (A.extract 0 25) (rfl) ?_) | (go_at_call 47; (with_reducible refine (cm _).mono ?_); rintro e w1 ⟨rfl, hb1⟩; have hg1 := kept hb1 (heap_alloc_new _ _); have hc1 := (cells_of hg1).1) | (go_at_call 48; (with_reducible refine (ci _).mono ?_); rintro e w2 ⟨rfl, hb2⟩; have hg2 := kept hb2 hg1; have hc2 := (cells_of hg2).1))
            go_ret
            exact ⟨ret_beq HX.out.symm, below_then (below_new _ _) hb1⟩
          · have d4 : decide (b < -1000000000000000) = false := decide_eq_false b2
            cases ti
            · have HX := Lib.hid (show ok = false by rw [HK.out]; simp)
              go_enter Try.func27, Try.ntmps27
              go_wp2_with (first | ((with_reducible refine at_load 28 ?_); refine wpList_load_part rfl 28 _ rfl (w.heap.size) (0) rfl _ (A) _ _ 25 (heap_alloc_new _ _) Try.underlying28 rfl (by kernel_rfl) (by rw [hsz.out]; omega) (A.extract 0 25) (rfl) ?_) | ((with_reducible refine at_load 28 ?_); refine wpList_load_part rfl 28 _ rfl (w.heap.size) (0) rfl _ (A) _ _ 25 (hg1) Try.underlying28 rfl (by kernel_rfl) (by rw [hsz.out]; omega) (A.extract 0 25) (rfl) ?_) | (go_at_call 47; (with_reducible refine (cm _).mono ?_); rintro e w1 ⟨rfl, hb1⟩; have hg1 := kept hb1 (heap_alloc_new _ _); have hc1 := (cells_of hg1).1) | (go_at_call 48; (with_reducible refine (ci _).mono ?_); rintro e w2 ⟨rfl, hb2⟩; have hg2 := kept hb2 hg1; have hc2 := (cells_of hg2).1))
              go_ret
              exact ⟨ret_beq HX.out.symm, below_then (below_then (below_new _ _) hb1) hb2⟩
            · by_cases h250 : 250 < n
              · have HX := Lib.hid (show ok = false by rw [HK.out]; simp; omega)
                go_enter Try.func27, Try.ntmps27
                go_wp2_with (first | ((with_reducible refine at_load 28 ?_); refine wpList_load_part rfl 28 _ rfl (w.heap.size) (0) rfl _ (A) _ _ 25 (heap_alloc_new _ _) Try.underlying28 rfl (by kernel_rfl) (by rw [hsz.out]; omega) (A.extract 0 25) (rfl) ?_) | ((with_reducible refine at_load 28 ?_); refine wpList_load_part rfl 28 _ rfl (w.heap.size) (0) rfl _ (A) _ _ 25 (hg1) Try.underlying28 rfl (by kernel_rfl) (by rw [hsz.out]; omega) (A.extract 0 25) (rfl) ?_) | (go_at_call 47; (with_reducible refine (cm _).mono ?_); rintro e w1 ⟨rfl, hb1⟩; have hg1 := kept hb1 (heap_alloc_new _ _); have hc1 := (cells_of hg1).1) | (go_at_call 48; (with_reducible refine (ci _).mono ?_); rintro e w2 ⟨rfl, hb2⟩; have hg2 := kept hb2 hg1; have hc2 := (cells_of hg2).1))
                go_ret
                exact ⟨ret_beq HX.out.symm, below_then (below_then (below_new _ _) hb1) hb2⟩
              · have HX := Lib.hid (show ok = okOs O n by rw [HK.out, decide_eq_true (show n ≤ 250 by omega), inB_iff.2 (show -10000000 ≤ q ∧ q ≤ 10000000 by omega), inB_iff.2 (show -1000000000000000 ≤ b ∧ b ≤ 1000000000000000 by omega)]; simp)
                go_enter Try.func27, Try.ntmps27
                go_wp2_with (first | ((with_reducible refine at_load 28 ?_); refine wpList_load_part rfl 28 _ rfl (w.heap.size) (0) rfl _ (A) _ _ 25 (heap_alloc_new _ _) Try.underlying28 rfl (by kernel_rfl) (by rw [hsz.out]; omega) (A.extract 0 25) (rfl) ?_) | ((with_reducible refine at_load 28 ?_); refine wpList_load_part rfl 28 _ rfl (w.heap.size) (0) rfl _ (A) _ _ 25 (hg1) Try.underlying28 rfl (by kernel_rfl) (by rw [hsz.out]; omega) (A.extract 0 25) (rfl) ?_) | (go_at_call 47; (with_reducible refine (cm _).mono ?_); rintro e w1 ⟨rfl, hb1⟩; have hg1 := kept hb1 (heap_alloc_new _ _); have hc1 := (cells_of hg1).1) | (go_at_call 48; (with_reducible refine (ci _).mono ?_); rintro e w2 ⟨rfl, hb2⟩; have hg2 := kept hb2 hg1; have hc2 := (cells_of hg2).1))
                go_loopg [3] n (fun gh i wr => ∃ k : Nat, k ≤ n ∧ gh = n - k ∧ i = .int .i64 k ∧ okOs O k = true ∧ wr.heap[w.heap.size]? = some (.cells A 33 (0, 0)) ∧ Below w.heap.size w wr)
                case atStart => exact ⟨0, by omega, by omega, rfl, rfl, hg2, below_then (below_then (below_new _ _) hb1) hb2⟩
                case round =>
                  clear hg1 hc1 hb1 hg2 hc2 hb2
                  obtain ⟨k, hk, rfl, rfl, hok, hg, hb⟩ := hrel
                  have HOK := Lib.hid hok
                  clear hok
                  have cA := (cells_of hg).1
                  by_cases hlt : k < n
                  · obtain ⟨g, off, B, t, fr, rfl, hgB, hszB, hexB⟩ := (HO.out.kept hb) k hlt
                    have hord := HL.out k
                    have HE := Lib.hid hexB
                    have HZ := Lib.hid hszB
                    have HOx := Lib.hid (show okOs O (k + 1) = (okOs O k && okO (O k)) from rfl)
                    clear hexB hszB
                    have hos := Lib.hid hord.size
                    have hoe := Lib.hid (extract_all hord.size)
                    have co := fun w => romay_any (O k) w hord
                    cases hoo : okO (O k)
                    · rw [hoo] at co
                      have HN := Lib.hid (show ok = false by
                        rw [HX.out, Bool.eq_false_iff]
                        intro h'
                        have := okOs_mono h' (show k + 1 ≤ n by omega)
                        rw [HOx.out, hoo] at this
                        simp at this)
                      clear hoo
                      go_wp2_with (first | ((with_reducible refine at_load 41 ?_); refine wpList_load_part rfl 41 _ rfl (g) ((off + k * 5)) rfl _ (B) _ _ 5 (hgB) Try.underlying41 rfl (by kernel_rfl) (by have := HZ.out; omega) (O k) (HE.out) ?_) | (go_at_call 40; (with_reducible refine (co _).mono ?_); rintro e w3 ⟨rfl, hb3⟩))
                      go_ret
                      exact ⟨ret_beq HN.out.symm, below_then hb hb3⟩
                    · rw [hoo] at co
                      have HN := Lib.hid (show okOs O (k + 1) = true by rw [HOx.out, HOK.out, hoo]; rfl)
                      clear hoo
                      go_wp2_with (first | ((with_reducible refine at_load 41 ?_); refine wpList_load_part rfl 41 _ rfl (g) ((off + k * 5)) rfl _ (B) _ _ 5 (hgB) Try.underlying41 rfl (by kernel_rfl) (by have := HZ.out; omega) (O k) (HE.out) ?_) | (go_at_call 40; (with_reducible refine (co _).mono ?_); rintro e w3 ⟨rfl, hb3⟩))
                      go_roundg (n - (k + 1))
                      case measure => omega
                      case rel => exact ⟨k + 1, by omega, rfl, by go_num, HN.out, kept hb3 hg, below_then hb hb3⟩
                  · obtain rfl : k = n := by omega
                    go_wp2
                    go_ret
                    exact ⟨ret_beq (by rw [HX.out, HOK.out]), hb⟩
end Go.Proofs.Ytnpjclodcgejgaa
