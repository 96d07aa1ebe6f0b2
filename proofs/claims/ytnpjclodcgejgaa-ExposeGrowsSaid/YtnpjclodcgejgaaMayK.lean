/- Whether a stake may be: expose's own and the document's. Condition: the numbers fit their kinds. -/
import Derived.Test.YtnpjclodcgejgaaWorst
namespace Go.Proofs.Ytnpjclodcgejgaa
set_option linter.unusedVariables false
set_option linter.unusedSimpArgs false
open Go.RowKit

def z5 : Array Value := #[.int .u64 0, .int .u32 0, .bool false, .int .i64 0, .int .i64 0]
theorem okK_no {A : Array Value} {O : Nat → Array Value} {n : Nat} (h : IsStk A) :
    okK A O n = (ipB (A.extract 0 25) (N A 27) && inB (N A 25) (-10000000) 10000000 && inB (N A 26) (-1000000000000000) 1000000000000000 && decide (n ≤ 250) && okOs O n) := by
  unfold okK ipB
  rw [N_extract (by have := h.size; omega) (by omega), Nat.zero_add]
  cases mayB (A.extract 0 25) <;> cases prB (N A 2) (N A 27) <;> simp
theorem stk_spec {A : Array Value} (h : IsStk A) : IsSpec (A.extract 0 25) := by
  have h1 := h.leg.spec
  rw [Array.extract_extract] at h1
  exact h1
set_option maxRecDepth 100000 in
set_option maxHeartbeats 1000000 in
theorem may_k (A : Array Value) (O : Nat → Array Value) (ad : Option Addr) (n c : Nat) (w : World) (hA : IsStk A) (hOo : ∀ i, IsOrd (O i)) (hO : Ords w ad n O) (h28 : A[28]? = some (.slice ad n c)) (hn : n ≤ 9223372036854775807) :
    Calls Try.prog 24 #[.agg A] w fun e w' => e = .returned (.bool (okK A O n)) ∧ Below w.heap.size w w' := by
  obtain ⟨aq, fq⟩ := hA.q.i64
  obtain ⟨ab, fb⟩ := hA.b.i64
  obtain ⟨ap, fp⟩ := hA.p.i64
  have HK := Lib.hid (okK_no (O := O) (n := n) hA)
  have hspec := Lib.hid (stk_spec hA)
  have HA := Lib.hid hA
  have HL := Lib.hid hOo
  have HO := Lib.hid hO
  have hsz := Lib.hid hA.size
  have HSA := Lib.hid hA.all
  clear hA hOo hO
  generalize okK A O n = ok at *
  generalize N A 25 = q at *
  generalize N A 26 = b at *
  generalize N A 27 = p at *
  have cb := fun w => within_any b 1000000000000000 w fb (by omega) (by omega)
  have cq := fun w => within_any q 10000000 w fq (by omega) (by omega)
  have ci := fun w => isprice_any (A.extract 0 25) p w hspec.out fp
  generalize inB b (-1000000000000000) 1000000000000000 = tb at *
  generalize inB q (-10000000) 10000000 = tq at *
  generalize ipB (A.extract 0 25) p = ti at *
  cases tb
  · have HX := Lib.hid (show ok = false by rw [HK.out]; simp)
    go_enter Try.func24, Try.ntmps24
    go_wp2_with (first | ((with_reducible refine at_load 28 ?_); refine wpList_load_part rfl 28 _ rfl (w.heap.size) (0) rfl _ (A) _ _ 25 (heap_alloc_new _ _) Try.underlying28 rfl (by kernel_rfl) (by rw [hsz.out]; omega) (A.extract 0 25) (rfl) ?_) | (go_at_call 34; (with_reducible refine (cb _).mono ?_); rintro e w' ⟨rfl, rfl⟩) | (go_at_call 34; (with_reducible refine (cq _).mono ?_); rintro e w' ⟨rfl, rfl⟩) | (go_at_call 43; (with_reducible refine (ci _).mono ?_); rintro e w1 ⟨rfl, hb1⟩; have hg1 := kept hb1 (heap_alloc_new _ _); have hc1 := (cells_of hg1).1))
    go_ret
    exact ⟨ret_beq HX.out.symm, below_new _ _⟩
  · cases tq
    · have HX := Lib.hid (show ok = false by rw [HK.out]; simp)
      go_enter Try.func24, Try.ntmps24
      go_wp2_with (first | ((with_reducible refine at_load 28 ?_); refine wpList_load_part rfl 28 _ rfl (w.heap.size) (0) rfl _ (A) _ _ 25 (heap_alloc_new _ _) Try.underlying28 rfl (by kernel_rfl) (by rw [hsz.out]; omega) (A.extract 0 25) (rfl) ?_) | (go_at_call 34; (with_reducible refine (cb _).mono ?_); rintro e w' ⟨rfl, rfl⟩) | (go_at_call 34; (with_reducible refine (cq _).mono ?_); rintro e w' ⟨rfl, rfl⟩) | (go_at_call 43; (with_reducible refine (ci _).mono ?_); rintro e w1 ⟨rfl, hb1⟩; have hg1 := kept hb1 (heap_alloc_new _ _); have hc1 := (cells_of hg1).1))
      go_ret
      exact ⟨ret_beq HX.out.symm, below_new _ _⟩
    · cases ti
      · have HX := Lib.hid (show ok = false by rw [HK.out]; simp)
        go_enter Try.func24, Try.ntmps24
        go_wp2_with (first | ((with_reducible refine at_load 28 ?_); refine wpList_load_part rfl 28 _ rfl (w.heap.size) (0) rfl _ (A) _ _ 25 (heap_alloc_new _ _) Try.underlying28 rfl (by kernel_rfl) (by rw [hsz.out]; omega) (A.extract 0 25) (rfl) ?_) | (go_at_call 34; (with_reducible refine (cb _).mono ?_); rintro e w' ⟨rfl, rfl⟩) | (go_at_call 34; (with_reducible refine (cq _).mono ?_); rintro e w' ⟨rfl, rfl⟩) | (go_at_call 43; (with_reducible refine (ci _).mono ?_); rintro e w1 ⟨rfl, hb1⟩; have hg1 := kept hb1 (heap_alloc_new _ _); have hc1 := (cells_of hg1).1))
        go_ret
        exact ⟨ret_beq HX.out.symm, below_then (below_new _ _) hb1⟩
      · by_cases h250 : 250 < n
        · have HX := Lib.hid (show ok = false by rw [HK.out]; simp; omega)
          go_enter Try.func24, Try.ntmps24
          go_wp2_with (first | ((with_reducible refine at_load 28 ?_); refine wpList_load_part rfl 28 _ rfl (w.heap.size) (0) rfl _ (A) _ _ 25 (heap_alloc_new _ _) Try.underlying28 rfl (by kernel_rfl) (by rw [hsz.out]; omega) (A.extract 0 25) (rfl) ?_) | (go_at_call 34; (with_reducible refine (cb _).mono ?_); rintro e w' ⟨rfl, rfl⟩) | (go_at_call 34; (with_reducible refine (cq _).mono ?_); rintro e w' ⟨rfl, rfl⟩) | (go_at_call 43; (with_reducible refine (ci _).mono ?_); rintro e w1 ⟨rfl, hb1⟩; have hg1 := kept hb1 (heap_alloc_new _ _); have hc1 := (cells_of hg1).1))
          go_ret
          exact ⟨ret_beq HX.out.symm, below_then (below_new _ _) hb1⟩
        · have HX := Lib.hid (show ok = okOs O n by rw [HK.out, decide_eq_true (show n ≤ 250 by omega)]; simp)
          go_enter Try.func24, Try.ntmps24
          go_wp2_with (first | ((with_reducible refine at_load 28 ?_); refine wpList_load_part rfl 28 _ rfl (w.heap.size) (0) rfl _ (A) _ _ 25 (heap_alloc_new _ _) Try.underlying28 rfl (by kernel_rfl) (by rw [hsz.out]; omega) (A.extract 0 25) (rfl) ?_) | (go_at_call 34; (with_reducible refine (cb _).mono ?_); rintro e w' ⟨rfl, rfl⟩) | (go_at_call 34; (with_reducible refine (cq _).mono ?_); rintro e w' ⟨rfl, rfl⟩) | (go_at_call 43; (with_reducible refine (ci _).mono ?_); rintro e w1 ⟨rfl, hb1⟩; have hg1 := kept hb1 (heap_alloc_new _ _); have hc1 := (cells_of hg1).1))
          go_loopg [34] n (fun gh i wr => ∃ k : Nat, k ≤ n ∧ gh = n - k ∧ i = .int .i64 k ∧ okOs O k = true ∧ Below w.heap.size w wr)
          case atStart => exact ⟨0, by omega, by omega, rfl, rfl, below_then (below_new _ _) hb1⟩
          case round =>
            clear hg1 hc1 hb1
            obtain ⟨k, hk, rfl, rfl, hok, hb⟩ := hrel
            have HOK := Lib.hid hok
            clear hok
            by_cases hlt : k < n
            · obtain ⟨g, off, B, t, fr, rfl, hgB, hszB, hexB⟩ := (HO.out.kept hb) k hlt
              have hord := HL.out k
              have HE := Lib.hid hexB
              have HZ := Lib.hid hszB
              have HOx := Lib.hid (show okOs O (k + 1) = (okOs O k && okO (O k)) from rfl)
              clear hexB hszB
              have hos := Lib.hid hord.size
              have hoe := Lib.hid (extract_all hord.size)
              have co := fun w => omay_any (O k) w hord
              cases hoo : okO (O k)
              · rw [hoo] at co
                have HN := Lib.hid (show ok = false by
                  rw [HX.out, Bool.eq_false_iff]
                  intro h'
                  have := okOs_mono h' (show k + 1 ≤ n by omega)
                  rw [HOx.out, hoo] at this
                  simp at this)
                clear hoo
                go_wp2_with (first | ((with_reducible refine at_load 41 ?_); refine wpList_load_part rfl 41 _ rfl (g) ((off + k * 5)) rfl _ (B) _ _ 5 (hgB) Try.underlying41 rfl (by kernel_rfl) (by have := HZ.out; omega) (O k) (HE.out) ?_) | ((with_reducible refine at_load 41 ?_); refine wpList_load_part rfl 41 _ rfl (wr.heap.size) (0) rfl _ (O k) _ _ 5 (heap_alloc_new _ _) Try.underlying41 rfl (by kernel_rfl) (by rw [hos.out]; omega) (O k) (hoe.out) ?_) | ((with_reducible refine at_alloc 41 ?_); refine wpList_alloc_named rfl 41 rfl (z5) (by kernel_rfl) ?_) | ((with_reducible refine at_store 41 ?_); refine wpList_store_new rfl 41 _ _ rfl (O k) _ _ _ rfl (by simp) rfl (by rw [hord.size]; kernel_rfl) (by rw [hord.size]; rfl) (hord.all) ?_) | (go_at_call 44; (with_reducible refine (co _).mono ?_); rintro e w2 ⟨rfl, hb2⟩))
                go_ret
                exact ⟨ret_beq HN.out.symm, below_then (below_alloc hb _) hb2⟩
              · rw [hoo] at co
                have HN := Lib.hid (show okOs O (k + 1) = true by rw [HOx.out, HOK.out, hoo]; rfl)
                clear hoo
                go_wp2_with (first | ((with_reducible refine at_load 41 ?_); refine wpList_load_part rfl 41 _ rfl (g) ((off + k * 5)) rfl _ (B) _ _ 5 (hgB) Try.underlying41 rfl (by kernel_rfl) (by have := HZ.out; omega) (O k) (HE.out) ?_) | ((with_reducible refine at_load 41 ?_); refine wpList_load_part rfl 41 _ rfl (wr.heap.size) (0) rfl _ (O k) _ _ 5 (heap_alloc_new _ _) Try.underlying41 rfl (by kernel_rfl) (by rw [hos.out]; omega) (O k) (hoe.out) ?_) | ((with_reducible refine at_alloc 41 ?_); refine wpList_alloc_named rfl 41 rfl (z5) (by kernel_rfl) ?_) | ((with_reducible refine at_store 41 ?_); refine wpList_store_new rfl 41 _ _ rfl (O k) _ _ _ rfl (by simp) rfl (by rw [hord.size]; kernel_rfl) (by rw [hord.size]; rfl) (hord.all) ?_) | (go_at_call 44; (with_reducible refine (co _).mono ?_); rintro e w2 ⟨rfl, hb2⟩))
                go_roundg (n - (k + 1))
                case measure => omega
                case rel => exact ⟨k + 1, by omega, rfl, by go_num, HN.out, below_then (below_alloc hb _) hb2⟩
            · obtain rfl : k = n := by omega
              go_wp2
              go_ret
              exact ⟨ret_beq (by rw [HX.out, HOK.out]), hb⟩
end Go.Proofs.Ytnpjclodcgejgaa
