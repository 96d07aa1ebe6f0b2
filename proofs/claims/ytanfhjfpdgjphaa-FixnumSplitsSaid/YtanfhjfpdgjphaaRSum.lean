/- The document's sum of a slice of integers; two slices compared. Condition: the numbers fit their kinds; not too many. -/
import Derived.Test.YtanfhjfpdgjphaaSumI
namespace Go.Proofs.Ytanfhjfpdgjphaa
set_option linter.unusedVariables false
set_option linter.unusedSimpArgs false
open Go.RowKit

def xs (Z : Nat → Int) : Nat → Bool × Array Value
  | 0 => (oS 0, oV 0)
  | k + 1 => (psS (xs Z k).1 (xs Z k).2 (oS (Z k)) (oV (Z k)), psD (xs Z k).1 (xs Z k).2 (oS (Z k)) (oV (Z k)))
theorem xs_all {Z : Nat → Int} (hZ : ∀ i, F64 (Z i)) : ∀ k, k ≤ 2000 → IsD (xs Z k).2 ∧ sv (xs Z k).1 (xs Z k).2 = sumZ Z k ∧ lv (xs Z k).2 12 ≤ k * 9223372036854775808 + 9223372036854775808
  | 0, _ => by
    have h0 : F64 0 := by unfold F64; omega
    exact ⟨oV_D 0, (o_val h0).1, by have := (o_val h0).2; simp only [xs]; omega⟩
  | k + 1, hk => by
    obtain ⟨h1, h2, h3⟩ := xs_all hZ k (by omega)
    obtain ⟨h4, h5⟩ := o_val (hZ k)
    have h6 := ps_val (s := (xs Z k).1) (t := oS (Z k)) h1 (oV_D (Z k)) (by have := P16_12; omega)
    refine ⟨ps_D h1 (oV_D _), ?_, ?_⟩
    · show sv (psS (xs Z k).1 (xs Z k).2 (oS (Z k)) (oV (Z k))) (psD (xs Z k).1 (xs Z k).2 (oS (Z k)) (oV (Z k))) = sumZ Z k + Z k
      rw [h6.1, h2, h4]
    · show lv (psD (xs Z k).1 (xs Z k).2 (oS (Z k)) (oV (Z k))) 12 ≤ _
      have := h6.2
      omega
def xn (Z : Nat → Int) (k : Nat) : Array Value := nm (xs Z k).1 (xs Z k).2

set_option maxRecDepth 100000 in
set_option maxHeartbeats 2000000 in
theorem rlist_any (a : Option Addr) (n cap : Nat) (Z : Nat → Int) (w : World) (hZ : ∀ i, F64 (Z i)) (hA : Ints w a n Z) (hn : n ≤ 2000) :
    Calls Try.prog 41 #[.slice a n cap] w fun e w' => e = .returned (.agg (xn Z n)) ∧ Below w.heap.size w w' := by
  have HA := Lib.hid hA
  have HZ := Lib.hid hZ
  have hX : ∀ k, k ≤ 2000 → (xn Z k).size = 13 ∧ (xn Z k).all (·.oneCell') = true := fun k hk => ⟨nm_size (xs_all hZ k hk).1.size, nm_all (xs_all hZ k hk).1⟩
  have HX := Lib.hid hX
  have hc : ∀ k, k ≤ 2000 → ∀ w, Calls Try.prog 38 #[.agg (xn Z k), .agg (nm (oS (Z k)) (oV (Z k)))] w fun e w' => e = .returned (.agg (xn Z (k + 1))) ∧ Below w.heap.size w w' :=
    fun k hk w => add_any _ _ _ _ w (xs_all hZ k hk).1 (oV_D (Z k))
  have HC := Lib.hid hc
  have c0 := fun w => of_any' 0 w (by unfold F64; omega)
  have HZs := Lib.hid (show (nm false z12).size = 13 from nm_size z12_D.size)
  clear hA hZ hX hc
  rw [show nm (oS 0) (oV 0) = xn Z 0 from rfl] at c0
  generalize hZ0 : nm false z12 = Z0 at *
  have HZ0 := Lib.hid hZ0
  clear hZ0
  go_enter Try.func41, Try.ntmps41
  go_wp2_with (first | ((with_reducible refine at_alloc 47 ?_); refine wpList_alloc_named rfl 47 rfl Z0 (by rw [← HZ0.out]; kernel_rfl) ?_) | (go_at_call 35; (with_reducible refine (c0 _).mono ?_); rintro e w1 ⟨rfl, hb1⟩) | ((with_reducible refine at_store 47 ?_); refine wpList_store_new rfl 47 _ _ rfl (xn Z 0) _ _ _ rfl (by simp) rfl (by rw [(HX.out 0 (by omega)).1]; kernel_rfl) (by rw [(HX.out 0 (by omega)).1]; exact HZs.out) (HX.out 0 (by omega)).2 ?_))
  obtain ⟨gx, hgx⟩ : ∃ gx, gx = w1.heap.size := ⟨_, rfl⟩
  have hb1' := below_then (below_new w (.cells Z0 47)) hb1
  have hs1 := hb1'.size
  have hs1' : w.heap.size < w1.heap.size := by have := hb1.size; simp at this; omega
  have hr0 := Ytanfhjfpdgjphaa.kept hb1 (heap_alloc_new w (.cells Z0 47))
  obtain ⟨w2, hw2⟩ : ∃ w2, w2 = w1.alloc (.cells (xn Z 0) 47) := ⟨_, rfl⟩
  have hx2 : w2.heap[gx]? = some (.cells (xn Z 0) 47 (0, 0)) := by rw [hw2, hgx]; exact heap_alloc_new _ _
  have hr2 : w2.heap[w.heap.size]? = some (.cells Z0 47 (0, 0)) := by rw [hw2]; exact Ytanfhjfpdgjphaa.kept (below_new _ _) hr0
  have hb2 : Below w.heap.size w w2 := by rw [hw2]; exact below_alloc hb1' _
  rw [← hw2, ← hgx]
  have hgxw : w.heap.size < gx := by omega
  clear hw2 hb1 hb1' hs1 hs1' hr0 hgx
  go_loopg [4] n (fun gh i wr => ∃ k : Nat, k ≤ n ∧ gh = n - k ∧ i = .int .i64 k ∧ wr.heap[gx]? = some (.cells (xn Z k) 47 (0, 0)) ∧ wr.heap[w.heap.size]? = some (.cells Z0 47 (0, 0)) ∧ Below w.heap.size w wr)
  case atStart => exact ⟨0, by omega, by omega, rfl, hx2, hr2, hb2⟩
  case round =>
    clear hx2 hr2 hb2
    obtain ⟨k, hk, rfl, rfl, hgX, hgZ, hb⟩ := hrel
    obtain ⟨xs1, xs2⟩ := HX.out k (by omega)
    have HSX := Lib.hid xs1
    have HEX := Lib.hid (extract_all xs1)
    have HAX := Lib.hid xs2
    clear xs1 xs2
    by_cases hlt : k < n
    · obtain ⟨g, off, A, t, fr, rfl, hgA, hz⟩ := (HA.out.kept hb) k hlt
      obtain ⟨ys1, ys2⟩ := HX.out (k + 1) (by omega)
      have HSY := Lib.hid ys1
      have HAY := Lib.hid ys2
      clear ys1 ys2
      have co := fun w => of_any' (Z k) w (HZ.out k)
      have cp := HC.out k (by omega)
      have hz64 := HZ.out k
      unfold F64 at hz64
      have hki : (k : Int) < n := by omega
      generalize nm (oS (Z k)) (oV (Z k)) = Y at *
      generalize hX2 : xn Z (k + 1) = X2 at *
      have HX2 := Lib.hid hX2
      clear hX2
      generalize xn Z k = X at *
      generalize Z k = z at *
      go_wp2
      refine wp_region_tail 7 (by kernel_rfl) (by kernel_rfl) (by kernel_rfl) (by kernel_rfl) rfl rfl (by kernel_rfl) (by kernel_rfl) ?_
      simp only [List.take, List.getD, List.getElem?_cons_succ, List.getElem?_cons_zero, Option.getD]
      repeat (first | ((with_reducible apply q_skip); (case hw => rfl); (try simp only [Act.put, List.setIfInBounds_toArray, List.set_cons_zero, List.set_cons_succ])) | ((with_reducible refine at_qload 47 ?_); refine q_load_part (by rfl) 47 _ rfl (gx) (0) rfl _ (X) _ 13 (hgX) Try.underlying47 rfl (by kernel_rfl) (by rw [HSX.out]; omega) (X) (HEX.out) ?_; try simp only [Act.put, List.setIfInBounds_toArray, List.set_cons_zero, List.set_cons_succ]) | ((with_reducible refine at_qcall 35 ?_); refine q_call_below _ 35 _ (by rfl) (co) (fun wq hbq => by go_simp) ?_; try simp only [Act.put, List.setIfInBounds_toArray, List.set_cons_zero, List.set_cons_succ]) | ((with_reducible refine at_qcall 38 ?_); refine q_call_below _ 38 _ (by rfl) (cp) (fun wq hbq => by go_simp) ?_; try simp only [Act.put, List.setIfInBounds_toArray, List.set_cons_zero, List.set_cons_succ]) | ((with_reducible apply q_val); (case hw => rfl); (case hv => intro wq hbq; have hcq := cellF (Ytanfhjfpdgjphaa.kept hbq hgA); go_simp; try rfl); (try simp only [Act.put, List.setIfInBounds_toArray, List.set_cons_zero, List.set_cons_succ])))
      refine q_nil ?_
      intro w4 hb4
      refine op_store_over 47 _ _ rfl gx X2 rfl rfl 47 X (Ytanfhjfpdgjphaa.kept hb4 hgX) (by rw [HSY.out]; kernel_rfl) (by rw [HSY.out]; exact HSX.out) HAY.out ?_
      intro w5 hg5 hb5
      have hgZ5 : w5.heap[w.heap.size]? = some (.cells Z0 47 (0, 0)) := ((hb5 gx (Nat.le_refl _)).block _ hgxw).trans (Ytanfhjfpdgjphaa.kept hb4 hgZ)
      go_wp2
      go_roundg (n - (k + 1))
      case measure => omega
      case rel => exact ⟨k + 1, by omega, rfl, by go_num, by rw [HX2.out]; exact hg5, hgZ5, (below_then hb hb4).trans (hb5 _ (by omega))⟩
    · obtain rfl : k = n := by omega
      generalize hXX : xn Z k = X at *
      have HXX := Lib.hid hXX
      clear hXX
      go_wp2_with (first | ((with_reducible refine at_load 47 ?_); refine wpList_load_part rfl 47 _ rfl (gx) (0) rfl _ (X) _ _ 13 (hgX) Try.underlying47 rfl (by kernel_rfl) (by rw [HSX.out]; omega) (X) (HEX.out) ?_) | ((with_reducible refine at_store 47 ?_); refine wpList_store_over rfl 47 _ _ rfl (w.heap.size) (X) rfl rfl _ _ (hgZ) (by rw [HSX.out]; kernel_rfl) (by rw [HSX.out]; exact HZs.out) (HAX.out) ?_; intro w5 hg5 hs5 ho5 hb5))
      exact bodyPost_ret (results_cell_any rfl _ _ _ _ _ _ rfl hg5 Try.underlying47 rfl (by rw [HSX.out]; kernel_rfl)) rfl ⟨by rw [HXX.out], hb.trans (hb5 _ (Nat.le_refl _))⟩

set_option maxHeartbeats 1000000 in
theorem rsum_any (a : Option Addr) (n cap : Nat) (Z : Nat → Int) (w : World) (hZ : ∀ i, F64 (Z i)) (hA : Ints w a n Z) (hn : n ≤ 2000) :
    Calls Try.prog 27 #[.slice a n cap] w fun e w' => e = .returned (.tuple #[.int .i64 (fitN (sumZ Z n)), .int .i64 (fitE (sumZ Z n))]) ∧ Below w.heap.size w w' := by
  obtain ⟨h1, h2, _⟩ := xs_all hZ n hn
  have c1 := rlist_any a n cap Z w hZ hA hn
  have c2 := fun w => told_any (xs Z n).1 (xs Z n).2 w h1
  rw [h2] at c2
  rw [show nm (xs Z n).1 (xs Z n).2 = xn Z n from rfl] at c2
  clear h1 h2 hZ hA
  generalize xn Z n = X at *
  generalize fitN (sumZ Z n) = m at *
  generalize fitE (sumZ Z n) = e at *
  go_enter Try.func27, Try.ntmps27
  go_wp2_with (first | (go_at_call 41; (with_reducible refine (c1).mono ?_); rintro e w1 ⟨rfl, hb1⟩) | (go_at_call 34; (with_reducible refine (c2 _).mono ?_); rintro e w2 ⟨rfl, hb2⟩))
  go_ret2
  exact ⟨rfl, below_then hb1 hb2⟩

set_option maxHeartbeats 1000000 in
theorem rsame_any (a b : Option Addr) (n ca cb : Nat) (Z : Nat → Int) (w : World) (hZ : ∀ i, F64 (Z i)) (hA : Ints w a n Z) (hB : Ints w b n Z) (hn : n ≤ 2000) :
    Calls Try.prog 28 #[.slice a n ca, .slice b n cb] w fun e w' => e = .returned (.bool true) ∧ Below w.heap.size w w' := by
  have HA := Lib.hid hA
  have HB := Lib.hid hB
  have HZ := Lib.hid hZ
  clear hA hB hZ
  go_enter Try.func28, Try.ntmps28
  go_wp2
  go_loopg [5] n (fun gh i wr => ∃ k : Nat, k ≤ n ∧ gh = n - k ∧ i = .int .i64 k ∧ Below w.heap.size w wr)
  case atStart => exact ⟨0, by omega, by omega, rfl, Below.refl _ _⟩
  case round =>
    obtain ⟨k, hk, rfl, rfl, hb⟩ := hrel
    by_cases hlt : k < n
    · obtain ⟨g, off, A, t, fr, rfl, hgA, hz⟩ := (HA.out.kept hb) k hlt
      obtain ⟨g2, off2, A2, t2, fr2, rfl, hgB, hz2⟩ := (HB.out.kept hb) k hlt
      have hki : (k : Int) < n := by omega
      generalize Z k = z at *
      go_wp2
      refine wp_region_below (by kernel_rfl) (by kernel_rfl) ?_
      repeat (first | ((with_reducible apply q_skip); (case hw => rfl); (try simp only [Act.put, List.setIfInBounds_toArray, List.set_cons_zero, List.set_cons_succ])) | ((with_reducible apply q_val); (case hw => rfl); (case hv => intro wq hbq; have hcq := cellF (Ytanfhjfpdgjphaa.kept hbq hgA); have hcr := cellF (Ytanfhjfpdgjphaa.kept hbq hgB); go_simp; try rfl); (try simp only [Act.put, List.setIfInBounds_toArray, List.set_cons_zero, List.set_cons_succ])))
      refine q_nil ?_
      intro w4 hb4
      go_wp2
      go_roundg (n - (k + 1))
      case measure => omega
      case rel => exact ⟨k + 1, by omega, rfl, by go_num, below_then hb hb4⟩
    · obtain rfl : k = n := by omega
      go_wp2
      go_ret
      exact ⟨rfl, hb⟩
end Go.Proofs.Ytanfhjfpdgjphaa
