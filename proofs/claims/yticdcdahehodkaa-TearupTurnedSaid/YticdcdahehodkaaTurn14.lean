/- TearupTurned, walked: it returns true. Condition: the numbers fit their kinds. -/
import Derived.Test.YticdcdahehodkaaKnF
import Derived.BigQuiet
namespace Go.Proofs.Yticdcdahehodkaa
set_option linter.unusedVariables false
set_option linter.unusedSimpArgs false
open Go.RowKit

def ngI (Q : Nat → Int) : Nat → Int := fun i => -(Q i)
theorem absI_neg (q : Int) : absI (-q) = absI q := by unfold absI; split <;> split <;> omega
theorem oppI_neg {q : Int} (hq : q ≠ 0) (n : Int) : oppI (-q) (-n) = oppI q n := by
  unfold oppI
  rw [absI_neg]
  by_cases h0 : n = 0
  · subst h0
    rw [show absI 0 = 0 from rfl]; split <;> split <;> rfl
  · have e : (decide (0 < -n) = decide (0 < -q)) ↔ (decide (0 < n) = decide (0 < q)) := by
      rw [decide_eq_decide, decide_eq_decide]; omega
    by_cases h : decide (0 < n) = decide (0 < q)
    · rw [if_pos h, if_pos (e.2 h)]
    · rw [if_neg h, if_neg (fun h2 => h (e.1 h2))]
theorem tW_neg {q : Int} (hq : q ≠ 0) (n : Nat) (Q : Nat → Int) : tW (-q) n (ngI Q) = tW q n Q := by
  funext i; unfold tW ngI; rw [oppI_neg hq]
theorem inB_neg (x m : Int) : inB (-x) (-m) m = inB x (-m) m := by unfold inB; rw [decide_eq_decide]; omega
theorem hmay_neg (A Q : Nat → Int) : ∀ k, hmay A (ngI Q) k = hmay A Q k
  | 0 => rfl
  | k + 1 => by
    show (hmay A (ngI Q) k && (_ && inB (-(Q k)) (-10000000) 10000000)) = (hmay A Q k && (_ && inB (Q k) (-10000000) 10000000))
    rw [hmay_neg A Q k, inB_neg]
theorem tE_neg (q : Int) (n : Nat) (A Q : Nat → Int) : tE (-q) n A (ngI Q) = tE q n A Q := by
  unfold tE
  rw [inB_neg, hmay_neg, absI_neg]
  by_cases h0 : q = 0
  · subst h0; rfl
  · rw [tW_neg h0]
    have e : (-q = 0) = (q = 0) := by apply propext; omega
    simp only [e]
theorem tP_neg {q : Int} (hq : q ≠ 0) (n : Nat) (Q : Nat → Int) : tP (-q) n (ngI Q) = tP q n Q := by
  unfold tP; rw [tW_neg hq, absI_neg]
theorem prt_top {W : Nat → Int} {n : Nat} {T : Int} {i : Nat} (h : T ≤ 9223372036854775806) (hi : i < n) : splP W n T i ≤ 9223372036854775807 := by
  unfold splP
  by_cases hS : 0 < sumN (wts W) n
  · have := prt_le (W := wts W) (T := T.toNat) hS hi; omega
  · have h1 : flo (wts W) n T.toNat i = 0 := by unfold flo; rw [show sumN (wts W) n = 0 by omega, Nat.div_zero]
    have h2 := b01_le (decide (rk (rkey (wts W) n T.toNat) n i < lef (wts W) n T.toNat))
    unfold prt; omega
theorem tR_is {A : Nat → Int} {P : Nat → Nat} {n : Nat} (hb : ∀ i, 0 ≤ A i ∧ A i ≤ 4294967295) (hP : ∀ i, i < n → P i ≤ 9223372036854775807) : ∀ k, k ≤ n → ∀ j, ∃ x y : Int, tR A P k j = hA x y ∧ (0 ≤ x ∧ x ≤ 4294967295) ∧ F64 y
  | 0, _, j => ⟨0, 0, rfl, by omega, by unfold F64; omega⟩
  | k + 1, hk, j => by
    unfold tR
    split
    · unfold snoc
      split
      · exact ⟨A k, (P k : Nat), rfl, hb k, by have := hP k (by omega); unfold F64; omega⟩
      · exact tR_is hb hP k (by omega) j
    · exact tR_is hb hP k (by omega) j
theorem tE_q0 {q : Int} {n : Nat} {A Q : Nat → Int} (h : tE q n A Q = 0) : q ≠ 0 := fun h0 => by
  unfold tE at h
  split at h
  · omega
  · rw [if_pos (.inl h0)] at h; omega

set_option maxRecDepth 100000 in
set_option maxHeartbeats 4000000 in
theorem turn14_walk (a : Option Addr) (n cap : Nat) (A Q : Nat → Int) (q : Int) (W : World) (hq : F64 q) (hb : ∀ i, (0 ≤ A i ∧ A i ≤ 4294967295) ∧ F64 (Q i)) (hA : Holds W a n A Q) (hz0 : ∀ i, n ≤ i → Q i = 0) :
    Calls Try.prog 5 #[.int .i64 q, .slice a n cap] W fun e W' => e = .returned (.bool true) ∧ Below W.heap.size W W' := by
  by_cases hlong : 200 < n
  · clear hA hb hq
    go_enter Try.func5, Try.ntmps5
    go_wp2_with (first | (go_at_call 11; (with_reducible refine (known14 _).mono ?_); rintro e w5 ⟨rfl, hb5⟩))
    go_ret
    exact ⟨rfl, hb5⟩
  by_cases hq1 : q < -10000000
  · clear hA hb hq
    go_enter Try.func5, Try.ntmps5
    go_wp2_with (first | (go_at_call 11; (with_reducible refine (known14 _).mono ?_); rintro e w5 ⟨rfl, hb5⟩))
    go_ret
    exact ⟨rfl, hb5⟩
  by_cases hq2 : 10000000 < q
  · clear hA hb hq
    go_enter Try.func5, Try.ntmps5
    go_wp2_with (first | (go_at_call 11; (with_reducible refine (known14 _).mono ?_); rintro e w5 ⟨rfl, hb5⟩))
    go_ret
    exact ⟨rfl, hb5⟩
  have HA := Lib.hid hA
  have HB := Lib.hid hb
  have hln : ¬ (200 : Int) < n := by omega
  have HZ0 := Lib.hid hz0
  have HQ := Lib.hid hq
  clear hA hb hq hz0
  go_enter Try.func5, Try.ntmps5
  go_wp2_with fail
  go_loopg [5, 26] n (fun gh v5 vi wr => ∃ k : Nat, k ≤ n ∧ gh = n - k ∧ vi = .int .i64 k ∧ (∀ i, i < k → -10000000 ≤ Q i ∧ Q i ≤ 10000000) ∧ wr.ownsRow W.heap.size 32 2 v5 k (flat (fun i => hA (A i) (ngI Q i)) k) ∧ Below W.heap.size W wr)
  case atStart => exact ⟨0, by omega, by omega, rfl, fun i h => by omega, World.ownsRow_nil _ _ _ _, Below.refl _ _⟩
  case round =>
    obtain ⟨k, hk, rfl, rfl, hbd, hown, hbw⟩ := hrel
    have HBD := Lib.hid hbd
    have HO := Lib.hid hown
    have HX := Lib.hid hbw
    clear hbd hown hbw
    by_cases hlt : k < n
    · obtain ⟨g, off, B, t, fr, rfl, hg, hs, he, c0, c1⟩ := (HA.out.kept HX.out).at hlt
      have hki : (k : Int) < n := by omega
      have HFL := Lib.hid (show flat (fun i => hA (A i) (ngI Q i)) (k + 1) = flat (fun i => hA (A i) (ngI Q i)) k ++ (hA (A k) (-(Q k))).toList from rfl)
      have hQ64 := (HB.out k).2
      have hgW : g < W.heap.size := by
        obtain ⟨g', off', B', t', fr', e', hg', _⟩ := HA.out k hlt
        injection e' with e'; injection e' with e1 e2
        rw [e1]; exact (Array.getElem?_eq_some_iff.1 hg').1
      obtain ⟨y, hy⟩ : ∃ y, y = Q k := ⟨_, rfl⟩
      have HY := Lib.hid hy
      rw [← hy] at HFL hQ64 c1
      unfold F64 at hQ64
      generalize A k = x at *
      clear hy he
      by_cases h1 : y < -10000000
      · go_wp2_with (first | (go_at_call 11; (with_reducible refine (known14 _).mono ?_); rintro e w5 ⟨rfl, hb5⟩))
        go_ret
        exact ⟨rfl, below_then HX.out hb5⟩
      by_cases h2 : 10000000 < y
      · go_wp2_with (first | (go_at_call 11; (with_reducible refine (known14 _).mono ?_); rintro e w5 ⟨rfl, hb5⟩))
        go_ret
        exact ⟨rfl, below_then HX.out hb5⟩
      have wy : IntKind.i64.wrap (-y) = -y := by rw [IntKind.wrap_i64]; omega
      have c0' := c0
      have c1' := c1
      go_wp2_with fail
      refine wp_region_held (S := fun wt => wt.heap[g]? = some (.cells B t fr)) (by kernel_rfl) ?_
      change wpAnyH _ _ _ _ _ _ _ _ (World.drew _)
      obtain ⟨wq, hwq⟩ : ∃ wq, wq = wr.drew := ⟨_, rfl⟩
      have HS : wq.heap[g]? = some (.cells B t fr) := by rw [hwq]; exact hg
      have hbq : Below W.heap.size W wq := by rw [hwq]; exact Below.drew HX.out
      have hoq : wq.ownsRow W.heap.size 32 2 u5 k (flat (fun i => hA (A i) (ngI Q i)) k) := by rw [hwq]; exact HO.out
      rw [← hwq]
      have b0 : B[off + k * 2]? = some (.int .u32 x) := by rw [cellF hg] at c0; exact c0
      have b1 : B[off + k * 2 + 1]? = some (.int .i64 y) := by rw [cellF hg] at c1; exact c1
      have hW0 : W.heap[g]? = some (.cells B t fr) := by rw [← HX.out.block g hgW]; exact hg
      clear hwq c0 c1 c0' c1' hg
      (refine wpAnyH_take (i := 0) (v := ?_) rfl (by kernel_rfl) (by kernel_rfl) (by kernel_rfl) (fun _ _ _ h => h) (Or.inl ⟨by rfl, ?ht_0⟩) HS ?_); (case ht_0 => (intro wt hS; go_simp; try with_reducible rfl)); (try simp only [Act.put, List.getElem_toArray, List.getElem_cons_zero, List.getElem_cons_succ, List.setIfInBounds_toArray, List.set_cons_zero, List.set_cons_succ]); (refine wpAnyH_take (i := 1) (v := ?_) rfl (by kernel_rfl) (by kernel_rfl) (by kernel_rfl) (fun _ _ _ h => h) (Or.inl ⟨by rfl, ?ht_1⟩) HS ?_); (case ht_1 => (intro wt hS; go_simp; try with_reducible rfl)); (try simp only [Act.put, List.getElem_toArray, List.getElem_cons_zero, List.getElem_cons_succ, List.setIfInBounds_toArray, List.set_cons_zero, List.set_cons_succ]); (refine wpAnyH_take (i := 2) (v := ?_) rfl (by kernel_rfl) (by kernel_rfl) (by kernel_rfl) (fun _ _ _ h => h) (Or.inl ⟨by rfl, ?ht_2⟩) HS ?_); (case ht_2 => (intro wt hS; go_simp; try with_reducible rfl)); (try simp only [Act.put, List.getElem_toArray, List.getElem_cons_zero, List.getElem_cons_succ, List.setIfInBounds_toArray, List.set_cons_zero, List.set_cons_succ]); (refine wpAnyH_take (i := 3) (v := ?_) rfl (by kernel_rfl) (by kernel_rfl) (by kernel_rfl) (fun _ _ _ h => h) (Or.inl ⟨by rfl, ?ht_3⟩) HS ?_); (case ht_3 => (intro wt hS; go_simp; try with_reducible rfl)); (try simp only [Act.put, List.getElem_toArray, List.getElem_cons_zero, List.getElem_cons_succ, List.setIfInBounds_toArray, List.set_cons_zero, List.set_cons_succ]); (refine wpAnyH_take (i := 4) (v := ?_) rfl (by kernel_rfl) (by kernel_rfl) (by kernel_rfl) (fun _ _ _ h => h) (Or.inl ⟨by rfl, ?ht_4⟩) HS ?_); (case ht_4 => (intro wt hS; go_simp; try with_reducible rfl)); (try simp only [Act.put, List.getElem_toArray, List.getElem_cons_zero, List.getElem_cons_succ, List.setIfInBounds_toArray, List.set_cons_zero, List.set_cons_succ])
      (refine wpAnyH_take (i := 5) (v := ?_) rfl (by kernel_rfl) (by kernel_rfl) (by kernel_rfl) (fun _ _ _ h => h) (Or.inl ⟨by rfl, ?ht_5⟩) HS ?_); (case ht_5 => (intro wt hS; have cg := cellF hS; go_simp; try with_reducible rfl)); (try simp only [Act.put, List.getElem_toArray, List.getElem_cons_zero, List.getElem_cons_succ, List.setIfInBounds_toArray, List.set_cons_zero, List.set_cons_succ])
      (refine wpAnyH_take (i := 6) (v := ?_) rfl (by kernel_rfl) (by kernel_rfl) (by kernel_rfl) (fun _ _ _ h => h) (Or.inl ⟨by rfl, ?ht_6⟩) HS ?_); (case ht_6 => (intro wt hS; go_simp; try with_reducible rfl)); (try simp only [Act.put, List.getElem_toArray, List.getElem_cons_zero, List.getElem_cons_succ, List.setIfInBounds_toArray, List.set_cons_zero, List.set_cons_succ]); (refine wpAnyH_take (i := 7) (v := ?_) rfl (by kernel_rfl) (by kernel_rfl) (by kernel_rfl) (fun _ _ _ h => h) (Or.inl ⟨by rfl, ?ht_7⟩) HS ?_); (case ht_7 => (intro wt hS; go_simp; try with_reducible rfl)); (try simp only [Act.put, List.getElem_toArray, List.getElem_cons_zero, List.getElem_cons_succ, List.setIfInBounds_toArray, List.set_cons_zero, List.set_cons_succ]); (refine wpAnyH_take (i := 8) (v := ?_) rfl (by kernel_rfl) (by kernel_rfl) (by kernel_rfl) (fun _ _ _ h => h) (Or.inl ⟨by rfl, ?ht_8⟩) HS ?_); (case ht_8 => (intro wt hS; go_simp; try with_reducible rfl)); (try simp only [Act.put, List.getElem_toArray, List.getElem_cons_zero, List.getElem_cons_succ, List.setIfInBounds_toArray, List.set_cons_zero, List.set_cons_succ]); (refine wpAnyH_take (i := 9) (v := ?_) rfl (by kernel_rfl) (by kernel_rfl) (by kernel_rfl) (fun _ _ _ h => h) (Or.inl ⟨by rfl, ?ht_9⟩) HS ?_); (case ht_9 => (intro wt hS; go_simp; try with_reducible rfl)); (try simp only [Act.put, List.getElem_toArray, List.getElem_cons_zero, List.getElem_cons_succ, List.setIfInBounds_toArray, List.set_cons_zero, List.set_cons_succ])
      (refine wpAnyH_take (i := 10) (v := ?_) rfl (by kernel_rfl) (by kernel_rfl) (by kernel_rfl) (fun _ _ _ h => h) (Or.inl ⟨by rfl, ?ht_10⟩) HS ?_); (case ht_10 => (intro wt hS; have cg := cellF hS; go_simp; try with_reducible rfl)); (try simp only [Act.put, List.getElem_toArray, List.getElem_cons_zero, List.getElem_cons_succ, List.setIfInBounds_toArray, List.set_cons_zero, List.set_cons_succ])
      (refine wpAnyH_take (i := 11) (v := ?_) rfl (by kernel_rfl) (by kernel_rfl) (by kernel_rfl) (fun _ _ _ h => h) (Or.inl ⟨by rfl, ?ht_11⟩) HS ?_); (case ht_11 => (intro wt hS; go_simp; try with_reducible rfl)); (try simp only [Act.put, List.getElem_toArray, List.getElem_cons_zero, List.getElem_cons_succ, List.setIfInBounds_toArray, List.set_cons_zero, List.set_cons_succ])
      (refine wpAnyH_take (i := 12) (v := .agg (hA x (-y))) rfl (by kernel_rfl) (by kernel_rfl) (by kernel_rfl) (fun _ _ _ h => h) (Or.inl ⟨by rfl, ?ht_12⟩) HS ?_); (case ht_12 => (intro wt hS; exact exec_build 32 _ rfl (hA x (-y)) (by kernel_rfl))); (try simp only [Act.put, List.getElem_toArray, List.getElem_cons_zero, List.getElem_cons_succ, List.setIfInBounds_toArray, List.set_cons_zero, List.set_cons_succ])
      (refine wpAnyH_ready (rs := [13]) (by kernel_rfl) (by decide) ?_); (refine AllReadyH.cons rfl (fun K' hK => ?_) AllReadyH.nil); (rw [if_pos (by rfl)])
      obtain ⟨ip, zp, ip1, ip2, ip3, ip4, ip5⟩ := info_hold
      refine op_slice1 22 32 _ rfl (hA x (-y)) 2 rfl (hA_size _ _) ip zp Try.underlying22 ip1 ip2 ip3 ip5 (by omega) (by omega) (hK.out _ _ (heap_up HS) (fun HS => ?_))
      clear hK K' ip1 ip2 ip3 ip4 ip5
      (try simp only [Act.put, List.getElem_toArray, List.getElem_cons_zero, List.getElem_cons_succ, List.setIfInBounds_toArray, List.set_cons_zero, List.set_cons_succ])
      (refine wpAnyH_ready (rs := [14]) (by kernel_rfl) (by decide) ?_); (refine AllReadyH.cons rfl (fun K' hK => ?_) AllReadyH.nil); (rw [if_pos (by rfl)])
      refine op_append_row1 _ _ rfl Try.underlying22 info_hold (by omega) (hA_size x (-y)) (hA_all _ _) W.heap.size u5 k _ rfl (hoq.alloc _) wq.heap.size rfl (heap_alloc_new _ _) (by omega) (by have := hbq.size; simp; omega) (fun v8 w8 ho8 hg8 hq8 => ?_)
      have hb8 : Below W.heap.size W w8 := (below_alloc hbq _).grown hg8 (by have := hbq.size; simp; omega) hq8
      refine hK.out _ _ (by rw [hb8.block g hgW]; exact hW0) (fun HS => ?_)
      clear hK K' hgW hW0
      (try simp only [Act.put, List.getElem_toArray, List.getElem_cons_zero, List.getElem_cons_succ, List.setIfInBounds_toArray, List.set_cons_zero, List.set_cons_succ])
      (refine wpAnyH_take (i := 15) (v := ?_) rfl (by kernel_rfl) (by kernel_rfl) (by kernel_rfl) (fun _ _ _ h => h) (Or.inl ⟨by rfl, ?ht_15⟩) HS ?_); (case ht_15 => (intro wt hS; go_simp; try with_reducible rfl)); (try simp only [Act.put, List.getElem_toArray, List.getElem_cons_zero, List.getElem_cons_succ, List.setIfInBounds_toArray, List.set_cons_zero, List.set_cons_succ])
      refine wpAnyH_done (by kernel_rfl) ?_ _
      have HO8 := Lib.hid ho8
      have HB8 := Lib.hid hb8
      clear ho8 hb8 hg8 hq8 hoq hbq HS b0 b1
      go_wp2_with fail
      go_roundg (n - (k + 1))
      case measure => omega
      case rel =>
        refine ⟨k + 1, by omega, rfl, by go_num, fun i hi => ?_, by rw [HFL.out]; exact HO8.out, HB8.out⟩
        by_cases e : i = k
        · subst e; rw [← HY.out]; omega
        · exact HBD.out i (by omega)
    · obtain rfl : k = n := by omega
      obtain ⟨a5, c5, rfl, hR5, _⟩ := own_rows (fun i => hA_size _ _) HO.out
      have hI5 : Holds wr a5 k A (ngI Q) := rowsT_holds hR5 (fun i _ => rfl)
      have hbn : ∀ i, (0 ≤ A i ∧ A i ≤ 4294967295) ∧ F64 (ngI Q i) := fun i => ⟨(HB.out i).1, by
        unfold ngI F64
        by_cases hi : i < k
        · have := HBD.out i hi; omega
        · rw [HZ0.out i (by omega)]; omega⟩
      have c1 := tparts_any a k cap A Q q wr HB.out (HA.out.kept HX.out) HQ.out
      have c2 := fun (w2 : World) (hb : Below wr.heap.size wr w2) => tparts_any a5 k c5 A (ngI Q) (-q) w2 hbn (hI5.kept hb) (by unfold F64; omega)
      unfold TearC at c1 c2
      rw [tE_neg] at c2
      have wq : IntKind.i64.wrap (-q) = -q := by rw [IntKind.wrap_i64]; omega
      obtain ⟨te, hte⟩ : ∃ te, te = tE q k A Q := ⟨_, rfl⟩
      have HTE := Lib.hid hte
      rw [← hte] at c1 c2
      clear hI5 hR5 hbn hte
      go_wp2_with fail
      refine c1.mono ?_
      rintro e w1 ⟨⟨v, rfl, hv⟩, hb1⟩
      have c2 := c2 w1 hb1
      have HV1 := Lib.hid hv
      have HB1 := Lib.hid hb1
      clear c1 hv hb1
      go_wp2_with fail
      refine c2.mono ?_
      rintro e w2 ⟨⟨v2, rfl, hv2⟩, hb2⟩
      have HB2 := Lib.hid hb2
      clear c2 hb2
      by_cases hez : te = 0
      · have hE0 : tE q k A Q = 0 := by rw [← HTE.out]; exact hez
        have hq0 := tE_q0 hE0
        have h1 := HV1.out.1 hE0
        have h2 := hv2.1 (by rw [tE_neg]; exact hE0)
        rw [tP_neg hq0] at h2
        have hPb : ∀ i, i < k → tP q k Q i ≤ 9223372036854775807 := fun i hi => prt_top (by
          have hq9 : -10000000 ≤ q ∧ q ≤ 10000000 := by omega
          have := absI_bd hq9
          omega) hi
        have his := fun j => tR_is (A := A) (P := tP q k Q) (fun i => (HB.out i).1) hPb k (Nat.le_refl _) j
        have hmk : tm (tP q k Q) k ≤ k := cnt_le _ _
        obtain ⟨m, hm⟩ : ∃ m, m = tm (tP q k Q) k := ⟨_, rfl⟩
        obtain ⟨L, hL⟩ : ∃ L, L = tR A (tP q k Q) k := ⟨_, rfl⟩
        have hLs : ∀ i, (L i).size = 2 := fun i => by rw [hL]; exact tR_size _ _ _ _
        rw [← hm, ← hL] at h1 h2
        rw [← hm] at hmk
        rw [← hL] at his
        obtain ⟨a1, d1, rfl, hr1, _⟩ := own_rows hLs h1
        obtain ⟨a2, d2, rfl, hr2, _⟩ := own_rows hLs h2
        have HR1 := Lib.hid (rowsT_kept hr1 HB2.out)
        have HR2 := Lib.hid hr2
        have HIS := Lib.hid his
        clear h1 h2 hr1 hr2 his hv2 HV1 hL hLs hPb hm hE0
        go_wp2_with fail
        go_loopg [85] m (fun gh vi wx => ∃ j : Nat, j ≤ m ∧ gh = m - j ∧ vi = .int .i64 j ∧ Below w2.heap.size w2 wx)
        case atStart => exact ⟨0, by omega, by omega, rfl, Below.refl _ _⟩
        case round =>
          obtain ⟨j, hj, rfl, rfl, hbx⟩ := hrel
          have HBX := Lib.hid hbx
          by_cases hlt2 : j < m
          · obtain ⟨g, off, B, fr, rfl, hg, hs, he⟩ := (rowsT_kept HR1.out hbx) j hlt2
            obtain ⟨g2, off2, B2, fr2, rfl, hg2, hs2, he2⟩ := (rowsT_kept HR2.out hbx) j hlt2
            obtain ⟨x, y, hxy, hx1, hy1⟩ := HIS.out j
            rw [hxy] at he he2
            have hne := neq_hold x y hx1 hy1
            have hjm : (j : Int) < m := by omega
            generalize hA x y = X at *
            clear hbx hxy
            go_wp2_with fail
            refine wp_region_below (by kernel_rfl) (by kernel_rfl) ?_
            repeat (first | ((with_reducible apply q_skip); (case hw => rfl); (try simp only [Act.put, List.setIfInBounds_toArray, List.set_cons_zero, List.set_cons_succ])) | ((with_reducible refine at_qload 32 ?_); refine q_load_fr (by rfl) 32 _ rfl (g) (off + j * 2) rfl _ (B) _ _ 2 (hg) Try.underlying32 rfl (by kernel_rfl) (hs) (X) (he) ?_; try simp only [Act.put, List.setIfInBounds_toArray, List.set_cons_zero, List.set_cons_succ]) | ((with_reducible refine at_qload 32 ?_); refine q_load_fr (by rfl) 32 _ rfl (g2) (off2 + j * 2) rfl _ (B2) _ _ 2 (hg2) Try.underlying32 rfl (by kernel_rfl) (hs2) (X) (he2) ?_; try simp only [Act.put, List.setIfInBounds_toArray, List.set_cons_zero, List.set_cons_succ]) | ((with_reducible apply q_val); (case hw => rfl); (case hv => intro wq hbq; go_simp; try rfl); (try simp only [Act.put, List.setIfInBounds_toArray, List.set_cons_zero, List.set_cons_succ])))
            refine q_nil ?_
            intro w4 hb4
            go_wp2_with fail
            go_roundg (m - (j + 1))
            case measure => omega
            case rel => exact ⟨j + 1, by omega, rfl, by go_num, below_then HBX.out hb4⟩
          · obtain rfl : j = m := by omega
            clear hbx
            go_wp2_with (first | (go_at_call 11; (with_reducible refine (known14 _).mono ?_); rintro e w5 ⟨rfl, hb5⟩))
            go_ret
            exact ⟨rfl, below_then HX.out (below_then HB1.out (below_then HB2.out (below_then HBX.out hb5)))⟩
      · obtain rfl := HV1.out.2 (by rw [← HTE.out]; exact hez)
        obtain rfl := hv2.2 (by rw [tE_neg, ← HTE.out]; exact hez)
        clear hv2 HV1 hez
        go_wp2_with fail
        go_loopg [85] 0 (fun gh vi wx => vi = .int .i64 0 ∧ wx = w2)
        case atStart => exact ⟨rfl, rfl⟩
        case round =>
          obtain ⟨rfl, rfl⟩ := hrel
          go_wp2_with (first | (go_at_call 11; (with_reducible refine (known14 _).mono ?_); rintro e w5 ⟨rfl, hb5⟩))
          go_ret
          exact ⟨rfl, below_then HX.out (below_then HB1.out (below_then HB2.out hb5))⟩
theorem turn14_w (q : Int) (a : Option Addr) (n cap : Nat) (A Q : Nat → Int) (W : World) (hq : F64 q) (hb : ∀ i, (0 ≤ A i ∧ A i ≤ 4294967295) ∧ F64 (Q i)) (hA : Holds W a n A Q) (_ : n ≤ cap) (_ : cap ≤ 9223372036854775807) (_ : a = none → n = 0 ∧ cap = 0) :
    Calls Try.prog 5 #[.int .i64 q, .slice a n cap] W fun e W' => e = .returned (.bool true) ∧ Below W.heap.size W W' :=
  turn14_walk a n cap A (fun i => if i < n then Q i else 0) q W hq (fun i => ⟨(hb i).1, by
    split
    · exact (hb i).2
    · unfold F64; omega⟩) (RowsC.congr hA (fun i hi => by simp only [hi, if_true])) (fun i hi => by rw [if_neg (by omega)])
end Go.Proofs.Yticdcdahehodkaa
