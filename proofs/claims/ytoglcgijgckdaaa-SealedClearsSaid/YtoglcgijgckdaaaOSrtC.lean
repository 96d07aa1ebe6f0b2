/- slices' symMergeCmpFunc at orders, where one side has one number alone. Condition: as at the insertion sort. -/
import Derived.Test.YtoglcgijgckdaaaOSrtB
namespace Go.Proofs.Ytoglcgijgckdaaa
set_option linter.unusedVariables false
set_option linter.unusedSimpArgs false
open Go.RowKit

theorem half_lt {i j : Nat} (h : i < j) : i ≤ (i + j) / 2 ∧ (i + j) / 2 < j := by omega
set_option maxRecDepth 100000 in
set_option maxHeartbeats 16000000 in
theorem symm_lo (L : Nat → Array Value) (blk n cap a b : Nat) (d : Nat → Nat) (K : Nat → Int) (cf : Nat → Nat → Int) (cb : Value) (w0 w : World) (hcf : ∀ x y, cf x y < 0 ↔ K x < K y) (hC : CmpAt L w0 blk n cf cb) (hR : RowJ L w0 w blk n d)
    (hab : a + 1 < b) (hb : b ≤ n) (hs : Srt K (a + 1) b d) (hl : Low a (a + 1) b d) :
    Calls Try.prog 21 #[.slice (some ⟨blk, 0, none⟩) n cap, .int .i64 a, .int .i64 ((a + 1 : Nat) : Int), .int .i64 b, fvS cb] w fun e w' => e = .returned (.tuple #[]) ∧ ∃ d', RowJ L w0 w' blk n d' ∧ PermOn a b d d' ∧ Srt K a b d' := by
  have hsz := hR.sz
  have H0 := Lib.hid hR
  have HC := Lib.hid hC
  have HS := Lib.hid hs
  have HL := Lib.hid hl
  have HCF := Lib.hid hcf
  clear hR hC hs hl hcf
  obtain ⟨m, hm⟩ : ∃ m, m = a + 1 := ⟨_, rfl⟩
  rw [← hm]
  have wm := wrapN (z := (m : Int) - (a : Int)) (n := 1) (by omega) (by omega)
  have HM := Lib.hid hm
  have hmb : m < b := by omega
  have ham : a < m := by omega
  clear hm hab
  unfold fvS
  go_enter Try.func21, Try.ntmps21
  go_wp2
  go_loopg [10, 11] (b - m) (fun gh vi vj wr => ∃ i j : Nat, vi = .int .i64 i ∧ vj = .int .i64 j ∧ m ≤ i ∧ i ≤ j ∧ j ≤ b ∧ gh = j - i ∧ (∀ k, m ≤ k → k < i → ltK K (d k) (d a)) ∧ (∀ k, j ≤ k → k < b → ltK K (d a) (d k)) ∧ RowJ L w0 wr blk n d)
  case atStart => exact ⟨m, b, rfl, rfl, Nat.le_refl _, by omega, Nat.le_refl _, rfl, fun k h1 h2 => by omega, fun k h1 h2 => by omega, H0.out⟩
  case round =>
    clear H0
    obtain ⟨i, j, rfl, rfl, hi, hij, hj, rfl, hll, hrr, hRi⟩ := hrel
    have HLL := Lib.hid hll
    have HRR := Lib.hid hrr
    have HRI := Lib.hid hRi
    clear hll hrr hRi
    by_cases hlt : i < j
    · obtain ⟨h, hh⟩ : ∃ h, h = (i + j) / 2 := ⟨_, rfl⟩
      have hh2 := half_lt hlt
      rw [← hh] at hh2
      have hz : ((i : Int) + (j : Int)) / 2 = (h : Int) := by omega
      clear hh
      obtain ⟨x, hx⟩ : ∃ x, x = d h := ⟨_, rfl⟩
      obtain ⟨y, hy⟩ : ∃ y, y = d a := ⟨_, rfl⟩
      have hhn : (h : Int) < (n : Int) := by omega
      have han : (a : Int) < (n : Int) := by omega
      obtain ⟨A5, hgA5, hXA5⟩ := HRI.out.row
      have HX := Lib.hid (show h * 5 + 5 ≤ A5.size ∧ A5.extract (h * 5) (h * 5 + 5) = L x from by rw [hx]; exact hXA5 h (by omega))
      have HY := Lib.hid (show a * 5 + 5 ≤ A5.size ∧ A5.extract (a * 5) (a * 5 + 5) = L y from by rw [hy]; exact hXA5 a (by omega))
      clear hXA5
      have HCQ := Lib.hid (HC.out.q HRI.out x y (by rw [hx]; exact HRI.out.lt _ (by omega)) (by rw [hy]; exact HRI.out.lt _ (by omega)))
      have hlo : d a < d h := HL.out a h (Nat.le_refl _) (by omega) (by rw [← HM.out]; omega) (by omega)
      have HXY := Lib.hid (show x = d h ∧ y = d a ∧ y < x from ⟨hx, hy, by rw [hx, hy]; exact hlo⟩)
      clear hx hy hlo
      by_cases hk : cf x y < 0
      · go_wp2
        refine wp_region_below (by kernel_rfl) (by kernel_rfl) ?_
        repeat (first | ((with_reducible apply q_skip); (case hw => rfl); (try simp only [Act.put, List.setIfInBounds_toArray, List.set_cons_zero, List.set_cons_succ])) | ((with_reducible refine at_qload 31 ?_); refine q_load_part (by rfl) 31 _ rfl (blk) (h * 5) rfl _ (A5) _ 5 (hgA5) Try.underlying31 rfl (by kernel_rfl) (HX.out.1) (L x) (HX.out.2) ?_; try simp only [Act.put, List.setIfInBounds_toArray, List.set_cons_zero, List.set_cons_succ]) | ((with_reducible refine at_qload 31 ?_); refine q_load_part (by rfl) 31 _ rfl (blk) (a * 5) rfl _ (A5) _ 5 (hgA5) Try.underlying31 rfl (by kernel_rfl) (HY.out.1) (L y) (HY.out.2) ?_; try simp only [Act.put, List.setIfInBounds_toArray, List.set_cons_zero, List.set_cons_succ]) | ((with_reducible refine at_qcallv ?_); refine q_call (.int .i64 (cf x y)) 14 #[.agg (L x), .agg (L y), cb] (by rfl) (fun wq hq => by go_simp) HCQ.out ?_; (try simp only [Act.put, List.setIfInBounds_toArray, List.set_cons_zero, List.set_cons_succ])) | ((with_reducible apply q_val); (case hw => rfl); (case hv => intro wq hbq; go_simp; try rfl); (try simp only [Act.put, List.setIfInBounds_toArray, List.set_cons_zero, List.set_cons_succ])))
        refine q_nil ?_
        intro w4 hb4
        have wh1 := wrapN (z := (h : Int) + 1) (n := h + 1) (by omega) (by omega)
        go_wp2
        go_roundg (j - (h + 1))
        case measure => omega
        case rel =>
          obtain ⟨x1, x2, x3⟩ := HXY.out
          refine ⟨h + 1, j, by go_num, rfl, by omega, by omega, hj, rfl, fun k h1 h2 => ?_, HRR.out, HRI.out.below hb4⟩
          have hk' : ltK K (d h) (d a) := by rw [← x1, ← x2]; exact .inl ((HCF.out _ _).1 hk)
          by_cases e : k = h
          · subst e; exact hk'
          · exact ltK_trans (HS.out k h (by rw [← HM.out]; omega) (by omega) (by omega)) hk'
      · go_wp2
        refine wp_region_below (by kernel_rfl) (by kernel_rfl) ?_
        repeat (first | ((with_reducible apply q_skip); (case hw => rfl); (try simp only [Act.put, List.setIfInBounds_toArray, List.set_cons_zero, List.set_cons_succ])) | ((with_reducible refine at_qload 31 ?_); refine q_load_part (by rfl) 31 _ rfl (blk) (h * 5) rfl _ (A5) _ 5 (hgA5) Try.underlying31 rfl (by kernel_rfl) (HX.out.1) (L x) (HX.out.2) ?_; try simp only [Act.put, List.setIfInBounds_toArray, List.set_cons_zero, List.set_cons_succ]) | ((with_reducible refine at_qload 31 ?_); refine q_load_part (by rfl) 31 _ rfl (blk) (a * 5) rfl _ (A5) _ 5 (hgA5) Try.underlying31 rfl (by kernel_rfl) (HY.out.1) (L y) (HY.out.2) ?_; try simp only [Act.put, List.setIfInBounds_toArray, List.set_cons_zero, List.set_cons_succ]) | ((with_reducible refine at_qcallv ?_); refine q_call (.int .i64 (cf x y)) 14 #[.agg (L x), .agg (L y), cb] (by rfl) (fun wq hq => by go_simp) HCQ.out ?_; (try simp only [Act.put, List.setIfInBounds_toArray, List.set_cons_zero, List.set_cons_succ])) | ((with_reducible apply q_val); (case hw => rfl); (case hv => intro wq hbq; go_simp; try rfl); (try simp only [Act.put, List.setIfInBounds_toArray, List.set_cons_zero, List.set_cons_succ])))
        refine q_nil ?_
        intro w4 hb4
        go_wp2
        go_roundg (h - i)
        case measure => omega
        case rel =>
          obtain ⟨x1, x2, x3⟩ := HXY.out
          refine ⟨i, h, rfl, rfl, hi, by omega, by omega, rfl, HLL.out, fun k h1 h2 => ?_, HRI.out.below hb4⟩
          have hk' : ltK K (d a) (d h) := by rw [← x1, ← x2]; exact ltK_no x3 (fun h => by have := (HCF.out _ _).2 h; omega)
          by_cases e : k = h
          · subst e; exact hk'
          · exact ltK_trans hk' (HS.out h k (by rw [← HM.out]; omega) (by omega) (by omega))
    · obtain rfl : i = j := by omega
      have END := Lib.hid (show PermOn a b d (rot a m i d) ∧ Srt K a b (rot a m i d) from by
        have hm := HM.out
        subst hm
        exact ⟨(rot_perm d (by omega) (by omega)).mono (Nat.le_refl _) hj, merge_lo HS.out hi hj HLL.out HRR.out⟩)
      clear HLL HRR HC HS HL HCF
      have wi := wrapN (z := (i : Int) - 1) (n := i - 1) (by omega) (by omega)
      go_wp2
      go_loopg [13] (i - 1 - a) (fun gh vk wr => ∃ k : Nat, vk = .int .i64 k ∧ a ≤ k ∧ k + 1 ≤ i ∧ gh = i - 1 - k ∧ RowJ L w0 wr blk n (rot a m (k + 1) d))
      case atStart => exact ⟨a, rfl, Nat.le_refl _, by omega, rfl, HRI.out.congr (by rw [HM.out]; exact (rot_right a (a + 1) d).symm)⟩
      case round =>
        clear HRI
        obtain ⟨k, rfl, h1, h2, rfl, hRk⟩ := hrel
        have HRK := Lib.hid hRk
        clear hRk
        by_cases hlt2 : k < i - 1
        · obtain ⟨q, hq⟩ : ∃ q, q = k + 1 := ⟨_, rfl⟩
          obtain ⟨dj, hdj⟩ : ∃ dj, dj = rot a m (k + 1) d := ⟨_, rfl⟩
          have HRD := Lib.hid (hdj ▸ HRK.out : RowJ L w0 wr blk n dj)
          have wk := wrapN (z := (k : Int) + 1) (n := q) (by omega) (by omega)
          have hkn : (k : Int) < (n : Int) := by omega
          have hqn : (q : Int) < (n : Int) := by omega
          have hki : (k : Int) < (i : Int) - 1 := by omega
          have HPQ := Lib.hid (show k < n ∧ q < n by omega)
          have HDJ := Lib.hid hdj
          have HQ := Lib.hid hq
          clear hdj hq HRK
          go_wp2
          obtain ⟨wy, hwy⟩ : ∃ wy, wy = wr := ⟨_, rfl⟩
          rw [← hwy] at HRD ⊢
          clear hwy
          refine wp_region_any (by kernel_rfl) ?_
          change wpAny _ _ _ _ _ _ _ (World.drew _)
          obtain ⟨wq, hwq⟩ : ∃ wq, wq = World.drew wy := ⟨_, rfl⟩
          have HRW := Lib.hid (show RowJ L w0 wq blk n dj from by rw [hwq]; exact HRD.out.drew)
          rw [← hwq]
          clear hwq
          obtain ⟨A, hgA, hXA⟩ := HRW.out.row
          have HP5 := Lib.hid (hXA k HPQ.out.1)
          have HQ5 := Lib.hid (hXA q HPQ.out.2)
          have HXA := Lib.hid hXA
          clear hXA
          (refine wpAny_take (i := 0) (v := ?_) rfl (by kernel_rfl) (by kernel_rfl) (by kernel_rfl) (fun _ _ _ h => h) (Or.inl ⟨by rfl, ?wt_0⟩) ?_); (case wt_0 => (intro wt; go_simp; try with_reducible rfl)); (try simp only [Act.put, List.getElem_toArray, List.getElem_cons_zero, List.getElem_cons_succ, List.setIfInBounds_toArray, List.set_cons_zero, List.set_cons_succ]); (refine wpAny_take (i := 1) (v := ?_) rfl (by kernel_rfl) (by kernel_rfl) (by kernel_rfl) (fun _ _ _ h => h) (Or.inl ⟨by rfl, ?wt_1⟩) ?_); (case wt_1 => (intro wt; go_simp; try with_reducible rfl)); (try simp only [Act.put, List.getElem_toArray, List.getElem_cons_zero, List.getElem_cons_succ, List.setIfInBounds_toArray, List.set_cons_zero, List.set_cons_succ]); (refine wpAny_take (i := 2) (v := ?_) rfl (by kernel_rfl) (by kernel_rfl) (by kernel_rfl) (fun _ _ _ h => h) (Or.inl ⟨by rfl, ?wt_2⟩) ?_); (case wt_2 => (intro wt; go_simp; try with_reducible rfl)); (try simp only [Act.put, List.getElem_toArray, List.getElem_cons_zero, List.getElem_cons_succ, List.setIfInBounds_toArray, List.set_cons_zero, List.set_cons_succ]); (refine wpAny_take (i := 3) (v := ?_) rfl (by kernel_rfl) (by kernel_rfl) (by kernel_rfl) (fun _ _ _ h => h) (Or.inl ⟨by rfl, ?wt_3⟩) ?_); (case wt_3 => (intro wt; go_simp; try with_reducible rfl)); (try simp only [Act.put, List.getElem_toArray, List.getElem_cons_zero, List.getElem_cons_succ, List.setIfInBounds_toArray, List.set_cons_zero, List.set_cons_succ]); (refine wpAny_take (i := 4) (v := ?_) rfl (by kernel_rfl) (by kernel_rfl) (by kernel_rfl) (fun _ _ _ h => h) (Or.inl ⟨by rfl, ?wt_4⟩) ?_); (case wt_4 => (intro wt; go_simp; try with_reducible rfl)); (try simp only [Act.put, List.getElem_toArray, List.getElem_cons_zero, List.getElem_cons_succ, List.setIfInBounds_toArray, List.set_cons_zero, List.set_cons_succ]); (refine wpAny_take (i := 5) (v := ?_) rfl (by kernel_rfl) (by kernel_rfl) (by kernel_rfl) (fun _ _ _ h => h) (Or.inl ⟨by rfl, ?wt_5⟩) ?_); (case wt_5 => (intro wt; go_simp; try with_reducible rfl)); (try simp only [Act.put, List.getElem_toArray, List.getElem_cons_zero, List.getElem_cons_succ, List.setIfInBounds_toArray, List.set_cons_zero, List.set_cons_succ]); (refine wpAny_take (i := 6) (v := ?_) rfl (by kernel_rfl) (by kernel_rfl) (by kernel_rfl) (fun _ _ _ h => h) (Or.inl ⟨by rfl, ?wt_6⟩) ?_); (case wt_6 => (intro wt; go_simp; try with_reducible rfl)); (try simp only [Act.put, List.getElem_toArray, List.getElem_cons_zero, List.getElem_cons_succ, List.setIfInBounds_toArray, List.set_cons_zero, List.set_cons_succ]); (refine wpAny_take (i := 7) (v := ?_) rfl (by kernel_rfl) (by kernel_rfl) (by kernel_rfl) (fun _ _ _ h => h) (Or.inl ⟨by rfl, ?wt_7⟩) ?_); (case wt_7 => (intro wt; go_simp; try with_reducible rfl)); (try simp only [Act.put, List.getElem_toArray, List.getElem_cons_zero, List.getElem_cons_succ, List.setIfInBounds_toArray, List.set_cons_zero, List.set_cons_succ]); (refine wpAny_take (i := 8) (v := ?_) rfl (by kernel_rfl) (by kernel_rfl) (by kernel_rfl) (fun _ _ _ h => h) (Or.inl ⟨by rfl, ?wt_8⟩) ?_); (case wt_8 => (intro wt; go_simp; try with_reducible rfl)); (try simp only [Act.put, List.getElem_toArray, List.getElem_cons_zero, List.getElem_cons_succ, List.setIfInBounds_toArray, List.set_cons_zero, List.set_cons_succ]); (refine wpAny_take (i := 10) (v := ?_) rfl (by kernel_rfl) (by kernel_rfl) (by kernel_rfl) (fun _ _ _ h => h) (Or.inl ⟨by rfl, ?wt_10⟩) ?_); (case wt_10 => (intro wt; go_simp; try with_reducible rfl)); (try simp only [Act.put, List.getElem_toArray, List.getElem_cons_zero, List.getElem_cons_succ, List.setIfInBounds_toArray, List.set_cons_zero, List.set_cons_succ]); (refine wpAny_take (i := 11) (v := ?_) rfl (by kernel_rfl) (by kernel_rfl) (by kernel_rfl) (fun _ _ _ h => h) (Or.inl ⟨by rfl, ?wt_11⟩) ?_); (case wt_11 => (intro wt; go_simp; try with_reducible rfl)); (try simp only [Act.put, List.getElem_toArray, List.getElem_cons_zero, List.getElem_cons_succ, List.setIfInBounds_toArray, List.set_cons_zero, List.set_cons_succ]); (refine wpAny_take (i := 12) (v := ?_) rfl (by kernel_rfl) (by kernel_rfl) (by kernel_rfl) (fun _ _ _ h => h) (Or.inl ⟨by rfl, ?wt_12⟩) ?_); (case wt_12 => (intro wt; go_simp; try with_reducible rfl)); (try simp only [Act.put, List.getElem_toArray, List.getElem_cons_zero, List.getElem_cons_succ, List.setIfInBounds_toArray, List.set_cons_zero, List.set_cons_succ])
          refine wpAny_ready (rs := [9, 13]) (by kernel_rfl) (by decide) ?_
          refine AllReady.cons rfl (fun K' hK => ?_) (AllReady.cons rfl (fun K' hK => ?_) AllReady.nil)
          · rw [if_pos (by rfl)]
            refine op_load_part' 31 _ rfl blk (q * 5) (by rfl) _ A _ _ 5 hgA Try.underlying31 rfl (by kernel_rfl) HQ5.out.1 (L (dj q)) HQ5.out.2 (hK _ _ ?_)
            clear hK K'
            (try simp only [Act.put, List.getElem_toArray, List.getElem_cons_zero, List.getElem_cons_succ, List.setIfInBounds_toArray, List.set_cons_zero, List.set_cons_succ])
            refine wpAny_ready (rs := [13]) (by kernel_rfl) (by decide) ?_
            refine AllReady.cons rfl (fun K' hK => ?_) AllReady.nil
            rw [if_pos (by rfl)]
            refine op_load_part' 31 _ rfl blk (k * 5) (by rfl) _ A _ _ 5 hgA Try.underlying31 rfl (by kernel_rfl) HP5.out.1 (L (dj k)) HP5.out.2 (hK _ _ ?_)
            clear hK K'
            (try simp only [Act.put, List.getElem_toArray, List.getElem_cons_zero, List.getElem_cons_succ, List.setIfInBounds_toArray, List.set_cons_zero, List.set_cons_succ])
            (refine wpAny_take (i := 14) (v := ?_) rfl (by kernel_rfl) (by kernel_rfl) (by kernel_rfl) (fun _ _ _ h => h) (Or.inl ⟨by rfl, ?wt_14⟩) ?_); (case wt_14 => (intro wt; go_simp; try with_reducible rfl)); (try simp only [Act.put, List.getElem_toArray, List.getElem_cons_zero, List.getElem_cons_succ, List.setIfInBounds_toArray, List.set_cons_zero, List.set_cons_succ])
            refine wpAny_ready (rs := [15]) (by kernel_rfl) (by decide) ?_
            refine AllReady.cons rfl (fun K' hK => ?_) AllReady.nil
            rw [if_pos (by rfl)]
            refine op_store_part' 31 _ _ rfl blk (k * 5) (L (dj q)) (by rfl) (by rfl) _ A hgA (by rw [(HRW.out.ord _).size]; kernel_rfl) (by rw [(HRW.out.ord _).size]; exact HP5.out.1) (HRW.out.ord _).all ?_
            intro ws1 hs1 hos1 hbs1
            refine hK _ _ ?_
            clear hK K'
            (try simp only [Act.put, List.getElem_toArray, List.getElem_cons_zero, List.getElem_cons_succ, List.setIfInBounds_toArray, List.set_cons_zero, List.set_cons_succ])
            (refine wpAny_take (i := 16) (v := ?_) rfl (by kernel_rfl) (by kernel_rfl) (by kernel_rfl) (fun _ _ _ h => h) (Or.inl ⟨by rfl, ?wt_16⟩) ?_); (case wt_16 => (intro wt; go_simp; try with_reducible rfl)); (try simp only [Act.put, List.getElem_toArray, List.getElem_cons_zero, List.getElem_cons_succ, List.setIfInBounds_toArray, List.set_cons_zero, List.set_cons_succ])
            refine wpAny_ready (rs := [17]) (by kernel_rfl) (by decide) ?_
            refine AllReady.cons rfl (fun K' hK => ?_) AllReady.nil
            rw [if_pos (by rfl)]
            refine op_store_part' 31 _ _ rfl blk (q * 5) (L (dj k)) (by rfl) (by rfl) _ _ hs1 (by rw [(HRW.out.ord _).size]; kernel_rfl) (by rw [(HRW.out.ord _).size]; exact (splice_rows (HRW.out.ord (dj q)).size HPQ.out.1 HXA.out q HPQ.out.2).1) (HRW.out.ord _).all ?_
            intro ws2 hs2 hos2 hbs2
            have HSW := Lib.hid (HRW.out.swap HPQ.out.1 HPQ.out.2 HXA.out (hbs1 _ (Nat.le_refl _)) hos1 (hbs2 _ (Nat.le_refl _)) hos2 hs2)
            refine hK _ _ ?_
            clear hK K' hs1 hos1 hbs1 hs2 hos2 hbs2 hgA
            refine wpAny_done (by kernel_rfl) ?_ _
            (try simp only [Act.put, List.getElem_toArray, List.getElem_cons_zero, List.getElem_cons_succ, List.setIfInBounds_toArray, List.set_cons_zero, List.set_cons_succ])
            go_wp2
            go_roundg (i - 1 - q)
            case measure => have := HQ.out; omega
            case rel =>
              have hq := HQ.out
              refine ⟨q, by go_num, by omega, by omega, rfl, (HSW.out.congr ?_)⟩
              rw [HDJ.out, HM.out, hq]; exact rot_up d h1
          · rw [if_pos (by rfl)]
            refine op_load_part' 31 _ rfl blk (k * 5) (by rfl) _ A _ _ 5 hgA Try.underlying31 rfl (by kernel_rfl) HP5.out.1 (L (dj k)) HP5.out.2 (hK _ _ ?_)
            clear hK K'
            (try simp only [Act.put, List.getElem_toArray, List.getElem_cons_zero, List.getElem_cons_succ, List.setIfInBounds_toArray, List.set_cons_zero, List.set_cons_succ])
            refine wpAny_ready (rs := [9]) (by kernel_rfl) (by decide) ?_
            refine AllReady.cons rfl (fun K' hK => ?_) AllReady.nil
            rw [if_pos (by rfl)]
            refine op_load_part' 31 _ rfl blk (q * 5) (by rfl) _ A _ _ 5 hgA Try.underlying31 rfl (by kernel_rfl) HQ5.out.1 (L (dj q)) HQ5.out.2 (hK _ _ ?_)
            clear hK K'
            (try simp only [Act.put, List.getElem_toArray, List.getElem_cons_zero, List.getElem_cons_succ, List.setIfInBounds_toArray, List.set_cons_zero, List.set_cons_succ])
            (refine wpAny_take (i := 14) (v := ?_) rfl (by kernel_rfl) (by kernel_rfl) (by kernel_rfl) (fun _ _ _ h => h) (Or.inl ⟨by rfl, ?wt_14⟩) ?_); (case wt_14 => (intro wt; go_simp; try with_reducible rfl)); (try simp only [Act.put, List.getElem_toArray, List.getElem_cons_zero, List.getElem_cons_succ, List.setIfInBounds_toArray, List.set_cons_zero, List.set_cons_succ])
            refine wpAny_ready (rs := [15]) (by kernel_rfl) (by decide) ?_
            refine AllReady.cons rfl (fun K' hK => ?_) AllReady.nil
            rw [if_pos (by rfl)]
            refine op_store_part' 31 _ _ rfl blk (k * 5) (L (dj q)) (by rfl) (by rfl) _ A hgA (by rw [(HRW.out.ord _).size]; kernel_rfl) (by rw [(HRW.out.ord _).size]; exact HP5.out.1) (HRW.out.ord _).all ?_
            intro ws1 hs1 hos1 hbs1
            refine hK _ _ ?_
            clear hK K'
            (try simp only [Act.put, List.getElem_toArray, List.getElem_cons_zero, List.getElem_cons_succ, List.setIfInBounds_toArray, List.set_cons_zero, List.set_cons_succ])
            (refine wpAny_take (i := 16) (v := ?_) rfl (by kernel_rfl) (by kernel_rfl) (by kernel_rfl) (fun _ _ _ h => h) (Or.inl ⟨by rfl, ?wt_16⟩) ?_); (case wt_16 => (intro wt; go_simp; try with_reducible rfl)); (try simp only [Act.put, List.getElem_toArray, List.getElem_cons_zero, List.getElem_cons_succ, List.setIfInBounds_toArray, List.set_cons_zero, List.set_cons_succ])
            refine wpAny_ready (rs := [17]) (by kernel_rfl) (by decide) ?_
            refine AllReady.cons rfl (fun K' hK => ?_) AllReady.nil
            rw [if_pos (by rfl)]
            refine op_store_part' 31 _ _ rfl blk (q * 5) (L (dj k)) (by rfl) (by rfl) _ _ hs1 (by rw [(HRW.out.ord _).size]; kernel_rfl) (by rw [(HRW.out.ord _).size]; exact (splice_rows (HRW.out.ord (dj q)).size HPQ.out.1 HXA.out q HPQ.out.2).1) (HRW.out.ord _).all ?_
            intro ws2 hs2 hos2 hbs2
            have HSW := Lib.hid (HRW.out.swap HPQ.out.1 HPQ.out.2 HXA.out (hbs1 _ (Nat.le_refl _)) hos1 (hbs2 _ (Nat.le_refl _)) hos2 hs2)
            refine hK _ _ ?_
            clear hK K' hs1 hos1 hbs1 hs2 hos2 hbs2 hgA
            refine wpAny_done (by kernel_rfl) ?_ _
            (try simp only [Act.put, List.getElem_toArray, List.getElem_cons_zero, List.getElem_cons_succ, List.setIfInBounds_toArray, List.set_cons_zero, List.set_cons_succ])
            go_wp2
            go_roundg (i - 1 - q)
            case measure => have := HQ.out; omega
            case rel =>
              have hq := HQ.out
              refine ⟨q, by go_num, by omega, by omega, rfl, (HSW.out.congr ?_)⟩
              rw [HDJ.out, HM.out, hq]; exact rot_up d h1
        · obtain rfl : k = i - 1 := by omega
          go_wp2
          (try simp only [Exit.inBlock, Exit.then]); first | go_end0 | refine bodyPost_ret (results_none rfl _ _ _) rfl ?_
          exact ⟨rfl, _, HRK.out.congr (by rw [show i - 1 + 1 = i by omega]), END.out.1, END.out.2⟩

set_option maxRecDepth 100000 in
set_option maxHeartbeats 16000000 in
theorem symm_hi (L : Nat → Array Value) (blk n cap a m : Nat) (d : Nat → Nat) (K : Nat → Int) (cf : Nat → Nat → Int) (cb : Value) (w0 w : World) (hcf : ∀ x y, cf x y < 0 ↔ K x < K y) (hC : CmpAt L w0 blk n cf cb) (hR : RowJ L w0 w blk n d)
    (ham : a + 1 < m) (hb : m + 1 ≤ n) (hs : Srt K a m d) (hl : Low a m (m + 1) d) :
    Calls Try.prog 21 #[.slice (some ⟨blk, 0, none⟩) n cap, .int .i64 a, .int .i64 m, .int .i64 ((m + 1 : Nat) : Int), fvS cb] w fun e w' => e = .returned (.tuple #[]) ∧ ∃ d', RowJ L w0 w' blk n d' ∧ PermOn a (m + 1) d d' ∧ Srt K a (m + 1) d' := by
  have hsz := hR.sz
  have H0 := Lib.hid hR
  have HC := Lib.hid hC
  have HS := Lib.hid hs
  have HL := Lib.hid hl
  have HCF := Lib.hid hcf
  clear hR hC hs hl hcf
  obtain ⟨b, hbe⟩ : ∃ b, b = m + 1 := ⟨_, rfl⟩
  rw [← hbe]
  obtain ⟨l, hl⟩ : ∃ l, l = m - a := ⟨_, rfl⟩
  have wm := wrapN (z := (m : Int) - (a : Int)) (n := l) (by omega) (by omega)
  have hl1 : ((l : Int) == 1) = false := by rw [beq_eq_false_iff_ne]; omega
  have wb := wrapN (z := (b : Int) - (m : Int)) (n := 1) (by omega) (by omega)
  have HM := Lib.hid hbe
  have hmn : m < n := by omega
  have hmnz : (m : Int) < (n : Int) := by omega
  clear hbe hl
  unfold fvS
  go_enter Try.func21, Try.ntmps21
  go_wp2
  go_loopg [14, 15] (m - a) (fun gh vi vj wr => ∃ i j : Nat, vi = .int .i64 i ∧ vj = .int .i64 j ∧ a ≤ i ∧ i ≤ j ∧ j ≤ m ∧ gh = j - i ∧ (∀ k, a ≤ k → k < i → ltK K (d k) (d m)) ∧ (∀ k, j ≤ k → k < m → ltK K (d m) (d k)) ∧ RowJ L w0 wr blk n d)
  case atStart => exact ⟨a, m, rfl, rfl, Nat.le_refl _, by omega, Nat.le_refl _, rfl, fun k h1 h2 => by omega, fun k h1 h2 => by omega, H0.out⟩
  case round =>
    clear H0
    obtain ⟨i, j, rfl, rfl, hi, hij, hj, rfl, hll, hrr, hRi⟩ := hrel
    have HLL := Lib.hid hll
    have HRR := Lib.hid hrr
    have HRI := Lib.hid hRi
    clear hll hrr hRi
    by_cases hlt : i < j
    · obtain ⟨h, hh⟩ : ∃ h, h = (i + j) / 2 := ⟨_, rfl⟩
      have hh2 := half_lt hlt
      rw [← hh] at hh2
      have hz : ((i : Int) + (j : Int)) / 2 = (h : Int) := by omega
      clear hh
      obtain ⟨x, hx⟩ : ∃ x, x = d m := ⟨_, rfl⟩
      obtain ⟨y, hy⟩ : ∃ y, y = d h := ⟨_, rfl⟩
      have hhn : (h : Int) < (n : Int) := by omega
      obtain ⟨A5, hgA5, hXA5⟩ := HRI.out.row
      have HX := Lib.hid (show m * 5 + 5 ≤ A5.size ∧ A5.extract (m * 5) (m * 5 + 5) = L x from by rw [hx]; exact hXA5 m (by omega))
      have HY := Lib.hid (show h * 5 + 5 ≤ A5.size ∧ A5.extract (h * 5) (h * 5 + 5) = L y from by rw [hy]; exact hXA5 h (by omega))
      clear hXA5
      have HCQ := Lib.hid (HC.out.q HRI.out x y (by rw [hx]; exact HRI.out.lt _ (by omega)) (by rw [hy]; exact HRI.out.lt _ (by omega)))
      have hlo : d h < d m := HL.out h m (by omega) (by omega) (Nat.le_refl _) (by omega)
      have HXY := Lib.hid (show x = d m ∧ y = d h ∧ y < x from ⟨hx, hy, by rw [hx, hy]; exact hlo⟩)
      clear hx hy hlo
      by_cases hk : cf x y < 0
      · have hdk : decide (cf x y < 0) = true := decide_eq_true hk
        go_wp2
        refine wp_region_below (by kernel_rfl) (by kernel_rfl) ?_
        repeat (first | ((with_reducible apply q_skip); (case hw => rfl); (try simp only [Act.put, List.setIfInBounds_toArray, List.set_cons_zero, List.set_cons_succ])) | ((with_reducible refine at_qload 31 ?_); refine q_load_part (by rfl) 31 _ rfl (blk) (m * 5) rfl _ (A5) _ 5 (hgA5) Try.underlying31 rfl (by kernel_rfl) (HX.out.1) (L x) (HX.out.2) ?_; try simp only [Act.put, List.setIfInBounds_toArray, List.set_cons_zero, List.set_cons_succ]) | ((with_reducible refine at_qload 31 ?_); refine q_load_part (by rfl) 31 _ rfl (blk) (h * 5) rfl _ (A5) _ 5 (hgA5) Try.underlying31 rfl (by kernel_rfl) (HY.out.1) (L y) (HY.out.2) ?_; try simp only [Act.put, List.setIfInBounds_toArray, List.set_cons_zero, List.set_cons_succ]) | ((with_reducible refine at_qcallv ?_); refine q_call (.int .i64 (cf x y)) 14 #[.agg (L x), .agg (L y), cb] (by rfl) (fun wq hq => by go_simp) HCQ.out ?_; (try simp only [Act.put, List.setIfInBounds_toArray, List.set_cons_zero, List.set_cons_succ])) | ((with_reducible apply q_val); (case hw => rfl); (case hv => intro wq hbq; go_simp; try rfl); (try simp only [Act.put, List.setIfInBounds_toArray, List.set_cons_zero, List.set_cons_succ])))
        refine q_nil ?_
        intro w4 hb4
        go_wp2
        go_roundg (h - i)
        case measure => omega
        case rel =>
          obtain ⟨x1, x2, x3⟩ := HXY.out
          refine ⟨i, h, rfl, rfl, hi, by omega, by omega, rfl, HLL.out, fun k h1 h2 => ?_, HRI.out.below hb4⟩
          have hk' : ltK K (d m) (d h) := by rw [← x1, ← x2]; exact .inl ((HCF.out _ _).1 hk)
          by_cases e : k = h
          · subst e; exact hk'
          · exact ltK_trans hk' (HS.out h k (by omega) (by omega) (by omega))
      · have hdk : decide (cf x y < 0) = false := decide_eq_false hk
        go_wp2
        refine wp_region_below (by kernel_rfl) (by kernel_rfl) ?_
        repeat (first | ((with_reducible apply q_skip); (case hw => rfl); (try simp only [Act.put, List.setIfInBounds_toArray, List.set_cons_zero, List.set_cons_succ])) | ((with_reducible refine at_qload 31 ?_); refine q_load_part (by rfl) 31 _ rfl (blk) (m * 5) rfl _ (A5) _ 5 (hgA5) Try.underlying31 rfl (by kernel_rfl) (HX.out.1) (L x) (HX.out.2) ?_; try simp only [Act.put, List.setIfInBounds_toArray, List.set_cons_zero, List.set_cons_succ]) | ((with_reducible refine at_qload 31 ?_); refine q_load_part (by rfl) 31 _ rfl (blk) (h * 5) rfl _ (A5) _ 5 (hgA5) Try.underlying31 rfl (by kernel_rfl) (HY.out.1) (L y) (HY.out.2) ?_; try simp only [Act.put, List.setIfInBounds_toArray, List.set_cons_zero, List.set_cons_succ]) | ((with_reducible refine at_qcallv ?_); refine q_call (.int .i64 (cf x y)) 14 #[.agg (L x), .agg (L y), cb] (by rfl) (fun wq hq => by go_simp) HCQ.out ?_; (try simp only [Act.put, List.setIfInBounds_toArray, List.set_cons_zero, List.set_cons_succ])) | ((with_reducible apply q_val); (case hw => rfl); (case hv => intro wq hbq; go_simp; try rfl); (try simp only [Act.put, List.setIfInBounds_toArray, List.set_cons_zero, List.set_cons_succ])))
        refine q_nil ?_
        intro w4 hb4
        have wh1 := wrapN (z := (h : Int) + 1) (n := h + 1) (by omega) (by omega)
        go_wp2
        go_roundg (j - (h + 1))
        case measure => omega
        case rel =>
          obtain ⟨x1, x2, x3⟩ := HXY.out
          refine ⟨h + 1, j, by go_num, rfl, by omega, by omega, hj, rfl, fun k h1 h2 => ?_, HRR.out, HRI.out.below hb4⟩
          have hk' : ltK K (d h) (d m) := by rw [← x1, ← x2]; exact ltK_no x3 (fun h => by have := (HCF.out _ _).2 h; omega)
          by_cases e : k = h
          · subst e; exact hk'
          · exact ltK_trans (HS.out k h (by omega) (by omega) (by omega)) hk'
    · obtain rfl : i = j := by omega
      have END := Lib.hid (show PermOn a b d (rot i m b d) ∧ Srt K a b (rot i m b d) from by
        have hm := HM.out
        subst hm
        exact ⟨(rot_perm d (by omega) (by omega)).mono hi (Nat.le_refl _), merge_hi HS.out hi hj HLL.out HRR.out⟩)
      clear HLL HRR HC HS HL HCF
      go_wp2
      go_loopg [17] (m - i) (fun gh vk wr => ∃ k : Nat, vk = .int .i64 k ∧ i ≤ k ∧ k ≤ m ∧ gh = k - i ∧ RowJ L w0 wr blk n (rot k m b d))
      case atStart => exact ⟨m, rfl, hj, Nat.le_refl _, rfl, HRI.out.congr (rot_left m b d).symm⟩
      case round =>
        clear HRI
        obtain ⟨k, rfl, h1, h2, rfl, hRk⟩ := hrel
        have HRK := Lib.hid hRk
        clear hRk
        by_cases hlt2 : i < k
        · obtain ⟨q, hq⟩ : ∃ q, q = k - 1 := ⟨_, rfl⟩
          obtain ⟨dj, hdj⟩ : ∃ dj, dj = rot k m b d := ⟨_, rfl⟩
          have HRD := Lib.hid (hdj ▸ HRK.out : RowJ L w0 wr blk n dj)
          have wk := wrapN (z := (k : Int) - 1) (n := q) (by omega) (by omega)
          have hkn : (k : Int) < (n : Int) := by omega
          have hqn : (q : Int) < (n : Int) := by omega
          have HPQ := Lib.hid (show k < n ∧ q < n by omega)
          have HDJ := Lib.hid hdj
          have HQ := Lib.hid hq
          clear hdj hq HRK
          go_wp2
          obtain ⟨wy, hwy⟩ : ∃ wy, wy = wr := ⟨_, rfl⟩
          rw [← hwy] at HRD ⊢
          clear hwy
          refine wp_region_any (by kernel_rfl) ?_
          change wpAny _ _ _ _ _ _ _ (World.drew _)
          obtain ⟨wq, hwq⟩ : ∃ wq, wq = World.drew wy := ⟨_, rfl⟩
          have HRW := Lib.hid (show RowJ L w0 wq blk n dj from by rw [hwq]; exact HRD.out.drew)
          rw [← hwq]
          clear hwq
          obtain ⟨A, hgA, hXA⟩ := HRW.out.row
          have HP5 := Lib.hid (hXA k HPQ.out.1)
          have HQ5 := Lib.hid (hXA q HPQ.out.2)
          have HXA := Lib.hid hXA
          clear hXA
          (refine wpAny_take (i := 0) (v := ?_) rfl (by kernel_rfl) (by kernel_rfl) (by kernel_rfl) (fun _ _ _ h => h) (Or.inl ⟨by rfl, ?wt_0⟩) ?_); (case wt_0 => (intro wt; go_simp; try with_reducible rfl)); (try simp only [Act.put, List.getElem_toArray, List.getElem_cons_zero, List.getElem_cons_succ, List.setIfInBounds_toArray, List.set_cons_zero, List.set_cons_succ]); (refine wpAny_take (i := 1) (v := ?_) rfl (by kernel_rfl) (by kernel_rfl) (by kernel_rfl) (fun _ _ _ h => h) (Or.inl ⟨by rfl, ?wt_1⟩) ?_); (case wt_1 => (intro wt; go_simp; try with_reducible rfl)); (try simp only [Act.put, List.getElem_toArray, List.getElem_cons_zero, List.getElem_cons_succ, List.setIfInBounds_toArray, List.set_cons_zero, List.set_cons_succ]); (refine wpAny_take (i := 2) (v := ?_) rfl (by kernel_rfl) (by kernel_rfl) (by kernel_rfl) (fun _ _ _ h => h) (Or.inl ⟨by rfl, ?wt_2⟩) ?_); (case wt_2 => (intro wt; go_simp; try with_reducible rfl)); (try simp only [Act.put, List.getElem_toArray, List.getElem_cons_zero, List.getElem_cons_succ, List.setIfInBounds_toArray, List.set_cons_zero, List.set_cons_succ]); (refine wpAny_take (i := 3) (v := ?_) rfl (by kernel_rfl) (by kernel_rfl) (by kernel_rfl) (fun _ _ _ h => h) (Or.inl ⟨by rfl, ?wt_3⟩) ?_); (case wt_3 => (intro wt; go_simp; try with_reducible rfl)); (try simp only [Act.put, List.getElem_toArray, List.getElem_cons_zero, List.getElem_cons_succ, List.setIfInBounds_toArray, List.set_cons_zero, List.set_cons_succ]); (refine wpAny_take (i := 4) (v := ?_) rfl (by kernel_rfl) (by kernel_rfl) (by kernel_rfl) (fun _ _ _ h => h) (Or.inl ⟨by rfl, ?wt_4⟩) ?_); (case wt_4 => (intro wt; go_simp; try with_reducible rfl)); (try simp only [Act.put, List.getElem_toArray, List.getElem_cons_zero, List.getElem_cons_succ, List.setIfInBounds_toArray, List.set_cons_zero, List.set_cons_succ]); (refine wpAny_take (i := 5) (v := ?_) rfl (by kernel_rfl) (by kernel_rfl) (by kernel_rfl) (fun _ _ _ h => h) (Or.inl ⟨by rfl, ?wt_5⟩) ?_); (case wt_5 => (intro wt; go_simp; try with_reducible rfl)); (try simp only [Act.put, List.getElem_toArray, List.getElem_cons_zero, List.getElem_cons_succ, List.setIfInBounds_toArray, List.set_cons_zero, List.set_cons_succ]); (refine wpAny_take (i := 6) (v := ?_) rfl (by kernel_rfl) (by kernel_rfl) (by kernel_rfl) (fun _ _ _ h => h) (Or.inl ⟨by rfl, ?wt_6⟩) ?_); (case wt_6 => (intro wt; go_simp; try with_reducible rfl)); (try simp only [Act.put, List.getElem_toArray, List.getElem_cons_zero, List.getElem_cons_succ, List.setIfInBounds_toArray, List.set_cons_zero, List.set_cons_succ]); (refine wpAny_take (i := 7) (v := ?_) rfl (by kernel_rfl) (by kernel_rfl) (by kernel_rfl) (fun _ _ _ h => h) (Or.inl ⟨by rfl, ?wt_7⟩) ?_); (case wt_7 => (intro wt; go_simp; try with_reducible rfl)); (try simp only [Act.put, List.getElem_toArray, List.getElem_cons_zero, List.getElem_cons_succ, List.setIfInBounds_toArray, List.set_cons_zero, List.set_cons_succ]); (refine wpAny_take (i := 8) (v := ?_) rfl (by kernel_rfl) (by kernel_rfl) (by kernel_rfl) (fun _ _ _ h => h) (Or.inl ⟨by rfl, ?wt_8⟩) ?_); (case wt_8 => (intro wt; go_simp; try with_reducible rfl)); (try simp only [Act.put, List.getElem_toArray, List.getElem_cons_zero, List.getElem_cons_succ, List.setIfInBounds_toArray, List.set_cons_zero, List.set_cons_succ]); (refine wpAny_take (i := 10) (v := ?_) rfl (by kernel_rfl) (by kernel_rfl) (by kernel_rfl) (fun _ _ _ h => h) (Or.inl ⟨by rfl, ?wt_10⟩) ?_); (case wt_10 => (intro wt; go_simp; try with_reducible rfl)); (try simp only [Act.put, List.getElem_toArray, List.getElem_cons_zero, List.getElem_cons_succ, List.setIfInBounds_toArray, List.set_cons_zero, List.set_cons_succ]); (refine wpAny_take (i := 11) (v := ?_) rfl (by kernel_rfl) (by kernel_rfl) (by kernel_rfl) (fun _ _ _ h => h) (Or.inl ⟨by rfl, ?wt_11⟩) ?_); (case wt_11 => (intro wt; go_simp; try with_reducible rfl)); (try simp only [Act.put, List.getElem_toArray, List.getElem_cons_zero, List.getElem_cons_succ, List.setIfInBounds_toArray, List.set_cons_zero, List.set_cons_succ]); (refine wpAny_take (i := 12) (v := ?_) rfl (by kernel_rfl) (by kernel_rfl) (by kernel_rfl) (fun _ _ _ h => h) (Or.inl ⟨by rfl, ?wt_12⟩) ?_); (case wt_12 => (intro wt; go_simp; try with_reducible rfl)); (try simp only [Act.put, List.getElem_toArray, List.getElem_cons_zero, List.getElem_cons_succ, List.setIfInBounds_toArray, List.set_cons_zero, List.set_cons_succ])
          refine wpAny_ready (rs := [9, 13]) (by kernel_rfl) (by decide) ?_
          refine AllReady.cons rfl (fun K' hK => ?_) (AllReady.cons rfl (fun K' hK => ?_) AllReady.nil)
          · rw [if_pos (by rfl)]
            refine op_load_part' 31 _ rfl blk (q * 5) (by rfl) _ A _ _ 5 hgA Try.underlying31 rfl (by kernel_rfl) HQ5.out.1 (L (dj q)) HQ5.out.2 (hK _ _ ?_)
            clear hK K'
            (try simp only [Act.put, List.getElem_toArray, List.getElem_cons_zero, List.getElem_cons_succ, List.setIfInBounds_toArray, List.set_cons_zero, List.set_cons_succ])
            refine wpAny_ready (rs := [13]) (by kernel_rfl) (by decide) ?_
            refine AllReady.cons rfl (fun K' hK => ?_) AllReady.nil
            rw [if_pos (by rfl)]
            refine op_load_part' 31 _ rfl blk (k * 5) (by rfl) _ A _ _ 5 hgA Try.underlying31 rfl (by kernel_rfl) HP5.out.1 (L (dj k)) HP5.out.2 (hK _ _ ?_)
            clear hK K'
            (try simp only [Act.put, List.getElem_toArray, List.getElem_cons_zero, List.getElem_cons_succ, List.setIfInBounds_toArray, List.set_cons_zero, List.set_cons_succ])
            (refine wpAny_take (i := 14) (v := ?_) rfl (by kernel_rfl) (by kernel_rfl) (by kernel_rfl) (fun _ _ _ h => h) (Or.inl ⟨by rfl, ?wt_14⟩) ?_); (case wt_14 => (intro wt; go_simp; try with_reducible rfl)); (try simp only [Act.put, List.getElem_toArray, List.getElem_cons_zero, List.getElem_cons_succ, List.setIfInBounds_toArray, List.set_cons_zero, List.set_cons_succ])
            refine wpAny_ready (rs := [15]) (by kernel_rfl) (by decide) ?_
            refine AllReady.cons rfl (fun K' hK => ?_) AllReady.nil
            rw [if_pos (by rfl)]
            refine op_store_part' 31 _ _ rfl blk (k * 5) (L (dj q)) (by rfl) (by rfl) _ A hgA (by rw [(HRW.out.ord _).size]; kernel_rfl) (by rw [(HRW.out.ord _).size]; exact HP5.out.1) (HRW.out.ord _).all ?_
            intro ws1 hs1 hos1 hbs1
            refine hK _ _ ?_
            clear hK K'
            (try simp only [Act.put, List.getElem_toArray, List.getElem_cons_zero, List.getElem_cons_succ, List.setIfInBounds_toArray, List.set_cons_zero, List.set_cons_succ])
            (refine wpAny_take (i := 16) (v := ?_) rfl (by kernel_rfl) (by kernel_rfl) (by kernel_rfl) (fun _ _ _ h => h) (Or.inl ⟨by rfl, ?wt_16⟩) ?_); (case wt_16 => (intro wt; go_simp; try with_reducible rfl)); (try simp only [Act.put, List.getElem_toArray, List.getElem_cons_zero, List.getElem_cons_succ, List.setIfInBounds_toArray, List.set_cons_zero, List.set_cons_succ])
            refine wpAny_ready (rs := [17]) (by kernel_rfl) (by decide) ?_
            refine AllReady.cons rfl (fun K' hK => ?_) AllReady.nil
            rw [if_pos (by rfl)]
            refine op_store_part' 31 _ _ rfl blk (q * 5) (L (dj k)) (by rfl) (by rfl) _ _ hs1 (by rw [(HRW.out.ord _).size]; kernel_rfl) (by rw [(HRW.out.ord _).size]; exact (splice_rows (HRW.out.ord (dj q)).size HPQ.out.1 HXA.out q HPQ.out.2).1) (HRW.out.ord _).all ?_
            intro ws2 hs2 hos2 hbs2
            have HSW := Lib.hid (HRW.out.swap HPQ.out.1 HPQ.out.2 HXA.out (hbs1 _ (Nat.le_refl _)) hos1 (hbs2 _ (Nat.le_refl _)) hos2 hs2)
            refine hK _ _ ?_
            clear hK K' hs1 hos1 hbs1 hs2 hos2 hbs2 hgA
            refine wpAny_done (by kernel_rfl) ?_ _
            (try simp only [Act.put, List.getElem_toArray, List.getElem_cons_zero, List.getElem_cons_succ, List.setIfInBounds_toArray, List.set_cons_zero, List.set_cons_succ])
            go_wp2
            go_roundg (q - i)
            case measure => have := HQ.out; omega
            case rel =>
              have hq := HQ.out
              refine ⟨q, by go_num, by omega, by omega, rfl, (HSW.out.congr ?_)⟩
              rw [HDJ.out, HM.out, hq]; exact rot_down d (by omega) h2
          · rw [if_pos (by rfl)]
            refine op_load_part' 31 _ rfl blk (k * 5) (by rfl) _ A _ _ 5 hgA Try.underlying31 rfl (by kernel_rfl) HP5.out.1 (L (dj k)) HP5.out.2 (hK _ _ ?_)
            clear hK K'
            (try simp only [Act.put, List.getElem_toArray, List.getElem_cons_zero, List.getElem_cons_succ, List.setIfInBounds_toArray, List.set_cons_zero, List.set_cons_succ])
            refine wpAny_ready (rs := [9]) (by kernel_rfl) (by decide) ?_
            refine AllReady.cons rfl (fun K' hK => ?_) AllReady.nil
            rw [if_pos (by rfl)]
            refine op_load_part' 31 _ rfl blk (q * 5) (by rfl) _ A _ _ 5 hgA Try.underlying31 rfl (by kernel_rfl) HQ5.out.1 (L (dj q)) HQ5.out.2 (hK _ _ ?_)
            clear hK K'
            (try simp only [Act.put, List.getElem_toArray, List.getElem_cons_zero, List.getElem_cons_succ, List.setIfInBounds_toArray, List.set_cons_zero, List.set_cons_succ])
            (refine wpAny_take (i := 14) (v := ?_) rfl (by kernel_rfl) (by kernel_rfl) (by kernel_rfl) (fun _ _ _ h => h) (Or.inl ⟨by rfl, ?wt_14⟩) ?_); (case wt_14 => (intro wt; go_simp; try with_reducible rfl)); (try simp only [Act.put, List.getElem_toArray, List.getElem_cons_zero, List.getElem_cons_succ, List.setIfInBounds_toArray, List.set_cons_zero, List.set_cons_succ])
            refine wpAny_ready (rs := [15]) (by kernel_rfl) (by decide) ?_
            refine AllReady.cons rfl (fun K' hK => ?_) AllReady.nil
            rw [if_pos (by rfl)]
            refine op_store_part' 31 _ _ rfl blk (k * 5) (L (dj q)) (by rfl) (by rfl) _ A hgA (by rw [(HRW.out.ord _).size]; kernel_rfl) (by rw [(HRW.out.ord _).size]; exact HP5.out.1) (HRW.out.ord _).all ?_
            intro ws1 hs1 hos1 hbs1
            refine hK _ _ ?_
            clear hK K'
            (try simp only [Act.put, List.getElem_toArray, List.getElem_cons_zero, List.getElem_cons_succ, List.setIfInBounds_toArray, List.set_cons_zero, List.set_cons_succ])
            (refine wpAny_take (i := 16) (v := ?_) rfl (by kernel_rfl) (by kernel_rfl) (by kernel_rfl) (fun _ _ _ h => h) (Or.inl ⟨by rfl, ?wt_16⟩) ?_); (case wt_16 => (intro wt; go_simp; try with_reducible rfl)); (try simp only [Act.put, List.getElem_toArray, List.getElem_cons_zero, List.getElem_cons_succ, List.setIfInBounds_toArray, List.set_cons_zero, List.set_cons_succ])
            refine wpAny_ready (rs := [17]) (by kernel_rfl) (by decide) ?_
            refine AllReady.cons rfl (fun K' hK => ?_) AllReady.nil
            rw [if_pos (by rfl)]
            refine op_store_part' 31 _ _ rfl blk (q * 5) (L (dj k)) (by rfl) (by rfl) _ _ hs1 (by rw [(HRW.out.ord _).size]; kernel_rfl) (by rw [(HRW.out.ord _).size]; exact (splice_rows (HRW.out.ord (dj q)).size HPQ.out.1 HXA.out q HPQ.out.2).1) (HRW.out.ord _).all ?_
            intro ws2 hs2 hos2 hbs2
            have HSW := Lib.hid (HRW.out.swap HPQ.out.1 HPQ.out.2 HXA.out (hbs1 _ (Nat.le_refl _)) hos1 (hbs2 _ (Nat.le_refl _)) hos2 hs2)
            refine hK _ _ ?_
            clear hK K' hs1 hos1 hbs1 hs2 hos2 hbs2 hgA
            refine wpAny_done (by kernel_rfl) ?_ _
            (try simp only [Act.put, List.getElem_toArray, List.getElem_cons_zero, List.getElem_cons_succ, List.setIfInBounds_toArray, List.set_cons_zero, List.set_cons_succ])
            go_wp2
            go_roundg (q - i)
            case measure => have := HQ.out; omega
            case rel =>
              have hq := HQ.out
              refine ⟨q, by go_num, by omega, by omega, rfl, (HSW.out.congr ?_)⟩
              rw [HDJ.out, HM.out, hq]; exact rot_down d (by omega) h2
        · obtain rfl : k = i := by omega
          go_wp2
          (try simp only [Exit.inBlock, Exit.then]); first | go_end0 | refine bodyPost_ret (results_none rfl _ _ _) rfl ?_
          exact ⟨rfl, _, HRK.out, END.out.1, END.out.2⟩
end Go.Proofs.Ytoglcgijgckdaaa
