/- slices' symMergeCmpFunc at ints, where one side has one number alone. Condition: as at the insertion sort. -/
import Derived.Test.YtanfhjfpdgjphaaSortB
namespace Go.Proofs.Ytanfhjfpdgjphaa
set_option linter.unusedVariables false
set_option linter.unusedSimpArgs false
open Go.RowKit

theorem half_lt {i j : Nat} (h : i < j) : i ≤ (i + j) / 2 ∧ (i + j) / 2 < j := by omega
set_option maxRecDepth 100000 in
set_option maxHeartbeats 16000000 in
theorem symm_lo (blk n cap a b : Nat) (d : Nat → Nat) (K : Nat → Int) (cf : Nat → Nat → Int) (cb : Value) (w0 w : World) (hcf : ∀ x y, cf x y < 0 ↔ K x < K y) (hC : CmpAt w0 blk n cf cb) (hR : RowI w0 w blk n d)
    (hab : a + 1 < b) (hb : b ≤ n) (hs : Srt K (a + 1) b d) (hl : Low a (a + 1) b d) :
    Calls Try.prog 57 #[.slice (some ⟨blk, 0, none⟩) n cap, .int .i64 a, .int .i64 ((a + 1 : Nat) : Int), .int .i64 b, fvS cb] w fun e w' => e = .returned (.tuple #[]) ∧ ∃ d', RowI w0 w' blk n d' ∧ PermOn a b d d' ∧ Srt K a b d' := by
  have hsz := hR.sz
  have H0 := Lib.hid hR
  have HC := Lib.hid hC
  have HS := Lib.hid hs
  have HL := Lib.hid hl
  have HCF := Lib.hid hcf
  clear hR hC hs hl hcf
  obtain ⟨m, hm⟩ : ∃ m, m = a + 1 := ⟨_, rfl⟩
  rw [← hm]
  have wm := wrapN (z := (m : Int) - (a : Int)) (n := 1) (by omega) (by omega)
  have HM := Lib.hid hm
  have hmb : m < b := by omega
  have ham : a < m := by omega
  clear hm hab
  unfold fvS
  go_enter Try.func57, Try.ntmps57
  go_wp2
  go_loopg [10, 11] (b - m) (fun gh vi vj wr => ∃ i j : Nat, vi = .int .i64 i ∧ vj = .int .i64 j ∧ m ≤ i ∧ i ≤ j ∧ j ≤ b ∧ gh = j - i ∧ (∀ k, m ≤ k → k < i → ltK K (d k) (d a)) ∧ (∀ k, j ≤ k → k < b → ltK K (d a) (d k)) ∧ RowI w0 wr blk n d)
  case atStart => exact ⟨m, b, rfl, rfl, Nat.le_refl _, by omega, Nat.le_refl _, rfl, fun k h1 h2 => by omega, fun k h1 h2 => by omega, H0.out⟩
  case round =>
    clear H0
    obtain ⟨i, j, rfl, rfl, hi, hij, hj, rfl, hll, hrr, hRi⟩ := hrel
    have HLL := Lib.hid hll
    have HRR := Lib.hid hrr
    have HRI := Lib.hid hRi
    clear hll hrr hRi
    by_cases hlt : i < j
    · obtain ⟨h, hh⟩ : ∃ h, h = (i + j) / 2 := ⟨_, rfl⟩
      have hh2 := half_lt hlt
      rw [← hh] at hh2
      have hz : ((i : Int) + (j : Int)) / 2 = (h : Int) := by omega
      clear hh
      obtain ⟨x, hx⟩ : ∃ x, x = d h := ⟨_, rfl⟩
      obtain ⟨y, hy⟩ : ∃ y, y = d a := ⟨_, rfl⟩
      have hhn : (h : Int) < (n : Int) := by omega
      have han : (a : Int) < (n : Int) := by omega
      have HX := Lib.hid (show ∀ wq, Below wr.heap.size wr wq → wq.cell? ⟨blk, h, none⟩ = some (.int .i64 x) from fun wq hb => by rw [hx]; exact ((HRI.out.below hb).cell h (by omega)).1)
      have HY := Lib.hid (show ∀ wq, Below wr.heap.size wr wq → wq.cell? ⟨blk, a, none⟩ = some (.int .i64 y) from fun wq hb => by rw [hy]; exact ((HRI.out.below hb).cell a (by omega)).1)
      have HCQ := Lib.hid (HC.out.q HRI.out x y (by rw [hx]; exact HRI.out.lt _ (by omega)) (by rw [hy]; exact HRI.out.lt _ (by omega)))
      have hlo : d a < d h := HL.out a h (Nat.le_refl _) (by omega) (by rw [← HM.out]; omega) (by omega)
      have HXY := Lib.hid (show x = d h ∧ y = d a ∧ y < x from ⟨hx, hy, by rw [hx, hy]; exact hlo⟩)
      clear hx hy hlo
      by_cases hk : cf x y < 0
      · go_wp2
        refine wp_region_below (by kernel_rfl) (by kernel_rfl) ?_
        repeat (first | ((with_reducible apply q_skip); (case hw => rfl); (try simp only [Act.put, List.setIfInBounds_toArray, List.set_cons_zero, List.set_cons_succ])) | ((with_reducible refine at_qcallv ?_); refine q_call (.int .i64 (cf x y)) 45 #[.int .i64 x, .int .i64 y, cb] (by rfl) (fun wq hq => by go_simp) HCQ.out ?_; (try simp only [Act.put, List.setIfInBounds_toArray, List.set_cons_zero, List.set_cons_succ])) | ((with_reducible apply q_val); (case hw => rfl); (case hv => intro wq hbq; have hcx := HX.out wq hbq; have hcy := HY.out wq hbq; go_simp; try rfl); (try simp only [Act.put, List.setIfInBounds_toArray, List.set_cons_zero, List.set_cons_succ])))
        refine q_nil ?_
        intro w4 hb4
        have wh1 := wrapN (z := (h : Int) + 1) (n := h + 1) (by omega) (by omega)
        go_wp2
        go_roundg (j - (h + 1))
        case measure => omega
        case rel =>
          obtain ⟨x1, x2, x3⟩ := HXY.out
          refine ⟨h + 1, j, by go_num, rfl, by omega, by omega, hj, rfl, fun k h1 h2 => ?_, HRR.out, HRI.out.below hb4⟩
          have hk' : ltK K (d h) (d a) := by rw [← x1, ← x2]; exact .inl ((HCF.out _ _).1 hk)
          by_cases e : k = h
          · subst e; exact hk'
          · exact ltK_trans (HS.out k h (by rw [← HM.out]; omega) (by omega) (by omega)) hk'
      · go_wp2
        refine wp_region_below (by kernel_rfl) (by kernel_rfl) ?_
        repeat (first | ((with_reducible apply q_skip); (case hw => rfl); (try simp only [Act.put, List.setIfInBounds_toArray, List.set_cons_zero, List.set_cons_succ])) | ((with_reducible refine at_qcallv ?_); refine q_call (.int .i64 (cf x y)) 45 #[.int .i64 x, .int .i64 y, cb] (by rfl) (fun wq hq => by go_simp) HCQ.out ?_; (try simp only [Act.put, List.setIfInBounds_toArray, List.set_cons_zero, List.set_cons_succ])) | ((with_reducible apply q_val); (case hw => rfl); (case hv => intro wq hbq; have hcx := HX.out wq hbq; have hcy := HY.out wq hbq; go_simp; try rfl); (try simp only [Act.put, List.setIfInBounds_toArray, List.set_cons_zero, List.set_cons_succ])))
        refine q_nil ?_
        intro w4 hb4
        go_wp2
        go_roundg (h - i)
        case measure => omega
        case rel =>
          obtain ⟨x1, x2, x3⟩ := HXY.out
          refine ⟨i, h, rfl, rfl, hi, by omega, by omega, rfl, HLL.out, fun k h1 h2 => ?_, HRI.out.below hb4⟩
          have hk' : ltK K (d a) (d h) := by rw [← x1, ← x2]; exact ltK_no x3 (fun h => by have := (HCF.out _ _).2 h; omega)
          by_cases e : k = h
          · subst e; exact hk'
          · exact ltK_trans hk' (HS.out h k (by rw [← HM.out]; omega) (by omega) (by omega))
    · obtain rfl : i = j := by omega
      have END := Lib.hid (show PermOn a b d (rot a m i d) ∧ Srt K a b (rot a m i d) from by
        have hm := HM.out
        subst hm
        exact ⟨(rot_perm d (by omega) (by omega)).mono (Nat.le_refl _) hj, merge_lo HS.out hi hj HLL.out HRR.out⟩)
      clear HLL HRR HC HS HL HCF
      have wi := wrapN (z := (i : Int) - 1) (n := i - 1) (by omega) (by omega)
      go_wp2
      go_loopg [13] (i - 1 - a) (fun gh vk wr => ∃ k : Nat, vk = .int .i64 k ∧ a ≤ k ∧ k + 1 ≤ i ∧ gh = i - 1 - k ∧ RowI w0 wr blk n (rot a m (k + 1) d))
      case atStart => exact ⟨a, rfl, Nat.le_refl _, by omega, rfl, HRI.out.congr (by rw [HM.out]; exact (rot_right a (a + 1) d).symm)⟩
      case round =>
        clear HRI
        obtain ⟨k, rfl, h1, h2, rfl, hRk⟩ := hrel
        have HRK := Lib.hid hRk
        clear hRk
        by_cases hlt2 : k < i - 1
        · obtain ⟨q, hq⟩ : ∃ q, q = k + 1 := ⟨_, rfl⟩
          obtain ⟨dj, hdj⟩ : ∃ dj, dj = rot a m (k + 1) d := ⟨_, rfl⟩
          have HRD := Lib.hid (hdj ▸ HRK.out : RowI w0 wr blk n dj)
          have wk := wrapN (z := (k : Int) + 1) (n := q) (by omega) (by omega)
          have hkn : (k : Int) < (n : Int) := by omega
          have hqn : (q : Int) < (n : Int) := by omega
          have hki : (k : Int) < (i : Int) - 1 := by omega
          obtain ⟨⟨c1, c2⟩, ⟨f1, f2⟩, u, c3⟩ := HRD.out.two (p := k) (q := q) (by omega) (by omega) (.int .i64 (dj q))
          have HDJ := Lib.hid hdj
          have HQ := Lib.hid hq
          clear hdj hq HRK
          go_wp2
          go_region
          go_wp2
          go_roundg (i - 1 - q)
          case measure => have := HQ.out; omega
          case rel =>
            have hq := HQ.out
            refine ⟨q, by go_num, by omega, by omega, rfl, ((HRD.out.swap (by omega) (by omega) rfl).drew.congr ?_)⟩
            rw [HDJ.out, HM.out, hq]; exact rot_up d h1
        · obtain rfl : k = i - 1 := by omega
          go_wp2
          (try simp only [Exit.inBlock, Exit.then]); first | go_end0 | refine bodyPost_ret (results_none rfl _ _ _) rfl ?_
          exact ⟨rfl, _, HRK.out.congr (by rw [show i - 1 + 1 = i by omega]), END.out.1, END.out.2⟩

set_option maxRecDepth 100000 in
set_option maxHeartbeats 16000000 in
theorem symm_hi (blk n cap a m : Nat) (d : Nat → Nat) (K : Nat → Int) (cf : Nat → Nat → Int) (cb : Value) (w0 w : World) (hcf : ∀ x y, cf x y < 0 ↔ K x < K y) (hC : CmpAt w0 blk n cf cb) (hR : RowI w0 w blk n d)
    (ham : a + 1 < m) (hb : m + 1 ≤ n) (hs : Srt K a m d) (hl : Low a m (m + 1) d) :
    Calls Try.prog 57 #[.slice (some ⟨blk, 0, none⟩) n cap, .int .i64 a, .int .i64 m, .int .i64 ((m + 1 : Nat) : Int), fvS cb] w fun e w' => e = .returned (.tuple #[]) ∧ ∃ d', RowI w0 w' blk n d' ∧ PermOn a (m + 1) d d' ∧ Srt K a (m + 1) d' := by
  have hsz := hR.sz
  have H0 := Lib.hid hR
  have HC := Lib.hid hC
  have HS := Lib.hid hs
  have HL := Lib.hid hl
  have HCF := Lib.hid hcf
  clear hR hC hs hl hcf
  obtain ⟨b, hbe⟩ : ∃ b, b = m + 1 := ⟨_, rfl⟩
  rw [← hbe]
  obtain ⟨l, hl⟩ : ∃ l, l = m - a := ⟨_, rfl⟩
  have wm := wrapN (z := (m : Int) - (a : Int)) (n := l) (by omega) (by omega)
  have hl1 : ((l : Int) == 1) = false := by rw [beq_eq_false_iff_ne]; omega
  have wb := wrapN (z := (b : Int) - (m : Int)) (n := 1) (by omega) (by omega)
  have HM := Lib.hid hbe
  have hmn : m < n := by omega
  have hmnz : (m : Int) < (n : Int) := by omega
  clear hbe hl
  unfold fvS
  go_enter Try.func57, Try.ntmps57
  go_wp2
  go_loopg [14, 15] (m - a) (fun gh vi vj wr => ∃ i j : Nat, vi = .int .i64 i ∧ vj = .int .i64 j ∧ a ≤ i ∧ i ≤ j ∧ j ≤ m ∧ gh = j - i ∧ (∀ k, a ≤ k → k < i → ltK K (d k) (d m)) ∧ (∀ k, j ≤ k → k < m → ltK K (d m) (d k)) ∧ RowI w0 wr blk n d)
  case atStart => exact ⟨a, m, rfl, rfl, Nat.le_refl _, by omega, Nat.le_refl _, rfl, fun k h1 h2 => by omega, fun k h1 h2 => by omega, H0.out⟩
  case round =>
    clear H0
    obtain ⟨i, j, rfl, rfl, hi, hij, hj, rfl, hll, hrr, hRi⟩ := hrel
    have HLL := Lib.hid hll
    have HRR := Lib.hid hrr
    have HRI := Lib.hid hRi
    clear hll hrr hRi
    by_cases hlt : i < j
    · obtain ⟨h, hh⟩ : ∃ h, h = (i + j) / 2 := ⟨_, rfl⟩
      have hh2 := half_lt hlt
      rw [← hh] at hh2
      have hz : ((i : Int) + (j : Int)) / 2 = (h : Int) := by omega
      clear hh
      obtain ⟨x, hx⟩ : ∃ x, x = d m := ⟨_, rfl⟩
      obtain ⟨y, hy⟩ : ∃ y, y = d h := ⟨_, rfl⟩
      have hhn : (h : Int) < (n : Int) := by omega
      have HX := Lib.hid (show ∀ wq, Below wr.heap.size wr wq → wq.cell? ⟨blk, m, none⟩ = some (.int .i64 x) from fun wq hb => by rw [hx]; exact ((HRI.out.below hb).cell m (by omega)).1)
      have HY := Lib.hid (show ∀ wq, Below wr.heap.size wr wq → wq.cell? ⟨blk, h, none⟩ = some (.int .i64 y) from fun wq hb => by rw [hy]; exact ((HRI.out.below hb).cell h (by omega)).1)
      have HCQ := Lib.hid (HC.out.q HRI.out x y (by rw [hx]; exact HRI.out.lt _ (by omega)) (by rw [hy]; exact HRI.out.lt _ (by omega)))
      have hlo : d h < d m := HL.out h m (by omega) (by omega) (Nat.le_refl _) (by omega)
      have HXY := Lib.hid (show x = d m ∧ y = d h ∧ y < x from ⟨hx, hy, by rw [hx, hy]; exact hlo⟩)
      clear hx hy hlo
      by_cases hk : cf x y < 0
      · have hdk : decide (cf x y < 0) = true := decide_eq_true hk
        go_wp2
        refine wp_region_below (by kernel_rfl) (by kernel_rfl) ?_
        repeat (first | ((with_reducible apply q_skip); (case hw => rfl); (try simp only [Act.put, List.setIfInBounds_toArray, List.set_cons_zero, List.set_cons_succ])) | ((with_reducible refine at_qcallv ?_); refine q_call (.int .i64 (cf x y)) 45 #[.int .i64 x, .int .i64 y, cb] (by rfl) (fun wq hq => by go_simp) HCQ.out ?_; (try simp only [Act.put, List.setIfInBounds_toArray, List.set_cons_zero, List.set_cons_succ])) | ((with_reducible apply q_val); (case hw => rfl); (case hv => intro wq hbq; have hcx := HX.out wq hbq; have hcy := HY.out wq hbq; go_simp; try rfl); (try simp only [Act.put, List.setIfInBounds_toArray, List.set_cons_zero, List.set_cons_succ])))
        refine q_nil ?_
        intro w4 hb4
        go_wp2
        go_roundg (h - i)
        case measure => omega
        case rel =>
          obtain ⟨x1, x2, x3⟩ := HXY.out
          refine ⟨i, h, rfl, rfl, hi, by omega, by omega, rfl, HLL.out, fun k h1 h2 => ?_, HRI.out.below hb4⟩
          have hk' : ltK K (d m) (d h) := by rw [← x1, ← x2]; exact .inl ((HCF.out _ _).1 hk)
          by_cases e : k = h
          · subst e; exact hk'
          · exact ltK_trans hk' (HS.out h k (by omega) (by omega) (by omega))
      · have hdk : decide (cf x y < 0) = false := decide_eq_false hk
        go_wp2
        refine wp_region_below (by kernel_rfl) (by kernel_rfl) ?_
        repeat (first | ((with_reducible apply q_skip); (case hw => rfl); (try simp only [Act.put, List.setIfInBounds_toArray, List.set_cons_zero, List.set_cons_succ])) | ((with_reducible refine at_qcallv ?_); refine q_call (.int .i64 (cf x y)) 45 #[.int .i64 x, .int .i64 y, cb] (by rfl) (fun wq hq => by go_simp) HCQ.out ?_; (try simp only [Act.put, List.setIfInBounds_toArray, List.set_cons_zero, List.set_cons_succ])) | ((with_reducible apply q_val); (case hw => rfl); (case hv => intro wq hbq; have hcx := HX.out wq hbq; have hcy := HY.out wq hbq; go_simp; try rfl); (try simp only [Act.put, List.setIfInBounds_toArray, List.set_cons_zero, List.set_cons_succ])))
        refine q_nil ?_
        intro w4 hb4
        have wh1 := wrapN (z := (h : Int) + 1) (n := h + 1) (by omega) (by omega)
        go_wp2
        go_roundg (j - (h + 1))
        case measure => omega
        case rel =>
          obtain ⟨x1, x2, x3⟩ := HXY.out
          refine ⟨h + 1, j, by go_num, rfl, by omega, by omega, hj, rfl, fun k h1 h2 => ?_, HRR.out, HRI.out.below hb4⟩
          have hk' : ltK K (d h) (d m) := by rw [← x1, ← x2]; exact ltK_no x3 (fun h => by have := (HCF.out _ _).2 h; omega)
          by_cases e : k = h
          · subst e; exact hk'
          · exact ltK_trans (HS.out k h (by omega) (by omega) (by omega)) hk'
    · obtain rfl : i = j := by omega
      have END := Lib.hid (show PermOn a b d (rot i m b d) ∧ Srt K a b (rot i m b d) from by
        have hm := HM.out
        subst hm
        exact ⟨(rot_perm d (by omega) (by omega)).mono hi (Nat.le_refl _), merge_hi HS.out hi hj HLL.out HRR.out⟩)
      clear HLL HRR HC HS HL HCF
      go_wp2
      go_loopg [17] (m - i) (fun gh vk wr => ∃ k : Nat, vk = .int .i64 k ∧ i ≤ k ∧ k ≤ m ∧ gh = k - i ∧ RowI w0 wr blk n (rot k m b d))
      case atStart => exact ⟨m, rfl, hj, Nat.le_refl _, rfl, HRI.out.congr (rot_left m b d).symm⟩
      case round =>
        clear HRI
        obtain ⟨k, rfl, h1, h2, rfl, hRk⟩ := hrel
        have HRK := Lib.hid hRk
        clear hRk
        by_cases hlt2 : i < k
        · obtain ⟨q, hq⟩ : ∃ q, q = k - 1 := ⟨_, rfl⟩
          obtain ⟨dj, hdj⟩ : ∃ dj, dj = rot k m b d := ⟨_, rfl⟩
          have HRD := Lib.hid (hdj ▸ HRK.out : RowI w0 wr blk n dj)
          have wk := wrapN (z := (k : Int) - 1) (n := q) (by omega) (by omega)
          have hkn : (k : Int) < (n : Int) := by omega
          have hqn : (q : Int) < (n : Int) := by omega
          obtain ⟨⟨c1, c2⟩, ⟨f1, f2⟩, u, c3⟩ := HRD.out.two (p := k) (q := q) (by omega) (by omega) (.int .i64 (dj q))
          have HDJ := Lib.hid hdj
          have HQ := Lib.hid hq
          clear hdj hq HRK
          go_wp2
          go_region
          go_wp2
          go_roundg (q - i)
          case measure => have := HQ.out; omega
          case rel =>
            have hq := HQ.out
            refine ⟨q, by go_num, by omega, by omega, rfl, ((HRD.out.swap (by omega) (by omega) rfl).drew.congr ?_)⟩
            rw [HDJ.out, HM.out, hq]; exact rot_down d (by omega) h2
        · obtain rfl : k = i := by omega
          go_wp2
          (try simp only [Exit.inBlock, Exit.then]); first | go_end0 | refine bodyPost_ret (results_none rfl _ _ _) rfl ?_
          exact ⟨rfl, _, HRK.out, END.out.1, END.out.2⟩
end Go.Proofs.Ytanfhjfpdgjphaa
