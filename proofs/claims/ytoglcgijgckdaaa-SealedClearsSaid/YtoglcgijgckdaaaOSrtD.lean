/- slices' symMergeCmpFunc at orders, in general. Condition: as at the insertion sort. (Printed by mksym.py.) -/
import Derived.Test.YtoglcgijgckdaaaOSrtC
namespace Go.Proofs.Ytoglcgijgckdaaa
set_option linter.unusedVariables false
set_option linter.unusedSimpArgs false
open Go.RowKit

/-- what a merge of the stretches from a to m and from m to b does -/
def SymC (L : Nat → Array Value) (K : Nat → Int) (cb : Value) (blk n cap a m b : Nat) (d : Nat → Nat) (w0 w : World) : Prop :=
  Calls Try.prog 21 #[.slice (some ⟨blk, 0, none⟩) n cap, .int .i64 a, .int .i64 m, .int .i64 b, .func (.func 14) #[] #[cb]] w fun e w' => e = .returned (.tuple #[]) ∧ ∃ d', RowJ L w0 w' blk n d' ∧ PermOn a b d d' ∧ Srt K a b d'
theorem sym_fin {K : Nat → Int} {a s mid e b : Nat} {d d1 d2 d3 : Nat → Nat} (hp0 : PermOn a b d d1) (h1 : a ≤ mid) (h2 : mid ≤ b) (hh : Halves K a s mid e b d1) (p1 : PermOn a mid d1 d2) (q1 : Srt K a mid d2) (p2 : PermOn mid b d2 d3) (q2 : Srt K mid b d3) :
    PermOn a b d d3 ∧ Srt K a b d3 :=
  ⟨(hp0.trans (p1.mono (Nat.le_refl _) h2)).trans (p2.mono h1 (Nat.le_refl _)), joined hh.lt p1 q1 p2 q2⟩
theorem low_congr {a m b : Nat} {d d' : Nat → Nat} (h : Low a m b d) (e : ∀ k, a ≤ k → d' k = d k) : Low a m b d' := fun x y h1 h2 h3 h4 => by rw [e x h1, e y (by omega)]; exact h x y h1 h2 h3 h4

set_option maxRecDepth 100000 in
set_option maxHeartbeats 64000000 in
theorem symm_up (L : Nat → Array Value) (blk n cap a m b s0 mid t : Nat) (d : Nat → Nat) (K : Nat → Int) (cf : Nat → Nat → Int) (cb : Value) (w0 w : World) (hcf : ∀ x y, cf x y < 0 ↔ K x < K y) (hC : CmpAt L w0 blk n cf cb) (hR : RowJ L w0 w blk n d)
    (ham : a + 1 < m) (hmb : m + 1 < b) (hb : b ≤ n) (hs : Srt K a m d) (hs' : Srt K m b d) (hl : Low a m b d) (hmid : mid = (a + b) / 2) (ht : t = mid + m) (hcase : mid < m ∧ s0 + b = t)
    (IH : ∀ a' m' b' d' w', b' - a' < b - a → a' < m' → m' < b' → b' ≤ n → Srt K a' m' d' → Srt K m' b' d' → Low a' m' b' d' → RowJ L w0 w' blk n d' → SymC L K cb blk n cap a' m' b' d' w0 w') :
    SymC L K cb blk n cap a m b d w0 w := by
  have hsz := hR.sz
  have H0 := Lib.hid hR
  have HC := Lib.hid hC
  have HS := Lib.hid hs
  have HS' := Lib.hid hs'
  have HL := Lib.hid hl
  have HCF := Lib.hid hcf
  have HI := Lib.hid IH
  clear hR hC hs hs' hl hcf IH
  have B0 : a < mid ∧ mid < b ∧ a ≤ s0 ∧ s0 ≤ mid ∧ mid ≤ m ∧ mid ≤ mid ∧ t < 2000000000000 := by omega
  obtain ⟨b1, b2, b3, b4, b5, b6, b7⟩ := B0
  have HB := Lib.hid (show ∀ c, s0 ≤ c → c < mid → a ≤ c ∧ c < m ∧ m ≤ t - 1 - c ∧ t - 1 - c < b from fun c h1 h2 => by omega)
  have HE := Lib.hid (show ∀ s, s0 ≤ s → s ≤ mid → m ≤ t - s ∧ t - s ≤ b ∧ t - s + s = mid + m ∧ (s = s0 → s = a ∨ t - s = b) ∧ (s = mid → s = m ∨ t - s = m) ∧ s ≤ mid ∧ t - s + s = t from fun s h1 h2 => by omega)
  obtain ⟨l, hl⟩ : ∃ l, l = m - a := ⟨_, rfl⟩
  obtain ⟨l2, hl2⟩ : ∃ l, l = b - m := ⟨_, rfl⟩
  obtain ⟨p, hp⟩ : ∃ p, p = t - 1 := ⟨_, rfl⟩
  have wm := wrapN (z := (m : Int) - (a : Int)) (n := l) (by omega) (by omega)
  have hl1 : ((l : Int) == 1) = false := by rw [beq_eq_false_iff_ne]; omega
  have wb := wrapN (z := (b : Int) - (m : Int)) (n := l2) (by omega) (by omega)
  have hl3 : ((l2 : Int) == 1) = false := by rw [beq_eq_false_iff_ne]; omega
  have zmid : ((a : Int) + (b : Int)) / 2 = (mid : Int) := by omega
  have wt := wrapN (z := (mid : Int) + (m : Int)) (n := t) (by omega) (by omega)
  have wp1 := wrapN (z := (t : Int) - 1) (n := p) (by omega) (by omega)
  obtain ⟨hcase, hs0b⟩ := hcase
  have ws0 := wrapN (z := (t : Int) - (b : Int)) (n := s0) (by omega) (by omega)
  have hmm : (mid : Int) < (m : Int) := by omega
  have HP := Lib.hid hp
  have hpt : p + 1 = t := by omega
  clear hp hl hl2 hmid ht
  unfold SymC
  go_enter Try.func21, Try.ntmps21
  go_wp2
  go_loopg [20, 21] (mid - s0) (fun gh vs vr wr => ∃ s r : Nat, vs = .int .i64 s ∧ vr = .int .i64 r ∧ s0 ≤ s ∧ s ≤ r ∧ r ≤ mid ∧ gh = r - s ∧ (s = s0 ∨ ltK K (d (s - 1)) (d (t - s))) ∧ (r = mid ∨ ltK K (d (t - 1 - r)) (d r)) ∧ RowJ L w0 wr blk n d)
  case atStart => exact ⟨s0, mid, by go_num, rfl, Nat.le_refl _, b4, Nat.le_refl _, rfl, .inl rfl, .inl rfl, H0.out⟩
  case round =>
    clear H0
    obtain ⟨s, r, rfl, rfl, hs0, hsr, hr0, rfl, hll, hrr, hRi⟩ := hrel
    have HLL := Lib.hid hll
    have HRR := Lib.hid hrr
    have HRI := Lib.hid hRi
    clear hll hrr hRi
    by_cases hlt : s < r
    · obtain ⟨c, hc⟩ : ∃ h, h = (s + r) / 2 := ⟨_, rfl⟩
      have hh2 := half_lt hlt
      rw [← hc] at hh2
      have hz : ((s : Int) + (r : Int)) / 2 = (c : Int) := by omega
      clear hc
      obtain ⟨k1, k2, k3, k4⟩ := HB.out c (by omega) (by omega)
      obtain ⟨q, hq⟩ : ∃ q, q = t - 1 - c := ⟨_, rfl⟩
      rw [← hq] at k3 k4
      have wq1 := wrapN (z := (p : Int) - (c : Int)) (n := q) (by omega) (by omega)
      obtain ⟨x, hx⟩ : ∃ x, x = d q := ⟨_, rfl⟩
      obtain ⟨y, hy⟩ : ∃ y, y = d c := ⟨_, rfl⟩
      have hcn : (c : Int) < (n : Int) := by omega
      have hqn : (q : Int) < (n : Int) := by omega
      obtain ⟨A5, hgA5, hXA5⟩ := HRI.out.row
      have HX := Lib.hid (show q * 5 + 5 ≤ A5.size ∧ A5.extract (q * 5) (q * 5 + 5) = L x from by rw [hx]; exact hXA5 q (by omega))
      have HY := Lib.hid (show c * 5 + 5 ≤ A5.size ∧ A5.extract (c * 5) (c * 5 + 5) = L y from by rw [hy]; exact hXA5 c (by omega))
      clear hXA5
      have HCQ := Lib.hid (HC.out.q HRI.out x y (by rw [hx]; exact HRI.out.lt _ (by omega)) (by rw [hy]; exact HRI.out.lt _ (by omega)))
      have hlo : d c < d q := HL.out c q k1 k2 k3 k4
      have HXY := Lib.hid (show x = d q ∧ y = d c ∧ y < x ∧ q = t - 1 - c from ⟨hx, hy, by rw [hx, hy]; exact hlo, hq⟩)
      clear hx hy hlo hq
      by_cases hk : cf x y < 0
      · have hdk : decide (cf x y < 0) = true := decide_eq_true hk
        go_wp2
        refine wp_region_below (by kernel_rfl) (by kernel_rfl) ?_
        repeat (first | ((with_reducible apply q_skip); (case hw => rfl); (try simp only [Act.put, List.setIfInBounds_toArray, List.set_cons_zero, List.set_cons_succ])) | ((with_reducible refine at_qload 31 ?_); refine q_load_part (by rfl) 31 _ rfl (blk) (q * 5) rfl _ (A5) _ 5 (hgA5) Try.underlying31 rfl (by kernel_rfl) (HX.out.1) (L x) (HX.out.2) ?_; try simp only [Act.put, List.setIfInBounds_toArray, List.set_cons_zero, List.set_cons_succ]) | ((with_reducible refine at_qload 31 ?_); refine q_load_part (by rfl) 31 _ rfl (blk) (c * 5) rfl _ (A5) _ 5 (hgA5) Try.underlying31 rfl (by kernel_rfl) (HY.out.1) (L y) (HY.out.2) ?_; try simp only [Act.put, List.setIfInBounds_toArray, List.set_cons_zero, List.set_cons_succ]) | ((with_reducible refine at_qcallv ?_); refine q_call (.int .i64 (cf x y)) 14 #[.agg (L x), .agg (L y), cb] (by rfl) (fun wq hq => by go_simp) HCQ.out ?_; (try simp only [Act.put, List.setIfInBounds_toArray, List.set_cons_zero, List.set_cons_succ])) | ((with_reducible apply q_val); (case hw => rfl); (case hv => intro wq hbq; go_simp; try rfl); (try simp only [Act.put, List.setIfInBounds_toArray, List.set_cons_zero, List.set_cons_succ])))
        refine q_nil ?_
        intro w4 hb4
        go_wp2
        go_roundg (c - s)
        case measure => omega
        case rel =>
          obtain ⟨x1, x2, x3, x4⟩ := HXY.out
          refine ⟨s, c, rfl, rfl, hs0, by omega, by omega, rfl, HLL.out, .inr ?_, HRI.out.below hb4⟩
          rw [← x4, ← x1, ← x2]; exact .inl ((HCF.out _ _).1 hk)
      · have hdk : decide (cf x y < 0) = false := decide_eq_false hk
        go_wp2
        refine wp_region_below (by kernel_rfl) (by kernel_rfl) ?_
        repeat (first | ((with_reducible apply q_skip); (case hw => rfl); (try simp only [Act.put, List.setIfInBounds_toArray, List.set_cons_zero, List.set_cons_succ])) | ((with_reducible refine at_qload 31 ?_); refine q_load_part (by rfl) 31 _ rfl (blk) (q * 5) rfl _ (A5) _ 5 (hgA5) Try.underlying31 rfl (by kernel_rfl) (HX.out.1) (L x) (HX.out.2) ?_; try simp only [Act.put, List.setIfInBounds_toArray, List.set_cons_zero, List.set_cons_succ]) | ((with_reducible refine at_qload 31 ?_); refine q_load_part (by rfl) 31 _ rfl (blk) (c * 5) rfl _ (A5) _ 5 (hgA5) Try.underlying31 rfl (by kernel_rfl) (HY.out.1) (L y) (HY.out.2) ?_; try simp only [Act.put, List.setIfInBounds_toArray, List.set_cons_zero, List.set_cons_succ]) | ((with_reducible refine at_qcallv ?_); refine q_call (.int .i64 (cf x y)) 14 #[.agg (L x), .agg (L y), cb] (by rfl) (fun wq hq => by go_simp) HCQ.out ?_; (try simp only [Act.put, List.setIfInBounds_toArray, List.set_cons_zero, List.set_cons_succ])) | ((with_reducible apply q_val); (case hw => rfl); (case hv => intro wq hbq; go_simp; try rfl); (try simp only [Act.put, List.setIfInBounds_toArray, List.set_cons_zero, List.set_cons_succ])))
        refine q_nil ?_
        intro w4 hb4
        have wh1 := wrapN (z := (c : Int) + 1) (n := c + 1) (by omega) (by omega)
        go_wp2
        go_roundg (r - (c + 1))
        case measure => omega
        case rel =>
          obtain ⟨x1, x2, x3, x4⟩ := HXY.out
          refine ⟨c + 1, r, by go_num, rfl, by omega, by omega, hr0, rfl, .inr ?_, HRR.out, HRI.out.below hb4⟩
          rw [show c + 1 - 1 = c by omega, show t - (c + 1) = q by omega, ← x1, ← x2]; exact ltK_no x3 (fun h => by have := (HCF.out _ _).2 h; omega)
    · obtain rfl : s = r := by omega
      obtain ⟨e, he⟩ : ∃ e, e = t - s := ⟨_, rfl⟩
      obtain ⟨e1, e2, e3, e4, e5, e6, e7⟩ := HE.out s hs0 hr0
      rw [← he] at e1 e2 e3 e4 e5 e7
      have we := wrapN (z := (t : Int) - (s : Int)) (n := e) (by omega) (by omega)
      have hsm : s ≤ m := by omega
      have has : a ≤ s := by omega
      have HH := Lib.hid (show Halves K a s mid e b (rot s m e d) from halves HS.out HS'.out HL.out has hsm e1 e2 e3 (by
          rcases HLL.out with h | h
          · rcases e4 h with h | h
            · exact .inl h
            · exact .inr (.inl h)
          · rw [he]; exact .inr (.inr h)) (by
          rcases HRR.out with h | h
          · rcases e5 h with h | h
            · exact .inl h
            · exact .inr (.inl h)
          · rw [show t - 1 - s = e - 1 by omega] at h; exact .inr (.inr h)))
      have P0 := Lib.hid ((rot_perm d hsm e1).mono has e2)
      have N0 := Lib.hid (show s = m ∨ e = m → rot s m e d = d from fun h => by
        rcases h with h | h
        · rw [h]; exact rot_left _ _ _
        · rw [h]; exact rot_right _ _ _)
      have F0 := Lib.hid (show s = a ∨ s = mid → Srt K a mid (rot s m e d) from fun h => by
        rcases h with h | h
        · have := HH.out.s2; rw [h] at this ⊢; exact this
        · have := HH.out.s1; rw [h] at this ⊢; exact this)
      have G0 := Lib.hid (show e = mid ∨ e = b → Srt K mid b (rot s m e d) from fun h => by
        rcases h with h | h
        · have := HH.out.s4; rw [h] at this ⊢; exact this
        · have := HH.out.s3; rw [h] at this ⊢; exact this)
      have I1 := Lib.hid (fun (wx : World) (hx : RowJ L w0 wx blk n (rot s m e d)) (h1 : a < s) (h2 : s < mid) => show SymC L K cb blk n cap a s mid (rot s m e d) w0 wx from
        HI.out a s mid _ wx (by omega) h1 h2 (by omega) HH.out.s1 HH.out.s2 HH.out.l1 hx)
      have I2 := Lib.hid (fun (wx : World) (d2 : Nat → Nat) (hx : RowJ L w0 wx blk n d2) (p : PermOn a mid (rot s m e d) d2) (h1 : mid < e) (h2 : e < b) => show SymC L K cb blk n cap mid e b d2 w0 wx from
        HI.out mid e b _ wx (by omega) h1 h2 (by omega) (HH.out.s3.congr (fun k hk _ => p.out (by omega))) (HH.out.s4.congr (fun k hk _ => p.out (by omega))) (low_congr HH.out.l2 (fun k hk => p.out (by omega))) hx)
      have FIN := Lib.hid (fun (wx : World) (d2 d3 : Nat → Nat) (hx : RowJ L w0 wx blk n d3) (p1 : PermOn a mid (rot s m e d) d2) (q1 : Srt K a mid d2) (p2 : PermOn mid b d2 d3) (q2 : Srt K mid b d3) =>
        show ∃ d', RowJ L w0 wx blk n d' ∧ PermOn a b d d' ∧ Srt K a b d' from ⟨d3, hx, sym_fin P0.out (by omega) (by omega) HH.out p1 q1 p2 q2⟩)
      clear HI HS HS' HL HC HCF HLL HRR HB HE HH P0 he
      unfold SymC at I1 I2
      by_cases hA : s < m
      · by_cases hB : m < e
        · by_cases hC1 : a < s
          · by_cases hD : e < b
            · go_wp2_with (first | (go_at_call 22; (with_reducible refine (rotate_any L blk n cap s m e d _ w0 _ HRI.out hA hB (by omega)).mono ?_); rintro ex wx ⟨rfl, hx0⟩) | (go_at_call 21; (with_reducible refine (I2.out _ d2 hx1 p1 (by omega) hD).mono ?_); rintro ex wz ⟨rfl, d3, hx2, p2, q2⟩) | (go_at_call 21; (with_reducible refine (I1.out _ hx0 hC1 (by omega)).mono ?_); rintro ex wy ⟨rfl, d2, hx1, p1, q1⟩))
              all_goals ((try simp only [Exit.inBlock, Exit.then]); first | go_end0 | refine bodyPost_ret (results_none rfl _ _ _) rfl ?_)
              all_goals exact ⟨rfl, FIN.out _ d2 _ hx2 p1 q1 p2 q2⟩
            · go_wp2_with (first | (go_at_call 22; (with_reducible refine (rotate_any L blk n cap s m e d _ w0 _ HRI.out hA hB (by omega)).mono ?_); rintro ex wx ⟨rfl, hx0⟩) | (go_at_call 21; (with_reducible refine (I1.out _ hx0 hC1 (by omega)).mono ?_); rintro ex wy ⟨rfl, d2, hx1, p1, q1⟩))
              all_goals ((try simp only [Exit.inBlock, Exit.then]); first | go_end0 | refine bodyPost_ret (results_none rfl _ _ _) rfl ?_)
              all_goals exact ⟨rfl, FIN.out _ d2 _ hx1 p1 q1 (.refl _ _ _) ((G0.out (by omega)).congr (fun k hk _ => p1.out (by omega)))⟩
          · by_cases hD : e < b
            · go_wp2_with (first | (go_at_call 22; (with_reducible refine (rotate_any L blk n cap s m e d _ w0 _ HRI.out hA hB (by omega)).mono ?_); rintro ex wx ⟨rfl, hx0⟩) | (go_at_call 21; (with_reducible refine (I2.out _ _ hx0 (.refl _ _ _) (by omega) hD).mono ?_); rintro ex wz ⟨rfl, d3, hx2, p2, q2⟩))
              all_goals ((try simp only [Exit.inBlock, Exit.then]); first | go_end0 | refine bodyPost_ret (results_none rfl _ _ _) rfl ?_)
              all_goals exact ⟨rfl, FIN.out _ _ _ hx2 (.refl _ _ _) (F0.out (by omega)) p2 q2⟩
            · go_wp2_with (first | (go_at_call 22; (with_reducible refine (rotate_any L blk n cap s m e d _ w0 _ HRI.out hA hB (by omega)).mono ?_); rintro ex wx ⟨rfl, hx0⟩))
              all_goals ((try simp only [Exit.inBlock, Exit.then]); first | go_end0 | refine bodyPost_ret (results_none rfl _ _ _) rfl ?_)
              all_goals exact ⟨rfl, FIN.out _ _ _ hx0 (.refl _ _ _) (F0.out (by omega)) (.refl _ _ _) (G0.out (by omega))⟩
        · by_cases hC1 : a < s
          · by_cases hD : e < b
            · have hx0 := HRI.out.congr (N0.out (by omega)).symm
              go_wp2_with (first | (go_at_call 21; (with_reducible refine (I2.out _ _ hx0 (.refl _ _ _) (by omega) hD).mono ?_); rintro ex wz ⟨rfl, d3, hx2, p2, q2⟩))
              all_goals ((try simp only [Exit.inBlock, Exit.then]); first | go_end0 | refine bodyPost_ret (results_none rfl _ _ _) rfl ?_)
              all_goals exact ⟨rfl, FIN.out _ _ _ hx2 (.refl _ _ _) (F0.out (by omega)) p2 q2⟩
            · have hx0 := HRI.out.congr (N0.out (by omega)).symm
              go_wp2
              all_goals ((try simp only [Exit.inBlock, Exit.then]); first | go_end0 | refine bodyPost_ret (results_none rfl _ _ _) rfl ?_)
              all_goals exact ⟨rfl, FIN.out _ _ _ hx0 (.refl _ _ _) (F0.out (by omega)) (.refl _ _ _) (G0.out (by omega))⟩
          · by_cases hD : e < b
            · have hx0 := HRI.out.congr (N0.out (by omega)).symm
              go_wp2_with (first | (go_at_call 21; (with_reducible refine (I2.out _ _ hx0 (.refl _ _ _) (by omega) hD).mono ?_); rintro ex wz ⟨rfl, d3, hx2, p2, q2⟩))
              all_goals ((try simp only [Exit.inBlock, Exit.then]); first | go_end0 | refine bodyPost_ret (results_none rfl _ _ _) rfl ?_)
              all_goals exact ⟨rfl, FIN.out _ _ _ hx2 (.refl _ _ _) (F0.out (by omega)) p2 q2⟩
            · have hx0 := HRI.out.congr (N0.out (by omega)).symm
              go_wp2
              all_goals ((try simp only [Exit.inBlock, Exit.then]); first | go_end0 | refine bodyPost_ret (results_none rfl _ _ _) rfl ?_)
              all_goals exact ⟨rfl, FIN.out _ _ _ hx0 (.refl _ _ _) (F0.out (by omega)) (.refl _ _ _) (G0.out (by omega))⟩
      · by_cases hB : m < e
        · by_cases hC1 : a < s
          · by_cases hD : e < b
            · have hx0 := HRI.out.congr (N0.out (by omega)).symm
              go_wp2_with (first | (go_at_call 21; (with_reducible refine (I1.out _ hx0 hC1 (by omega)).mono ?_); rintro ex wy ⟨rfl, d2, hx1, p1, q1⟩))
              all_goals ((try simp only [Exit.inBlock, Exit.then]); first | go_end0 | refine bodyPost_ret (results_none rfl _ _ _) rfl ?_)
              all_goals exact ⟨rfl, FIN.out _ d2 _ hx1 p1 q1 (.refl _ _ _) ((G0.out (by omega)).congr (fun k hk _ => p1.out (by omega)))⟩
            · have hx0 := HRI.out.congr (N0.out (by omega)).symm
              go_wp2_with (first | (go_at_call 21; (with_reducible refine (I1.out _ hx0 hC1 (by omega)).mono ?_); rintro ex wy ⟨rfl, d2, hx1, p1, q1⟩))
              all_goals ((try simp only [Exit.inBlock, Exit.then]); first | go_end0 | refine bodyPost_ret (results_none rfl _ _ _) rfl ?_)
              all_goals exact ⟨rfl, FIN.out _ d2 _ hx1 p1 q1 (.refl _ _ _) ((G0.out (by omega)).congr (fun k hk _ => p1.out (by omega)))⟩
          · by_cases hD : e < b
            · have hx0 := HRI.out.congr (N0.out (by omega)).symm
              go_wp2
              all_goals ((try simp only [Exit.inBlock, Exit.then]); first | go_end0 | refine bodyPost_ret (results_none rfl _ _ _) rfl ?_)
              all_goals exact ⟨rfl, FIN.out _ _ _ hx0 (.refl _ _ _) (F0.out (by omega)) (.refl _ _ _) (G0.out (by omega))⟩
            · have hx0 := HRI.out.congr (N0.out (by omega)).symm
              go_wp2
              all_goals ((try simp only [Exit.inBlock, Exit.then]); first | go_end0 | refine bodyPost_ret (results_none rfl _ _ _) rfl ?_)
              all_goals exact ⟨rfl, FIN.out _ _ _ hx0 (.refl _ _ _) (F0.out (by omega)) (.refl _ _ _) (G0.out (by omega))⟩
        · by_cases hC1 : a < s
          · by_cases hD : e < b
            · have hx0 := HRI.out.congr (N0.out (by omega)).symm
              go_wp2
              all_goals ((try simp only [Exit.inBlock, Exit.then]); first | go_end0 | refine bodyPost_ret (results_none rfl _ _ _) rfl ?_)
              all_goals exact ⟨rfl, FIN.out _ _ _ hx0 (.refl _ _ _) (F0.out (by omega)) (.refl _ _ _) (G0.out (by omega))⟩
            · have hx0 := HRI.out.congr (N0.out (by omega)).symm
              go_wp2
              all_goals ((try simp only [Exit.inBlock, Exit.then]); first | go_end0 | refine bodyPost_ret (results_none rfl _ _ _) rfl ?_)
              all_goals exact ⟨rfl, FIN.out _ _ _ hx0 (.refl _ _ _) (F0.out (by omega)) (.refl _ _ _) (G0.out (by omega))⟩
          · by_cases hD : e < b
            · have hx0 := HRI.out.congr (N0.out (by omega)).symm
              go_wp2
              all_goals ((try simp only [Exit.inBlock, Exit.then]); first | go_end0 | refine bodyPost_ret (results_none rfl _ _ _) rfl ?_)
              all_goals exact ⟨rfl, FIN.out _ _ _ hx0 (.refl _ _ _) (F0.out (by omega)) (.refl _ _ _) (G0.out (by omega))⟩
            · have hx0 := HRI.out.congr (N0.out (by omega)).symm
              go_wp2
              all_goals ((try simp only [Exit.inBlock, Exit.then]); first | go_end0 | refine bodyPost_ret (results_none rfl _ _ _) rfl ?_)
              all_goals exact ⟨rfl, FIN.out _ _ _ hx0 (.refl _ _ _) (F0.out (by omega)) (.refl _ _ _) (G0.out (by omega))⟩

set_option maxRecDepth 100000 in
set_option maxHeartbeats 64000000 in
theorem symm_dn (L : Nat → Array Value) (blk n cap a m b mid t : Nat) (d : Nat → Nat) (K : Nat → Int) (cf : Nat → Nat → Int) (cb : Value) (w0 w : World) (hcf : ∀ x y, cf x y < 0 ↔ K x < K y) (hC : CmpAt L w0 blk n cf cb) (hR : RowJ L w0 w blk n d)
    (ham : a + 1 < m) (hmb : m + 1 < b) (hb : b ≤ n) (hs : Srt K a m d) (hs' : Srt K m b d) (hl : Low a m b d) (hmid : mid = (a + b) / 2) (ht : t = mid + m) (hcase : m ≤ mid)
    (IH : ∀ a' m' b' d' w', b' - a' < b - a → a' < m' → m' < b' → b' ≤ n → Srt K a' m' d' → Srt K m' b' d' → Low a' m' b' d' → RowJ L w0 w' blk n d' → SymC L K cb blk n cap a' m' b' d' w0 w') :
    SymC L K cb blk n cap a m b d w0 w := by
  have hsz := hR.sz
  have H0 := Lib.hid hR
  have HC := Lib.hid hC
  have HS := Lib.hid hs
  have HS' := Lib.hid hs'
  have HL := Lib.hid hl
  have HCF := Lib.hid hcf
  have HI := Lib.hid IH
  clear hR hC hs hs' hl hcf IH
  have B0 : a < mid ∧ mid < b ∧ a ≤ a ∧ a ≤ m ∧ m ≤ m ∧ m ≤ mid ∧ t < 2000000000000 := by omega
  obtain ⟨b1, b2, b3, b4, b5, b6, b7⟩ := B0
  have HB := Lib.hid (show ∀ c, a ≤ c → c < m → a ≤ c ∧ c < m ∧ m ≤ t - 1 - c ∧ t - 1 - c < b from fun c h1 h2 => by omega)
  have HE := Lib.hid (show ∀ s, a ≤ s → s ≤ m → m ≤ t - s ∧ t - s ≤ b ∧ t - s + s = mid + m ∧ (s = a → s = a ∨ t - s = b) ∧ (s = m → s = m ∨ t - s = m) ∧ s ≤ mid ∧ t - s + s = t from fun s h1 h2 => by omega)
  obtain ⟨l, hl⟩ : ∃ l, l = m - a := ⟨_, rfl⟩
  obtain ⟨l2, hl2⟩ : ∃ l, l = b - m := ⟨_, rfl⟩
  obtain ⟨p, hp⟩ : ∃ p, p = t - 1 := ⟨_, rfl⟩
  have wm := wrapN (z := (m : Int) - (a : Int)) (n := l) (by omega) (by omega)
  have hl1 : ((l : Int) == 1) = false := by rw [beq_eq_false_iff_ne]; omega
  have wb := wrapN (z := (b : Int) - (m : Int)) (n := l2) (by omega) (by omega)
  have hl3 : ((l2 : Int) == 1) = false := by rw [beq_eq_false_iff_ne]; omega
  have zmid : ((a : Int) + (b : Int)) / 2 = (mid : Int) := by omega
  have wt := wrapN (z := (mid : Int) + (m : Int)) (n := t) (by omega) (by omega)
  have wp1 := wrapN (z := (t : Int) - 1) (n := p) (by omega) (by omega)
  have hmm : ¬ (mid : Int) < (m : Int) := by omega
  have HP := Lib.hid hp
  have hpt : p + 1 = t := by omega
  clear hp hl hl2 hmid ht
  unfold SymC
  go_enter Try.func21, Try.ntmps21
  go_wp2
  go_loopg [20, 21] (m - a) (fun gh vs vr wr => ∃ s r : Nat, vs = .int .i64 s ∧ vr = .int .i64 r ∧ a ≤ s ∧ s ≤ r ∧ r ≤ m ∧ gh = r - s ∧ (s = a ∨ ltK K (d (s - 1)) (d (t - s))) ∧ (r = m ∨ ltK K (d (t - 1 - r)) (d r)) ∧ RowJ L w0 wr blk n d)
  case atStart => exact ⟨a, m, rfl, rfl, Nat.le_refl _, b4, Nat.le_refl _, rfl, .inl rfl, .inl rfl, H0.out⟩
  case round =>
    clear H0
    obtain ⟨s, r, rfl, rfl, hs0, hsr, hr0, rfl, hll, hrr, hRi⟩ := hrel
    have HLL := Lib.hid hll
    have HRR := Lib.hid hrr
    have HRI := Lib.hid hRi
    clear hll hrr hRi
    by_cases hlt : s < r
    · obtain ⟨c, hc⟩ : ∃ h, h = (s + r) / 2 := ⟨_, rfl⟩
      have hh2 := half_lt hlt
      rw [← hc] at hh2
      have hz : ((s : Int) + (r : Int)) / 2 = (c : Int) := by omega
      clear hc
      obtain ⟨k1, k2, k3, k4⟩ := HB.out c (by omega) (by omega)
      obtain ⟨q, hq⟩ : ∃ q, q = t - 1 - c := ⟨_, rfl⟩
      rw [← hq] at k3 k4
      have wq1 := wrapN (z := (p : Int) - (c : Int)) (n := q) (by omega) (by omega)
      obtain ⟨x, hx⟩ : ∃ x, x = d q := ⟨_, rfl⟩
      obtain ⟨y, hy⟩ : ∃ y, y = d c := ⟨_, rfl⟩
      have hcn : (c : Int) < (n : Int) := by omega
      have hqn : (q : Int) < (n : Int) := by omega
      obtain ⟨A5, hgA5, hXA5⟩ := HRI.out.row
      have HX := Lib.hid (show q * 5 + 5 ≤ A5.size ∧ A5.extract (q * 5) (q * 5 + 5) = L x from by rw [hx]; exact hXA5 q (by omega))
      have HY := Lib.hid (show c * 5 + 5 ≤ A5.size ∧ A5.extract (c * 5) (c * 5 + 5) = L y from by rw [hy]; exact hXA5 c (by omega))
      clear hXA5
      have HCQ := Lib.hid (HC.out.q HRI.out x y (by rw [hx]; exact HRI.out.lt _ (by omega)) (by rw [hy]; exact HRI.out.lt _ (by omega)))
      have hlo : d c < d q := HL.out c q k1 k2 k3 k4
      have HXY := Lib.hid (show x = d q ∧ y = d c ∧ y < x ∧ q = t - 1 - c from ⟨hx, hy, by rw [hx, hy]; exact hlo, hq⟩)
      clear hx hy hlo hq
      by_cases hk : cf x y < 0
      · have hdk : decide (cf x y < 0) = true := decide_eq_true hk
        go_wp2
        refine wp_region_below (by kernel_rfl) (by kernel_rfl) ?_
        repeat (first | ((with_reducible apply q_skip); (case hw => rfl); (try simp only [Act.put, List.setIfInBounds_toArray, List.set_cons_zero, List.set_cons_succ])) | ((with_reducible refine at_qload 31 ?_); refine q_load_part (by rfl) 31 _ rfl (blk) (q * 5) rfl _ (A5) _ 5 (hgA5) Try.underlying31 rfl (by kernel_rfl) (HX.out.1) (L x) (HX.out.2) ?_; try simp only [Act.put, List.setIfInBounds_toArray, List.set_cons_zero, List.set_cons_succ]) | ((with_reducible refine at_qload 31 ?_); refine q_load_part (by rfl) 31 _ rfl (blk) (c * 5) rfl _ (A5) _ 5 (hgA5) Try.underlying31 rfl (by kernel_rfl) (HY.out.1) (L y) (HY.out.2) ?_; try simp only [Act.put, List.setIfInBounds_toArray, List.set_cons_zero, List.set_cons_succ]) | ((with_reducible refine at_qcallv ?_); refine q_call (.int .i64 (cf x y)) 14 #[.agg (L x), .agg (L y), cb] (by rfl) (fun wq hq => by go_simp) HCQ.out ?_; (try simp only [Act.put, List.setIfInBounds_toArray, List.set_cons_zero, List.set_cons_succ])) | ((with_reducible apply q_val); (case hw => rfl); (case hv => intro wq hbq; go_simp; try rfl); (try simp only [Act.put, List.setIfInBounds_toArray, List.set_cons_zero, List.set_cons_succ])))
        refine q_nil ?_
        intro w4 hb4
        go_wp2
        go_roundg (c - s)
        case measure => omega
        case rel =>
          obtain ⟨x1, x2, x3, x4⟩ := HXY.out
          refine ⟨s, c, rfl, rfl, hs0, by omega, by omega, rfl, HLL.out, .inr ?_, HRI.out.below hb4⟩
          rw [← x4, ← x1, ← x2]; exact .inl ((HCF.out _ _).1 hk)
      · have hdk : decide (cf x y < 0) = false := decide_eq_false hk
        go_wp2
        refine wp_region_below (by kernel_rfl) (by kernel_rfl) ?_
        repeat (first | ((with_reducible apply q_skip); (case hw => rfl); (try simp only [Act.put, List.setIfInBounds_toArray, List.set_cons_zero, List.set_cons_succ])) | ((with_reducible refine at_qload 31 ?_); refine q_load_part (by rfl) 31 _ rfl (blk) (q * 5) rfl _ (A5) _ 5 (hgA5) Try.underlying31 rfl (by kernel_rfl) (HX.out.1) (L x) (HX.out.2) ?_; try simp only [Act.put, List.setIfInBounds_toArray, List.set_cons_zero, List.set_cons_succ]) | ((with_reducible refine at_qload 31 ?_); refine q_load_part (by rfl) 31 _ rfl (blk) (c * 5) rfl _ (A5) _ 5 (hgA5) Try.underlying31 rfl (by kernel_rfl) (HY.out.1) (L y) (HY.out.2) ?_; try simp only [Act.put, List.setIfInBounds_toArray, List.set_cons_zero, List.set_cons_succ]) | ((with_reducible refine at_qcallv ?_); refine q_call (.int .i64 (cf x y)) 14 #[.agg (L x), .agg (L y), cb] (by rfl) (fun wq hq => by go_simp) HCQ.out ?_; (try simp only [Act.put, List.setIfInBounds_toArray, List.set_cons_zero, List.set_cons_succ])) | ((with_reducible apply q_val); (case hw => rfl); (case hv => intro wq hbq; go_simp; try rfl); (try simp only [Act.put, List.setIfInBounds_toArray, List.set_cons_zero, List.set_cons_succ])))
        refine q_nil ?_
        intro w4 hb4
        have wh1 := wrapN (z := (c : Int) + 1) (n := c + 1) (by omega) (by omega)
        go_wp2
        go_roundg (r - (c + 1))
        case measure => omega
        case rel =>
          obtain ⟨x1, x2, x3, x4⟩ := HXY.out
          refine ⟨c + 1, r, by go_num, rfl, by omega, by omega, hr0, rfl, .inr ?_, HRR.out, HRI.out.below hb4⟩
          rw [show c + 1 - 1 = c by omega, show t - (c + 1) = q by omega, ← x1, ← x2]; exact ltK_no x3 (fun h => by have := (HCF.out _ _).2 h; omega)
    · obtain rfl : s = r := by omega
      obtain ⟨e, he⟩ : ∃ e, e = t - s := ⟨_, rfl⟩
      obtain ⟨e1, e2, e3, e4, e5, e6, e7⟩ := HE.out s hs0 hr0
      rw [← he] at e1 e2 e3 e4 e5 e7
      have we := wrapN (z := (t : Int) - (s : Int)) (n := e) (by omega) (by omega)
      have hsm : s ≤ m := by omega
      have has : a ≤ s := by omega
      have HH := Lib.hid (show Halves K a s mid e b (rot s m e d) from halves HS.out HS'.out HL.out has hsm e1 e2 e3 (by
          rcases HLL.out with h | h
          · rcases e4 h with h | h
            · exact .inl h
            · exact .inr (.inl h)
          · rw [he]; exact .inr (.inr h)) (by
          rcases HRR.out with h | h
          · rcases e5 h with h | h
            · exact .inl h
            · exact .inr (.inl h)
          · rw [show t - 1 - s = e - 1 by omega] at h; exact .inr (.inr h)))
      have P0 := Lib.hid ((rot_perm d hsm e1).mono has e2)
      have N0 := Lib.hid (show s = m ∨ e = m → rot s m e d = d from fun h => by
        rcases h with h | h
        · rw [h]; exact rot_left _ _ _
        · rw [h]; exact rot_right _ _ _)
      have F0 := Lib.hid (show s = a ∨ s = mid → Srt K a mid (rot s m e d) from fun h => by
        rcases h with h | h
        · have := HH.out.s2; rw [h] at this ⊢; exact this
        · have := HH.out.s1; rw [h] at this ⊢; exact this)
      have G0 := Lib.hid (show e = mid ∨ e = b → Srt K mid b (rot s m e d) from fun h => by
        rcases h with h | h
        · have := HH.out.s4; rw [h] at this ⊢; exact this
        · have := HH.out.s3; rw [h] at this ⊢; exact this)
      have I1 := Lib.hid (fun (wx : World) (hx : RowJ L w0 wx blk n (rot s m e d)) (h1 : a < s) (h2 : s < mid) => show SymC L K cb blk n cap a s mid (rot s m e d) w0 wx from
        HI.out a s mid _ wx (by omega) h1 h2 (by omega) HH.out.s1 HH.out.s2 HH.out.l1 hx)
      have I2 := Lib.hid (fun (wx : World) (d2 : Nat → Nat) (hx : RowJ L w0 wx blk n d2) (p : PermOn a mid (rot s m e d) d2) (h1 : mid < e) (h2 : e < b) => show SymC L K cb blk n cap mid e b d2 w0 wx from
        HI.out mid e b _ wx (by omega) h1 h2 (by omega) (HH.out.s3.congr (fun k hk _ => p.out (by omega))) (HH.out.s4.congr (fun k hk _ => p.out (by omega))) (low_congr HH.out.l2 (fun k hk => p.out (by omega))) hx)
      have FIN := Lib.hid (fun (wx : World) (d2 d3 : Nat → Nat) (hx : RowJ L w0 wx blk n d3) (p1 : PermOn a mid (rot s m e d) d2) (q1 : Srt K a mid d2) (p2 : PermOn mid b d2 d3) (q2 : Srt K mid b d3) =>
        show ∃ d', RowJ L w0 wx blk n d' ∧ PermOn a b d d' ∧ Srt K a b d' from ⟨d3, hx, sym_fin P0.out (by omega) (by omega) HH.out p1 q1 p2 q2⟩)
      clear HI HS HS' HL HC HCF HLL HRR HB HE HH P0 he
      unfold SymC at I1 I2
      by_cases hA : s < m
      · by_cases hB : m < e
        · by_cases hC1 : a < s
          · by_cases hD : e < b
            · go_wp2_with (first | (go_at_call 22; (with_reducible refine (rotate_any L blk n cap s m e d _ w0 _ HRI.out hA hB (by omega)).mono ?_); rintro ex wx ⟨rfl, hx0⟩) | (go_at_call 21; (with_reducible refine (I2.out _ d2 hx1 p1 (by omega) hD).mono ?_); rintro ex wz ⟨rfl, d3, hx2, p2, q2⟩) | (go_at_call 21; (with_reducible refine (I1.out _ hx0 hC1 (by omega)).mono ?_); rintro ex wy ⟨rfl, d2, hx1, p1, q1⟩))
              all_goals ((try simp only [Exit.inBlock, Exit.then]); first | go_end0 | refine bodyPost_ret (results_none rfl _ _ _) rfl ?_)
              all_goals exact ⟨rfl, FIN.out _ d2 _ hx2 p1 q1 p2 q2⟩
            · go_wp2_with (first | (go_at_call 22; (with_reducible refine (rotate_any L blk n cap s m e d _ w0 _ HRI.out hA hB (by omega)).mono ?_); rintro ex wx ⟨rfl, hx0⟩) | (go_at_call 21; (with_reducible refine (I1.out _ hx0 hC1 (by omega)).mono ?_); rintro ex wy ⟨rfl, d2, hx1, p1, q1⟩))
              all_goals ((try simp only [Exit.inBlock, Exit.then]); first | go_end0 | refine bodyPost_ret (results_none rfl _ _ _) rfl ?_)
              all_goals exact ⟨rfl, FIN.out _ d2 _ hx1 p1 q1 (.refl _ _ _) ((G0.out (by omega)).congr (fun k hk _ => p1.out (by omega)))⟩
          · by_cases hD : e < b
            · go_wp2_with (first | (go_at_call 22; (with_reducible refine (rotate_any L blk n cap s m e d _ w0 _ HRI.out hA hB (by omega)).mono ?_); rintro ex wx ⟨rfl, hx0⟩) | (go_at_call 21; (with_reducible refine (I2.out _ _ hx0 (.refl _ _ _) (by omega) hD).mono ?_); rintro ex wz ⟨rfl, d3, hx2, p2, q2⟩))
              all_goals ((try simp only [Exit.inBlock, Exit.then]); first | go_end0 | refine bodyPost_ret (results_none rfl _ _ _) rfl ?_)
              all_goals exact ⟨rfl, FIN.out _ _ _ hx2 (.refl _ _ _) (F0.out (by omega)) p2 q2⟩
            · go_wp2_with (first | (go_at_call 22; (with_reducible refine (rotate_any L blk n cap s m e d _ w0 _ HRI.out hA hB (by omega)).mono ?_); rintro ex wx ⟨rfl, hx0⟩))
              all_goals ((try simp only [Exit.inBlock, Exit.then]); first | go_end0 | refine bodyPost_ret (results_none rfl _ _ _) rfl ?_)
              all_goals exact ⟨rfl, FIN.out _ _ _ hx0 (.refl _ _ _) (F0.out (by omega)) (.refl _ _ _) (G0.out (by omega))⟩
        · by_cases hC1 : a < s
          · by_cases hD : e < b
            · have hx0 := HRI.out.congr (N0.out (by omega)).symm
              go_wp2_with (first | (go_at_call 21; (with_reducible refine (I2.out _ _ hx0 (.refl _ _ _) (by omega) hD).mono ?_); rintro ex wz ⟨rfl, d3, hx2, p2, q2⟩))
              all_goals ((try simp only [Exit.inBlock, Exit.then]); first | go_end0 | refine bodyPost_ret (results_none rfl _ _ _) rfl ?_)
              all_goals exact ⟨rfl, FIN.out _ _ _ hx2 (.refl _ _ _) (F0.out (by omega)) p2 q2⟩
            · have hx0 := HRI.out.congr (N0.out (by omega)).symm
              go_wp2
              all_goals ((try simp only [Exit.inBlock, Exit.then]); first | go_end0 | refine bodyPost_ret (results_none rfl _ _ _) rfl ?_)
              all_goals exact ⟨rfl, FIN.out _ _ _ hx0 (.refl _ _ _) (F0.out (by omega)) (.refl _ _ _) (G0.out (by omega))⟩
          · by_cases hD : e < b
            · have hx0 := HRI.out.congr (N0.out (by omega)).symm
              go_wp2_with (first | (go_at_call 21; (with_reducible refine (I2.out _ _ hx0 (.refl _ _ _) (by omega) hD).mono ?_); rintro ex wz ⟨rfl, d3, hx2, p2, q2⟩))
              all_goals ((try simp only [Exit.inBlock, Exit.then]); first | go_end0 | refine bodyPost_ret (results_none rfl _ _ _) rfl ?_)
              all_goals exact ⟨rfl, FIN.out _ _ _ hx2 (.refl _ _ _) (F0.out (by omega)) p2 q2⟩
            · have hx0 := HRI.out.congr (N0.out (by omega)).symm
              go_wp2
              all_goals ((try simp only [Exit.inBlock, Exit.then]); first | go_end0 | refine bodyPost_ret (results_none rfl _ _ _) rfl ?_)
              all_goals exact ⟨rfl, FIN.out _ _ _ hx0 (.refl _ _ _) (F0.out (by omega)) (.refl _ _ _) (G0.out (by omega))⟩
      · by_cases hB : m < e
        · by_cases hC1 : a < s
          · by_cases hD : e < b
            · have hx0 := HRI.out.congr (N0.out (by omega)).symm
              go_wp2_with (first | (go_at_call 21; (with_reducible refine (I1.out _ hx0 hC1 (by omega)).mono ?_); rintro ex wy ⟨rfl, d2, hx1, p1, q1⟩))
              all_goals ((try simp only [Exit.inBlock, Exit.then]); first | go_end0 | refine bodyPost_ret (results_none rfl _ _ _) rfl ?_)
              all_goals exact ⟨rfl, FIN.out _ d2 _ hx1 p1 q1 (.refl _ _ _) ((G0.out (by omega)).congr (fun k hk _ => p1.out (by omega)))⟩
            · have hx0 := HRI.out.congr (N0.out (by omega)).symm
              go_wp2_with (first | (go_at_call 21; (with_reducible refine (I1.out _ hx0 hC1 (by omega)).mono ?_); rintro ex wy ⟨rfl, d2, hx1, p1, q1⟩))
              all_goals ((try simp only [Exit.inBlock, Exit.then]); first | go_end0 | refine bodyPost_ret (results_none rfl _ _ _) rfl ?_)
              all_goals exact ⟨rfl, FIN.out _ d2 _ hx1 p1 q1 (.refl _ _ _) ((G0.out (by omega)).congr (fun k hk _ => p1.out (by omega)))⟩
          · by_cases hD : e < b
            · have hx0 := HRI.out.congr (N0.out (by omega)).symm
              go_wp2
              all_goals ((try simp only [Exit.inBlock, Exit.then]); first | go_end0 | refine bodyPost_ret (results_none rfl _ _ _) rfl ?_)
              all_goals exact ⟨rfl, FIN.out _ _ _ hx0 (.refl _ _ _) (F0.out (by omega)) (.refl _ _ _) (G0.out (by omega))⟩
            · have hx0 := HRI.out.congr (N0.out (by omega)).symm
              go_wp2
              all_goals ((try simp only [Exit.inBlock, Exit.then]); first | go_end0 | refine bodyPost_ret (results_none rfl _ _ _) rfl ?_)
              all_goals exact ⟨rfl, FIN.out _ _ _ hx0 (.refl _ _ _) (F0.out (by omega)) (.refl _ _ _) (G0.out (by omega))⟩
        · by_cases hC1 : a < s
          · by_cases hD : e < b
            · have hx0 := HRI.out.congr (N0.out (by omega)).symm
              go_wp2
              all_goals ((try simp only [Exit.inBlock, Exit.then]); first | go_end0 | refine bodyPost_ret (results_none rfl _ _ _) rfl ?_)
              all_goals exact ⟨rfl, FIN.out _ _ _ hx0 (.refl _ _ _) (F0.out (by omega)) (.refl _ _ _) (G0.out (by omega))⟩
            · have hx0 := HRI.out.congr (N0.out (by omega)).symm
              go_wp2
              all_goals ((try simp only [Exit.inBlock, Exit.then]); first | go_end0 | refine bodyPost_ret (results_none rfl _ _ _) rfl ?_)
              all_goals exact ⟨rfl, FIN.out _ _ _ hx0 (.refl _ _ _) (F0.out (by omega)) (.refl _ _ _) (G0.out (by omega))⟩
          · by_cases hD : e < b
            · have hx0 := HRI.out.congr (N0.out (by omega)).symm
              go_wp2
              all_goals ((try simp only [Exit.inBlock, Exit.then]); first | go_end0 | refine bodyPost_ret (results_none rfl _ _ _) rfl ?_)
              all_goals exact ⟨rfl, FIN.out _ _ _ hx0 (.refl _ _ _) (F0.out (by omega)) (.refl _ _ _) (G0.out (by omega))⟩
            · have hx0 := HRI.out.congr (N0.out (by omega)).symm
              go_wp2
              all_goals ((try simp only [Exit.inBlock, Exit.then]); first | go_end0 | refine bodyPost_ret (results_none rfl _ _ _) rfl ?_)
              all_goals exact ⟨rfl, FIN.out _ _ _ hx0 (.refl _ _ _) (F0.out (by omega)) (.refl _ _ _) (G0.out (by omega))⟩
end Go.Proofs.Ytoglcgijgckdaaa
