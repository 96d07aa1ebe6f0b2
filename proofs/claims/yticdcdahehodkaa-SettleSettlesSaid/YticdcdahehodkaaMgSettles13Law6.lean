/- Texts that Settles13Law stands on, one behind the other, part 6. Conditions: each theorem names its own. -/
import Derived.Test.YticdcdahehodkaaMgSettles13Law5
/-! slices' symMergeCmpFunc at ints, in general. Condition: as at the insertion sort. (Printed by mksym.py.) -/
namespace Go.Proofs.Yticdcdahehodkaa
set_option linter.unusedVariables false
set_option linter.unusedSimpArgs false
open Go.RowKit

/-- what a merge of the stretches from a to m and from m to b does -/
def SymC (K : Nat → Int) (cb : Value) (blk n cap a m b : Nat) (d : Nat → Nat) (w0 w : World) : Prop :=
  Calls Try.prog 52 #[.slice (some ⟨blk, 0, none⟩) n cap, .int .i64 a, .int .i64 m, .int .i64 b, .func (.func 36) #[] #[cb]] w fun e w' => e = .returned (.tuple #[]) ∧ ∃ d', RowI w0 w' blk n d' ∧ PermOn a b d d' ∧ Srt K a b d'
theorem sym_fin {K : Nat → Int} {a s mid e b : Nat} {d d1 d2 d3 : Nat → Nat} (hp0 : PermOn a b d d1) (h1 : a ≤ mid) (h2 : mid ≤ b) (hh : Halves K a s mid e b d1) (p1 : PermOn a mid d1 d2) (q1 : Srt K a mid d2) (p2 : PermOn mid b d2 d3) (q2 : Srt K mid b d3) :
    PermOn a b d d3 ∧ Srt K a b d3 :=
  ⟨(hp0.trans (p1.mono (Nat.le_refl _) h2)).trans (p2.mono h1 (Nat.le_refl _)), joined hh.lt p1 q1 p2 q2⟩
theorem low_congr {a m b : Nat} {d d' : Nat → Nat} (h : Low a m b d) (e : ∀ k, a ≤ k → d' k = d k) : Low a m b d' := fun x y h1 h2 h3 h4 => by rw [e x h1, e y (by omega)]; exact h x y h1 h2 h3 h4

set_option maxRecDepth 100000 in
set_option maxHeartbeats 64000000 in
theorem symm_up (blk n cap a m b s0 mid t : Nat) (d : Nat → Nat) (K : Nat → Int) (cf : Nat → Nat → Int) (cb : Value) (w0 w : World) (hcf : ∀ x y, cf x y < 0 ↔ K x < K y) (hC : CmpAt w0 blk n cf cb) (hR : RowI w0 w blk n d)
    (ham : a + 1 < m) (hmb : m + 1 < b) (hb : b ≤ n) (hs : Srt K a m d) (hs' : Srt K m b d) (hl : Low a m b d) (hmid : mid = (a + b) / 2) (ht : t = mid + m) (hcase : mid < m ∧ s0 + b = t)
    (IH : ∀ a' m' b' d' w', b' - a' < b - a → a' < m' → m' < b' → b' ≤ n → Srt K a' m' d' → Srt K m' b' d' → Low a' m' b' d' → RowI w0 w' blk n d' → SymC K cb blk n cap a' m' b' d' w0 w') :
    SymC K cb blk n cap a m b d w0 w := by
  have hsz := hR.sz
  have H0 := Lib.hid hR
  have HC := Lib.hid hC
  have HS := Lib.hid hs
  have HS' := Lib.hid hs'
  have HL := Lib.hid hl
  have HCF := Lib.hid hcf
  have HI := Lib.hid IH
  clear hR hC hs hs' hl hcf IH
  have B0 : a < mid ∧ mid < b ∧ a ≤ s0 ∧ s0 ≤ mid ∧ mid ≤ m ∧ mid ≤ mid ∧ t < 2000000000000 := by omega
  obtain ⟨b1, b2, b3, b4, b5, b6, b7⟩ := B0
  have HB := Lib.hid (show ∀ c, s0 ≤ c → c < mid → a ≤ c ∧ c < m ∧ m ≤ t - 1 - c ∧ t - 1 - c < b from fun c h1 h2 => by omega)
  have HE := Lib.hid (show ∀ s, s0 ≤ s → s ≤ mid → m ≤ t - s ∧ t - s ≤ b ∧ t - s + s = mid + m ∧ (s = s0 → s = a ∨ t - s = b) ∧ (s = mid → s = m ∨ t - s = m) ∧ s ≤ mid ∧ t - s + s = t from fun s h1 h2 => by omega)
  obtain ⟨l, hl⟩ : ∃ l, l = m - a := ⟨_, rfl⟩
  obtain ⟨l2, hl2⟩ : ∃ l, l = b - m := ⟨_, rfl⟩
  obtain ⟨p, hp⟩ : ∃ p, p = t - 1 := ⟨_, rfl⟩
  have wm := wrapN (z := (m : Int) - (a : Int)) (n := l) (by omega) (by omega)
  have hl1 : ((l : Int) == 1) = false := by rw [beq_eq_false_iff_ne]; omega
  have wb := wrapN (z := (b : Int) - (m : Int)) (n := l2) (by omega) (by omega)
  have hl3 : ((l2 : Int) == 1) = false := by rw [beq_eq_false_iff_ne]; omega
  have zmid : ((a : Int) + (b : Int)) / 2 = (mid : Int) := by omega
  have wt := wrapN (z := (mid : Int) + (m : Int)) (n := t) (by omega) (by omega)
  have wp1 := wrapN (z := (t : Int) - 1) (n := p) (by omega) (by omega)
  obtain ⟨hcase, hs0b⟩ := hcase
  have ws0 := wrapN (z := (t : Int) - (b : Int)) (n := s0) (by omega) (by omega)
  have hmm : (mid : Int) < (m : Int) := by omega
  have HP := Lib.hid hp
  have hpt : p + 1 = t := by omega
  clear hp hl hl2 hmid ht
  unfold SymC
  go_enter Try.func52, Try.ntmps52
  go_wp2
  go_loopg [20, 21] (mid - s0) (fun gh vs vr wr => ∃ s r : Nat, vs = .int .i64 s ∧ vr = .int .i64 r ∧ s0 ≤ s ∧ s ≤ r ∧ r ≤ mid ∧ gh = r - s ∧ (s = s0 ∨ ltK K (d (s - 1)) (d (t - s))) ∧ (r = mid ∨ ltK K (d (t - 1 - r)) (d r)) ∧ RowI w0 wr blk n d)
  case atStart => exact ⟨s0, mid, by go_num, rfl, Nat.le_refl _, b4, Nat.le_refl _, rfl, .inl rfl, .inl rfl, H0.out⟩
  case round =>
    clear H0
    obtain ⟨s, r, rfl, rfl, hs0, hsr, hr0, rfl, hll, hrr, hRi⟩ := hrel
    have HLL := Lib.hid hll
    have HRR := Lib.hid hrr
    have HRI := Lib.hid hRi
    clear hll hrr hRi
    by_cases hlt : s < r
    · obtain ⟨c, hc⟩ : ∃ h, h = (s + r) / 2 := ⟨_, rfl⟩
      have hh2 := half_lt hlt
      rw [← hc] at hh2
      have hz : ((s : Int) + (r : Int)) / 2 = (c : Int) := by omega
      clear hc
      obtain ⟨k1, k2, k3, k4⟩ := HB.out c (by omega) (by omega)
      obtain ⟨q, hq⟩ : ∃ q, q = t - 1 - c := ⟨_, rfl⟩
      rw [← hq] at k3 k4
      have wq1 := wrapN (z := (p : Int) - (c : Int)) (n := q) (by omega) (by omega)
      obtain ⟨x, hx⟩ : ∃ x, x = d q := ⟨_, rfl⟩
      obtain ⟨y, hy⟩ : ∃ y, y = d c := ⟨_, rfl⟩
      have hcn : (c : Int) < (n : Int) := by omega
      have hqn : (q : Int) < (n : Int) := by omega
      have HX := Lib.hid (show ∀ wq, Below wr.heap.size wr wq → wq.cell? ⟨blk, q, none⟩ = some (.int .i64 x) from fun wq hb => by rw [hx]; exact ((HRI.out.below hb).cell q (by omega)).1)
      have HY := Lib.hid (show ∀ wq, Below wr.heap.size wr wq → wq.cell? ⟨blk, c, none⟩ = some (.int .i64 y) from fun wq hb => by rw [hy]; exact ((HRI.out.below hb).cell c (by omega)).1)
      have HCQ := Lib.hid (HC.out.q HRI.out x y (by rw [hx]; exact HRI.out.lt _ (by omega)) (by rw [hy]; exact HRI.out.lt _ (by omega)))
      have hlo : d c < d q := HL.out c q k1 k2 k3 k4
      have HXY := Lib.hid (show x = d q ∧ y = d c ∧ y < x ∧ q = t - 1 - c from ⟨hx, hy, by rw [hx, hy]; exact hlo, hq⟩)
      clear hx hy hlo hq
      by_cases hk : cf x y < 0
      · have hdk : decide (cf x y < 0) = true := decide_eq_true hk
        go_wp2
        refine wp_region_below (by kernel_rfl) (by kernel_rfl) ?_
        repeat (first | ((with_reducible apply q_skip); (case hw => rfl); (try simp only [Act.put, List.setIfInBounds_toArray, List.set_cons_zero, List.set_cons_succ])) | ((with_reducible refine at_qcallv ?_); refine q_call (.int .i64 (cf x y)) 36 #[.int .i64 x, .int .i64 y, cb] (by rfl) (fun wq hq => by go_simp) HCQ.out ?_; (try simp only [Act.put, List.setIfInBounds_toArray, List.set_cons_zero, List.set_cons_succ])) | ((with_reducible apply q_val); (case hw => rfl); (case hv => intro wq hbq; have hcx := HX.out wq hbq; have hcy := HY.out wq hbq; go_simp; try rfl); (try simp only [Act.put, List.setIfInBounds_toArray, List.set_cons_zero, List.set_cons_succ])))
        refine q_nil ?_
        intro w4 hb4
        go_wp2
        go_roundg (c - s)
        case measure => omega
        case rel =>
          obtain ⟨x1, x2, x3, x4⟩ := HXY.out
          refine ⟨s, c, rfl, rfl, hs0, by omega, by omega, rfl, HLL.out, .inr ?_, HRI.out.below hb4⟩
          rw [← x4, ← x1, ← x2]; exact .inl ((HCF.out _ _).1 hk)
      · have hdk : decide (cf x y < 0) = false := decide_eq_false hk
        go_wp2
        refine wp_region_below (by kernel_rfl) (by kernel_rfl) ?_
        repeat (first | ((with_reducible apply q_skip); (case hw => rfl); (try simp only [Act.put, List.setIfInBounds_toArray, List.set_cons_zero, List.set_cons_succ])) | ((with_reducible refine at_qcallv ?_); refine q_call (.int .i64 (cf x y)) 36 #[.int .i64 x, .int .i64 y, cb] (by rfl) (fun wq hq => by go_simp) HCQ.out ?_; (try simp only [Act.put, List.setIfInBounds_toArray, List.set_cons_zero, List.set_cons_succ])) | ((with_reducible apply q_val); (case hw => rfl); (case hv => intro wq hbq; have hcx := HX.out wq hbq; have hcy := HY.out wq hbq; go_simp; try rfl); (try simp only [Act.put, List.setIfInBounds_toArray, List.set_cons_zero, List.set_cons_succ])))
        refine q_nil ?_
        intro w4 hb4
        have wh1 := wrapN (z := (c : Int) + 1) (n := c + 1) (by omega) (by omega)
        go_wp2
        go_roundg (r - (c + 1))
        case measure => omega
        case rel =>
          obtain ⟨x1, x2, x3, x4⟩ := HXY.out
          refine ⟨c + 1, r, by go_num, rfl, by omega, by omega, hr0, rfl, .inr ?_, HRR.out, HRI.out.below hb4⟩
          rw [show c + 1 - 1 = c by omega, show t - (c + 1) = q by omega, ← x1, ← x2]; exact ltK_no x3 (fun h => by have := (HCF.out _ _).2 h; omega)
    · obtain rfl : s = r := by omega
      obtain ⟨e, he⟩ : ∃ e, e = t - s := ⟨_, rfl⟩
      obtain ⟨e1, e2, e3, e4, e5, e6, e7⟩ := HE.out s hs0 hr0
      rw [← he] at e1 e2 e3 e4 e5 e7
      have we := wrapN (z := (t : Int) - (s : Int)) (n := e) (by omega) (by omega)
      have hsm : s ≤ m := by omega
      have has : a ≤ s := by omega
      have HH := Lib.hid (show Halves K a s mid e b (rot s m e d) from halves HS.out HS'.out HL.out has hsm e1 e2 e3 (by
          rcases HLL.out with h | h
          · rcases e4 h with h | h
            · exact .inl h
            · exact .inr (.inl h)
          · rw [he]; exact .inr (.inr h)) (by
          rcases HRR.out with h | h
          · rcases e5 h with h | h
            · exact .inl h
            · exact .inr (.inl h)
          · rw [show t - 1 - s = e - 1 by omega] at h; exact .inr (.inr h)))
      have P0 := Lib.hid ((rot_perm d hsm e1).mono has e2)
      have N0 := Lib.hid (show s = m ∨ e = m → rot s m e d = d from fun h => by
        rcases h with h | h
        · rw [h]; exact rot_left _ _ _
        · rw [h]; exact rot_right _ _ _)
      have F0 := Lib.hid (show s = a ∨ s = mid → Srt K a mid (rot s m e d) from fun h => by
        rcases h with h | h
        · have := HH.out.s2; rw [h] at this ⊢; exact this
        · have := HH.out.s1; rw [h] at this ⊢; exact this)
      have G0 := Lib.hid (show e = mid ∨ e = b → Srt K mid b (rot s m e d) from fun h => by
        rcases h with h | h
        · have := HH.out.s4; rw [h] at this ⊢; exact this
        · have := HH.out.s3; rw [h] at this ⊢; exact this)
      have I1 := Lib.hid (fun (wx : World) (hx : RowI w0 wx blk n (rot s m e d)) (h1 : a < s) (h2 : s < mid) => show SymC K cb blk n cap a s mid (rot s m e d) w0 wx from
        HI.out a s mid _ wx (by omega) h1 h2 (by omega) HH.out.s1 HH.out.s2 HH.out.l1 hx)
      have I2 := Lib.hid (fun (wx : World) (d2 : Nat → Nat) (hx : RowI w0 wx blk n d2) (p : PermOn a mid (rot s m e d) d2) (h1 : mid < e) (h2 : e < b) => show SymC K cb blk n cap mid e b d2 w0 wx from
        HI.out mid e b _ wx (by omega) h1 h2 (by omega) (HH.out.s3.congr (fun k hk _ => p.out (by omega))) (HH.out.s4.congr (fun k hk _ => p.out (by omega))) (low_congr HH.out.l2 (fun k hk => p.out (by omega))) hx)
      have FIN := Lib.hid (fun (wx : World) (d2 d3 : Nat → Nat) (hx : RowI w0 wx blk n d3) (p1 : PermOn a mid (rot s m e d) d2) (q1 : Srt K a mid d2) (p2 : PermOn mid b d2 d3) (q2 : Srt K mid b d3) =>
        show ∃ d', RowI w0 wx blk n d' ∧ PermOn a b d d' ∧ Srt K a b d' from ⟨d3, hx, sym_fin P0.out (by omega) (by omega) HH.out p1 q1 p2 q2⟩)
      clear HI HS HS' HL HC HCF HLL HRR HB HE HH P0 he
      unfold SymC at I1 I2
      by_cases hA : s < m
      · by_cases hB : m < e
        · by_cases hC1 : a < s
          · by_cases hD : e < b
            · go_wp2_with (first | (go_at_call 53; (with_reducible refine (rotate_any blk n cap s m e d _ w0 _ HRI.out hA hB (by omega)).mono ?_); rintro ex wx ⟨rfl, hx0⟩) | (go_at_call 52; (with_reducible refine (I2.out _ d2 hx1 p1 (by omega) hD).mono ?_); rintro ex wz ⟨rfl, d3, hx2, p2, q2⟩) | (go_at_call 52; (with_reducible refine (I1.out _ hx0 hC1 (by omega)).mono ?_); rintro ex wy ⟨rfl, d2, hx1, p1, q1⟩))
              all_goals ((try simp only [Exit.inBlock, Exit.then]); first | go_end0 | refine bodyPost_ret (results_none rfl _ _ _) rfl ?_)
              all_goals exact ⟨rfl, FIN.out _ d2 _ hx2 p1 q1 p2 q2⟩
            · go_wp2_with (first | (go_at_call 53; (with_reducible refine (rotate_any blk n cap s m e d _ w0 _ HRI.out hA hB (by omega)).mono ?_); rintro ex wx ⟨rfl, hx0⟩) | (go_at_call 52; (with_reducible refine (I1.out _ hx0 hC1 (by omega)).mono ?_); rintro ex wy ⟨rfl, d2, hx1, p1, q1⟩))
              all_goals ((try simp only [Exit.inBlock, Exit.then]); first | go_end0 | refine bodyPost_ret (results_none rfl _ _ _) rfl ?_)
              all_goals exact ⟨rfl, FIN.out _ d2 _ hx1 p1 q1 (.refl _ _ _) ((G0.out (by omega)).congr (fun k hk _ => p1.out (by omega)))⟩
          · by_cases hD : e < b
            · go_wp2_with (first | (go_at_call 53; (with_reducible refine (rotate_any blk n cap s m e d _ w0 _ HRI.out hA hB (by omega)).mono ?_); rintro ex wx ⟨rfl, hx0⟩) | (go_at_call 52; (with_reducible refine (I2.out _ _ hx0 (.refl _ _ _) (by omega) hD).mono ?_); rintro ex wz ⟨rfl, d3, hx2, p2, q2⟩))
              all_goals ((try simp only [Exit.inBlock, Exit.then]); first | go_end0 | refine bodyPost_ret (results_none rfl _ _ _) rfl ?_)
              all_goals exact ⟨rfl, FIN.out _ _ _ hx2 (.refl _ _ _) (F0.out (by omega)) p2 q2⟩
            · go_wp2_with (first | (go_at_call 53; (with_reducible refine (rotate_any blk n cap s m e d _ w0 _ HRI.out hA hB (by omega)).mono ?_); rintro ex wx ⟨rfl, hx0⟩))
              all_goals ((try simp only [Exit.inBlock, Exit.then]); first | go_end0 | refine bodyPost_ret (results_none rfl _ _ _) rfl ?_)
              all_goals exact ⟨rfl, FIN.out _ _ _ hx0 (.refl _ _ _) (F0.out (by omega)) (.refl _ _ _) (G0.out (by omega))⟩
        · by_cases hC1 : a < s
          · by_cases hD : e < b
            · have hx0 := HRI.out.congr (N0.out (by omega)).symm
              go_wp2_with (first | (go_at_call 52; (with_reducible refine (I2.out _ _ hx0 (.refl _ _ _) (by omega) hD).mono ?_); rintro ex wz ⟨rfl, d3, hx2, p2, q2⟩))
              all_goals ((try simp only [Exit.inBlock, Exit.then]); first | go_end0 | refine bodyPost_ret (results_none rfl _ _ _) rfl ?_)
              all_goals exact ⟨rfl, FIN.out _ _ _ hx2 (.refl _ _ _) (F0.out (by omega)) p2 q2⟩
            · have hx0 := HRI.out.congr (N0.out (by omega)).symm
              go_wp2
              all_goals ((try simp only [Exit.inBlock, Exit.then]); first | go_end0 | refine bodyPost_ret (results_none rfl _ _ _) rfl ?_)
              all_goals exact ⟨rfl, FIN.out _ _ _ hx0 (.refl _ _ _) (F0.out (by omega)) (.refl _ _ _) (G0.out (by omega))⟩
          · by_cases hD : e < b
            · have hx0 := HRI.out.congr (N0.out (by omega)).symm
              go_wp2_with (first | (go_at_call 52; (with_reducible refine (I2.out _ _ hx0 (.refl _ _ _) (by omega) hD).mono ?_); rintro ex wz ⟨rfl, d3, hx2, p2, q2⟩))
              all_goals ((try simp only [Exit.inBlock, Exit.then]); first | go_end0 | refine bodyPost_ret (results_none rfl _ _ _) rfl ?_)
              all_goals exact ⟨rfl, FIN.out _ _ _ hx2 (.refl _ _ _) (F0.out (by omega)) p2 q2⟩
            · have hx0 := HRI.out.congr (N0.out (by omega)).symm
              go_wp2
              all_goals ((try simp only [Exit.inBlock, Exit.then]); first | go_end0 | refine bodyPost_ret (results_none rfl _ _ _) rfl ?_)
              all_goals exact ⟨rfl, FIN.out _ _ _ hx0 (.refl _ _ _) (F0.out (by omega)) (.refl _ _ _) (G0.out (by omega))⟩
      · by_cases hB : m < e
        · by_cases hC1 : a < s
          · by_cases hD : e < b
            · have hx0 := HRI.out.congr (N0.out (by omega)).symm
              go_wp2_with (first | (go_at_call 52; (with_reducible refine (I1.out _ hx0 hC1 (by omega)).mono ?_); rintro ex wy ⟨rfl, d2, hx1, p1, q1⟩))
              all_goals ((try simp only [Exit.inBlock, Exit.then]); first | go_end0 | refine bodyPost_ret (results_none rfl _ _ _) rfl ?_)
              all_goals exact ⟨rfl, FIN.out _ d2 _ hx1 p1 q1 (.refl _ _ _) ((G0.out (by omega)).congr (fun k hk _ => p1.out (by omega)))⟩
            · have hx0 := HRI.out.congr (N0.out (by omega)).symm
              go_wp2_with (first | (go_at_call 52; (with_reducible refine (I1.out _ hx0 hC1 (by omega)).mono ?_); rintro ex wy ⟨rfl, d2, hx1, p1, q1⟩))
              all_goals ((try simp only [Exit.inBlock, Exit.then]); first | go_end0 | refine bodyPost_ret (results_none rfl _ _ _) rfl ?_)
              all_goals exact ⟨rfl, FIN.out _ d2 _ hx1 p1 q1 (.refl _ _ _) ((G0.out (by omega)).congr (fun k hk _ => p1.out (by omega)))⟩
          · by_cases hD : e < b
            · have hx0 := HRI.out.congr (N0.out (by omega)).symm
              go_wp2
              all_goals ((try simp only [Exit.inBlock, Exit.then]); first | go_end0 | refine bodyPost_ret (results_none rfl _ _ _) rfl ?_)
              all_goals exact ⟨rfl, FIN.out _ _ _ hx0 (.refl _ _ _) (F0.out (by omega)) (.refl _ _ _) (G0.out (by omega))⟩
            · have hx0 := HRI.out.congr (N0.out (by omega)).symm
              go_wp2
              all_goals ((try simp only [Exit.inBlock, Exit.then]); first | go_end0 | refine bodyPost_ret (results_none rfl _ _ _) rfl ?_)
              all_goals exact ⟨rfl, FIN.out _ _ _ hx0 (.refl _ _ _) (F0.out (by omega)) (.refl _ _ _) (G0.out (by omega))⟩
        · by_cases hC1 : a < s
          · by_cases hD : e < b
            · have hx0 := HRI.out.congr (N0.out (by omega)).symm
              go_wp2
              all_goals ((try simp only [Exit.inBlock, Exit.then]); first | go_end0 | refine bodyPost_ret (results_none rfl _ _ _) rfl ?_)
              all_goals exact ⟨rfl, FIN.out _ _ _ hx0 (.refl _ _ _) (F0.out (by omega)) (.refl _ _ _) (G0.out (by omega))⟩
            · have hx0 := HRI.out.congr (N0.out (by omega)).symm
              go_wp2
              all_goals ((try simp only [Exit.inBlock, Exit.then]); first | go_end0 | refine bodyPost_ret (results_none rfl _ _ _) rfl ?_)
              all_goals exact ⟨rfl, FIN.out _ _ _ hx0 (.refl _ _ _) (F0.out (by omega)) (.refl _ _ _) (G0.out (by omega))⟩
          · by_cases hD : e < b
            · have hx0 := HRI.out.congr (N0.out (by omega)).symm
              go_wp2
              all_goals ((try simp only [Exit.inBlock, Exit.then]); first | go_end0 | refine bodyPost_ret (results_none rfl _ _ _) rfl ?_)
              all_goals exact ⟨rfl, FIN.out _ _ _ hx0 (.refl _ _ _) (F0.out (by omega)) (.refl _ _ _) (G0.out (by omega))⟩
            · have hx0 := HRI.out.congr (N0.out (by omega)).symm
              go_wp2
              all_goals ((try simp only [Exit.inBlock, Exit.then]); first | go_end0 | refine bodyPost_ret (results_none rfl _ _ _) rfl ?_)
              all_goals exact ⟨rfl, FIN.out _ _ _ hx0 (.refl _ _ _) (F0.out (by omega)) (.refl _ _ _) (G0.out (by omega))⟩

set_option maxRecDepth 100000 in
set_option maxHeartbeats 64000000 in
theorem symm_dn (blk n cap a m b mid t : Nat) (d : Nat → Nat) (K : Nat → Int) (cf : Nat → Nat → Int) (cb : Value) (w0 w : World) (hcf : ∀ x y, cf x y < 0 ↔ K x < K y) (hC : CmpAt w0 blk n cf cb) (hR : RowI w0 w blk n d)
    (ham : a + 1 < m) (hmb : m + 1 < b) (hb : b ≤ n) (hs : Srt K a m d) (hs' : Srt K m b d) (hl : Low a m b d) (hmid : mid = (a + b) / 2) (ht : t = mid + m) (hcase : m ≤ mid)
    (IH : ∀ a' m' b' d' w', b' - a' < b - a → a' < m' → m' < b' → b' ≤ n → Srt K a' m' d' → Srt K m' b' d' → Low a' m' b' d' → RowI w0 w' blk n d' → SymC K cb blk n cap a' m' b' d' w0 w') :
    SymC K cb blk n cap a m b d w0 w := by
  have hsz := hR.sz
  have H0 := Lib.hid hR
  have HC := Lib.hid hC
  have HS := Lib.hid hs
  have HS' := Lib.hid hs'
  have HL := Lib.hid hl
  have HCF := Lib.hid hcf
  have HI := Lib.hid IH
  clear hR hC hs hs' hl hcf IH
  have B0 : a < mid ∧ mid < b ∧ a ≤ a ∧ a ≤ m ∧ m ≤ m ∧ m ≤ mid ∧ t < 2000000000000 := by omega
  obtain ⟨b1, b2, b3, b4, b5, b6, b7⟩ := B0
  have HB := Lib.hid (show ∀ c, a ≤ c → c < m → a ≤ c ∧ c < m ∧ m ≤ t - 1 - c ∧ t - 1 - c < b from fun c h1 h2 => by omega)
  have HE := Lib.hid (show ∀ s, a ≤ s → s ≤ m → m ≤ t - s ∧ t - s ≤ b ∧ t - s + s = mid + m ∧ (s = a → s = a ∨ t - s = b) ∧ (s = m → s = m ∨ t - s = m) ∧ s ≤ mid ∧ t - s + s = t from fun s h1 h2 => by omega)
  obtain ⟨l, hl⟩ : ∃ l, l = m - a := ⟨_, rfl⟩
  obtain ⟨l2, hl2⟩ : ∃ l, l = b - m := ⟨_, rfl⟩
  obtain ⟨p, hp⟩ : ∃ p, p = t - 1 := ⟨_, rfl⟩
  have wm := wrapN (z := (m : Int) - (a : Int)) (n := l) (by omega) (by omega)
  have hl1 : ((l : Int) == 1) = false := by rw [beq_eq_false_iff_ne]; omega
  have wb := wrapN (z := (b : Int) - (m : Int)) (n := l2) (by omega) (by omega)
  have hl3 : ((l2 : Int) == 1) = false := by rw [beq_eq_false_iff_ne]; omega
  have zmid : ((a : Int) + (b : Int)) / 2 = (mid : Int) := by omega
  have wt := wrapN (z := (mid : Int) + (m : Int)) (n := t) (by omega) (by omega)
  have wp1 := wrapN (z := (t : Int) - 1) (n := p) (by omega) (by omega)
  have hmm : ¬ (mid : Int) < (m : Int) := by omega
  have HP := Lib.hid hp
  have hpt : p + 1 = t := by omega
  clear hp hl hl2 hmid ht
  unfold SymC
  go_enter Try.func52, Try.ntmps52
  go_wp2
  go_loopg [20, 21] (m - a) (fun gh vs vr wr => ∃ s r : Nat, vs = .int .i64 s ∧ vr = .int .i64 r ∧ a ≤ s ∧ s ≤ r ∧ r ≤ m ∧ gh = r - s ∧ (s = a ∨ ltK K (d (s - 1)) (d (t - s))) ∧ (r = m ∨ ltK K (d (t - 1 - r)) (d r)) ∧ RowI w0 wr blk n d)
  case atStart => exact ⟨a, m, rfl, rfl, Nat.le_refl _, b4, Nat.le_refl _, rfl, .inl rfl, .inl rfl, H0.out⟩
  case round =>
    clear H0
    obtain ⟨s, r, rfl, rfl, hs0, hsr, hr0, rfl, hll, hrr, hRi⟩ := hrel
    have HLL := Lib.hid hll
    have HRR := Lib.hid hrr
    have HRI := Lib.hid hRi
    clear hll hrr hRi
    by_cases hlt : s < r
    · obtain ⟨c, hc⟩ : ∃ h, h = (s + r) / 2 := ⟨_, rfl⟩
      have hh2 := half_lt hlt
      rw [← hc] at hh2
      have hz : ((s : Int) + (r : Int)) / 2 = (c : Int) := by omega
      clear hc
      obtain ⟨k1, k2, k3, k4⟩ := HB.out c (by omega) (by omega)
      obtain ⟨q, hq⟩ : ∃ q, q = t - 1 - c := ⟨_, rfl⟩
      rw [← hq] at k3 k4
      have wq1 := wrapN (z := (p : Int) - (c : Int)) (n := q) (by omega) (by omega)
      obtain ⟨x, hx⟩ : ∃ x, x = d q := ⟨_, rfl⟩
      obtain ⟨y, hy⟩ : ∃ y, y = d c := ⟨_, rfl⟩
      have hcn : (c : Int) < (n : Int) := by omega
      have hqn : (q : Int) < (n : Int) := by omega
      have HX := Lib.hid (show ∀ wq, Below wr.heap.size wr wq → wq.cell? ⟨blk, q, none⟩ = some (.int .i64 x) from fun wq hb => by rw [hx]; exact ((HRI.out.below hb).cell q (by omega)).1)
      have HY := Lib.hid (show ∀ wq, Below wr.heap.size wr wq → wq.cell? ⟨blk, c, none⟩ = some (.int .i64 y) from fun wq hb => by rw [hy]; exact ((HRI.out.below hb).cell c (by omega)).1)
      have HCQ := Lib.hid (HC.out.q HRI.out x y (by rw [hx]; exact HRI.out.lt _ (by omega)) (by rw [hy]; exact HRI.out.lt _ (by omega)))
      have hlo : d c < d q := HL.out c q k1 k2 k3 k4
      have HXY := Lib.hid (show x = d q ∧ y = d c ∧ y < x ∧ q = t - 1 - c from ⟨hx, hy, by rw [hx, hy]; exact hlo, hq⟩)
      clear hx hy hlo hq
      by_cases hk : cf x y < 0
      · have hdk : decide (cf x y < 0) = true := decide_eq_true hk
        go_wp2
        refine wp_region_below (by kernel_rfl) (by kernel_rfl) ?_
        repeat (first | ((with_reducible apply q_skip); (case hw => rfl); (try simp only [Act.put, List.setIfInBounds_toArray, List.set_cons_zero, List.set_cons_succ])) | ((with_reducible refine at_qcallv ?_); refine q_call (.int .i64 (cf x y)) 36 #[.int .i64 x, .int .i64 y, cb] (by rfl) (fun wq hq => by go_simp) HCQ.out ?_; (try simp only [Act.put, List.setIfInBounds_toArray, List.set_cons_zero, List.set_cons_succ])) | ((with_reducible apply q_val); (case hw => rfl); (case hv => intro wq hbq; have hcx := HX.out wq hbq; have hcy := HY.out wq hbq; go_simp; try rfl); (try simp only [Act.put, List.setIfInBounds_toArray, List.set_cons_zero, List.set_cons_succ])))
        refine q_nil ?_
        intro w4 hb4
        go_wp2
        go_roundg (c - s)
        case measure => omega
        case rel =>
          obtain ⟨x1, x2, x3, x4⟩ := HXY.out
          refine ⟨s, c, rfl, rfl, hs0, by omega, by omega, rfl, HLL.out, .inr ?_, HRI.out.below hb4⟩
          rw [← x4, ← x1, ← x2]; exact .inl ((HCF.out _ _).1 hk)
      · have hdk : decide (cf x y < 0) = false := decide_eq_false hk
        go_wp2
        refine wp_region_below (by kernel_rfl) (by kernel_rfl) ?_
        repeat (first | ((with_reducible apply q_skip); (case hw => rfl); (try simp only [Act.put, List.setIfInBounds_toArray, List.set_cons_zero, List.set_cons_succ])) | ((with_reducible refine at_qcallv ?_); refine q_call (.int .i64 (cf x y)) 36 #[.int .i64 x, .int .i64 y, cb] (by rfl) (fun wq hq => by go_simp) HCQ.out ?_; (try simp only [Act.put, List.setIfInBounds_toArray, List.set_cons_zero, List.set_cons_succ])) | ((with_reducible apply q_val); (case hw => rfl); (case hv => intro wq hbq; have hcx := HX.out wq hbq; have hcy := HY.out wq hbq; go_simp; try rfl); (try simp only [Act.put, List.setIfInBounds_toArray, List.set_cons_zero, List.set_cons_succ])))
        refine q_nil ?_
        intro w4 hb4
        have wh1 := wrapN (z := (c : Int) + 1) (n := c + 1) (by omega) (by omega)
        go_wp2
        go_roundg (r - (c + 1))
        case measure => omega
        case rel =>
          obtain ⟨x1, x2, x3, x4⟩ := HXY.out
          refine ⟨c + 1, r, by go_num, rfl, by omega, by omega, hr0, rfl, .inr ?_, HRR.out, HRI.out.below hb4⟩
          rw [show c + 1 - 1 = c by omega, show t - (c + 1) = q by omega, ← x1, ← x2]; exact ltK_no x3 (fun h => by have := (HCF.out _ _).2 h; omega)
    · obtain rfl : s = r := by omega
      obtain ⟨e, he⟩ : ∃ e, e = t - s := ⟨_, rfl⟩
      obtain ⟨e1, e2, e3, e4, e5, e6, e7⟩ := HE.out s hs0 hr0
      rw [← he] at e1 e2 e3 e4 e5 e7
      have we := wrapN (z := (t : Int) - (s : Int)) (n := e) (by omega) (by omega)
      have hsm : s ≤ m := by omega
      have has : a ≤ s := by omega
      have HH := Lib.hid (show Halves K a s mid e b (rot s m e d) from halves HS.out HS'.out HL.out has hsm e1 e2 e3 (by
          rcases HLL.out with h | h
          · rcases e4 h with h | h
            · exact .inl h
            · exact .inr (.inl h)
          · rw [he]; exact .inr (.inr h)) (by
          rcases HRR.out with h | h
          · rcases e5 h with h | h
            · exact .inl h
            · exact .inr (.inl h)
          · rw [show t - 1 - s = e - 1 by omega] at h; exact .inr (.inr h)))
      have P0 := Lib.hid ((rot_perm d hsm e1).mono has e2)
      have N0 := Lib.hid (show s = m ∨ e = m → rot s m e d = d from fun h => by
        rcases h with h | h
        · rw [h]; exact rot_left _ _ _
        · rw [h]; exact rot_right _ _ _)
      have F0 := Lib.hid (show s = a ∨ s = mid → Srt K a mid (rot s m e d) from fun h => by
        rcases h with h | h
        · have := HH.out.s2; rw [h] at this ⊢; exact this
        · have := HH.out.s1; rw [h] at this ⊢; exact this)
      have G0 := Lib.hid (show e = mid ∨ e = b → Srt K mid b (rot s m e d) from fun h => by
        rcases h with h | h
        · have := HH.out.s4; rw [h] at this ⊢; exact this
        · have := HH.out.s3; rw [h] at this ⊢; exact this)
      have I1 := Lib.hid (fun (wx : World) (hx : RowI w0 wx blk n (rot s m e d)) (h1 : a < s) (h2 : s < mid) => show SymC K cb blk n cap a s mid (rot s m e d) w0 wx from
        HI.out a s mid _ wx (by omega) h1 h2 (by omega) HH.out.s1 HH.out.s2 HH.out.l1 hx)
      have I2 := Lib.hid (fun (wx : World) (d2 : Nat → Nat) (hx : RowI w0 wx blk n d2) (p : PermOn a mid (rot s m e d) d2) (h1 : mid < e) (h2 : e < b) => show SymC K cb blk n cap mid e b d2 w0 wx from
        HI.out mid e b _ wx (by omega) h1 h2 (by omega) (HH.out.s3.congr (fun k hk _ => p.out (by omega))) (HH.out.s4.congr (fun k hk _ => p.out (by omega))) (low_congr HH.out.l2 (fun k hk => p.out (by omega))) hx)
      have FIN := Lib.hid (fun (wx : World) (d2 d3 : Nat → Nat) (hx : RowI w0 wx blk n d3) (p1 : PermOn a mid (rot s m e d) d2) (q1 : Srt K a mid d2) (p2 : PermOn mid b d2 d3) (q2 : Srt K mid b d3) =>
        show ∃ d', RowI w0 wx blk n d' ∧ PermOn a b d d' ∧ Srt K a b d' from ⟨d3, hx, sym_fin P0.out (by omega) (by omega) HH.out p1 q1 p2 q2⟩)
      clear HI HS HS' HL HC HCF HLL HRR HB HE HH P0 he
      unfold SymC at I1 I2
      by_cases hA : s < m
      · by_cases hB : m < e
        · by_cases hC1 : a < s
          · by_cases hD : e < b
            · go_wp2_with (first | (go_at_call 53; (with_reducible refine (rotate_any blk n cap s m e d _ w0 _ HRI.out hA hB (by omega)).mono ?_); rintro ex wx ⟨rfl, hx0⟩) | (go_at_call 52; (with_reducible refine (I2.out _ d2 hx1 p1 (by omega) hD).mono ?_); rintro ex wz ⟨rfl, d3, hx2, p2, q2⟩) | (go_at_call 52; (with_reducible refine (I1.out _ hx0 hC1 (by omega)).mono ?_); rintro ex wy ⟨rfl, d2, hx1, p1, q1⟩))
              all_goals ((try simp only [Exit.inBlock, Exit.then]); first | go_end0 | refine bodyPost_ret (results_none rfl _ _ _) rfl ?_)
              all_goals exact ⟨rfl, FIN.out _ d2 _ hx2 p1 q1 p2 q2⟩
            · go_wp2_with (first | (go_at_call 53; (with_reducible refine (rotate_any blk n cap s m e d _ w0 _ HRI.out hA hB (by omega)).mono ?_); rintro ex wx ⟨rfl, hx0⟩) | (go_at_call 52; (with_reducible refine (I1.out _ hx0 hC1 (by omega)).mono ?_); rintro ex wy ⟨rfl, d2, hx1, p1, q1⟩))
              all_goals ((try simp only [Exit.inBlock, Exit.then]); first | go_end0 | refine bodyPost_ret (results_none rfl _ _ _) rfl ?_)
              all_goals exact ⟨rfl, FIN.out _ d2 _ hx1 p1 q1 (.refl _ _ _) ((G0.out (by omega)).congr (fun k hk _ => p1.out (by omega)))⟩
          · by_cases hD : e < b
            · go_wp2_with (first | (go_at_call 53; (with_reducible refine (rotate_any blk n cap s m e d _ w0 _ HRI.out hA hB (by omega)).mono ?_); rintro ex wx ⟨rfl, hx0⟩) | (go_at_call 52; (with_reducible refine (I2.out _ _ hx0 (.refl _ _ _) (by omega) hD).mono ?_); rintro ex wz ⟨rfl, d3, hx2, p2, q2⟩))
              all_goals ((try simp only [Exit.inBlock, Exit.then]); first | go_end0 | refine bodyPost_ret (results_none rfl _ _ _) rfl ?_)
              all_goals exact ⟨rfl, FIN.out _ _ _ hx2 (.refl _ _ _) (F0.out (by omega)) p2 q2⟩
            · go_wp2_with (first | (go_at_call 53; (with_reducible refine (rotate_any blk n cap s m e d _ w0 _ HRI.out hA hB (by omega)).mono ?_); rintro ex wx ⟨rfl, hx0⟩))
              all_goals ((try simp only [Exit.inBlock, Exit.then]); first | go_end0 | refine bodyPost_ret (results_none rfl _ _ _) rfl ?_)
              all_goals exact ⟨rfl, FIN.out _ _ _ hx0 (.refl _ _ _) (F0.out (by omega)) (.refl _ _ _) (G0.out (by omega))⟩
        · by_cases hC1 : a < s
          · by_cases hD : e < b
            · have hx0 := HRI.out.congr (N0.out (by omega)).symm
              go_wp2_with (first | (go_at_call 52; (with_reducible refine (I2.out _ _ hx0 (.refl _ _ _) (by omega) hD).mono ?_); rintro ex wz ⟨rfl, d3, hx2, p2, q2⟩))
              all_goals ((try simp only [Exit.inBlock, Exit.then]); first | go_end0 | refine bodyPost_ret (results_none rfl _ _ _) rfl ?_)
              all_goals exact ⟨rfl, FIN.out _ _ _ hx2 (.refl _ _ _) (F0.out (by omega)) p2 q2⟩
            · have hx0 := HRI.out.congr (N0.out (by omega)).symm
              go_wp2
              all_goals ((try simp only [Exit.inBlock, Exit.then]); first | go_end0 | refine bodyPost_ret (results_none rfl _ _ _) rfl ?_)
              all_goals exact ⟨rfl, FIN.out _ _ _ hx0 (.refl _ _ _) (F0.out (by omega)) (.refl _ _ _) (G0.out (by omega))⟩
          · by_cases hD : e < b
            · have hx0 := HRI.out.congr (N0.out (by omega)).symm
              go_wp2_with (first | (go_at_call 52; (with_reducible refine (I2.out _ _ hx0 (.refl _ _ _) (by omega) hD).mono ?_); rintro ex wz ⟨rfl, d3, hx2, p2, q2⟩))
              all_goals ((try simp only [Exit.inBlock, Exit.then]); first | go_end0 | refine bodyPost_ret (results_none rfl _ _ _) rfl ?_)
              all_goals exact ⟨rfl, FIN.out _ _ _ hx2 (.refl _ _ _) (F0.out (by omega)) p2 q2⟩
            · have hx0 := HRI.out.congr (N0.out (by omega)).symm
              go_wp2
              all_goals ((try simp only [Exit.inBlock, Exit.then]); first | go_end0 | refine bodyPost_ret (results_none rfl _ _ _) rfl ?_)
              all_goals exact ⟨rfl, FIN.out _ _ _ hx0 (.refl _ _ _) (F0.out (by omega)) (.refl _ _ _) (G0.out (by omega))⟩
      · by_cases hB : m < e
        · by_cases hC1 : a < s
          · by_cases hD : e < b
            · have hx0 := HRI.out.congr (N0.out (by omega)).symm
              go_wp2_with (first | (go_at_call 52; (with_reducible refine (I1.out _ hx0 hC1 (by omega)).mono ?_); rintro ex wy ⟨rfl, d2, hx1, p1, q1⟩))
              all_goals ((try simp only [Exit.inBlock, Exit.then]); first | go_end0 | refine bodyPost_ret (results_none rfl _ _ _) rfl ?_)
              all_goals exact ⟨rfl, FIN.out _ d2 _ hx1 p1 q1 (.refl _ _ _) ((G0.out (by omega)).congr (fun k hk _ => p1.out (by omega)))⟩
            · have hx0 := HRI.out.congr (N0.out (by omega)).symm
              go_wp2_with (first | (go_at_call 52; (with_reducible refine (I1.out _ hx0 hC1 (by omega)).mono ?_); rintro ex wy ⟨rfl, d2, hx1, p1, q1⟩))
              all_goals ((try simp only [Exit.inBlock, Exit.then]); first | go_end0 | refine bodyPost_ret (results_none rfl _ _ _) rfl ?_)
              all_goals exact ⟨rfl, FIN.out _ d2 _ hx1 p1 q1 (.refl _ _ _) ((G0.out (by omega)).congr (fun k hk _ => p1.out (by omega)))⟩
          · by_cases hD : e < b
            · have hx0 := HRI.out.congr (N0.out (by omega)).symm
              go_wp2
              all_goals ((try simp only [Exit.inBlock, Exit.then]); first | go_end0 | refine bodyPost_ret (results_none rfl _ _ _) rfl ?_)
              all_goals exact ⟨rfl, FIN.out _ _ _ hx0 (.refl _ _ _) (F0.out (by omega)) (.refl _ _ _) (G0.out (by omega))⟩
            · have hx0 := HRI.out.congr (N0.out (by omega)).symm
              go_wp2
              all_goals ((try simp only [Exit.inBlock, Exit.then]); first | go_end0 | refine bodyPost_ret (results_none rfl _ _ _) rfl ?_)
              all_goals exact ⟨rfl, FIN.out _ _ _ hx0 (.refl _ _ _) (F0.out (by omega)) (.refl _ _ _) (G0.out (by omega))⟩
        · by_cases hC1 : a < s
          · by_cases hD : e < b
            · have hx0 := HRI.out.congr (N0.out (by omega)).symm
              go_wp2
              all_goals ((try simp only [Exit.inBlock, Exit.then]); first | go_end0 | refine bodyPost_ret (results_none rfl _ _ _) rfl ?_)
              all_goals exact ⟨rfl, FIN.out _ _ _ hx0 (.refl _ _ _) (F0.out (by omega)) (.refl _ _ _) (G0.out (by omega))⟩
            · have hx0 := HRI.out.congr (N0.out (by omega)).symm
              go_wp2
              all_goals ((try simp only [Exit.inBlock, Exit.then]); first | go_end0 | refine bodyPost_ret (results_none rfl _ _ _) rfl ?_)
              all_goals exact ⟨rfl, FIN.out _ _ _ hx0 (.refl _ _ _) (F0.out (by omega)) (.refl _ _ _) (G0.out (by omega))⟩
          · by_cases hD : e < b
            · have hx0 := HRI.out.congr (N0.out (by omega)).symm
              go_wp2
              all_goals ((try simp only [Exit.inBlock, Exit.then]); first | go_end0 | refine bodyPost_ret (results_none rfl _ _ _) rfl ?_)
              all_goals exact ⟨rfl, FIN.out _ _ _ hx0 (.refl _ _ _) (F0.out (by omega)) (.refl _ _ _) (G0.out (by omega))⟩
            · have hx0 := HRI.out.congr (N0.out (by omega)).symm
              go_wp2
              all_goals ((try simp only [Exit.inBlock, Exit.then]); first | go_end0 | refine bodyPost_ret (results_none rfl _ _ _) rfl ?_)
              all_goals exact ⟨rfl, FIN.out _ _ _ hx0 (.refl _ _ _) (F0.out (by omega)) (.refl _ _ _) (G0.out (by omega))⟩
end Go.Proofs.Yticdcdahehodkaa
/-! slices' SortStableFunc at ints. Condition: the row holds 0, 1, 2 .. in its first n places; cmp answers by a key. -/
namespace Go.Proofs.Yticdcdahehodkaa
set_option linter.unusedVariables false
set_option linter.unusedSimpArgs false
open Go.RowKit

theorem symm_any (blk n cap : Nat) (K : Nat → Int) (cf : Nat → Nat → Int) (cb : Value) (w0 : World) (hcf : ∀ x y, cf x y < 0 ↔ K x < K y) (hC : CmpAt w0 blk n cf cb) :
    ∀ l a m b d w, b - a ≤ l → a < m → m < b → b ≤ n → Srt K a m d → Srt K m b d → Low a m b d → RowI w0 w blk n d → SymC K cb blk n cap a m b d w0 w := by
  intro l
  induction l with
  | zero => intro a m b d w h1 h2 h3; omega
  | succ l ih =>
    intro a m b d w h1 h2 h3 hb hs hs' hl hR
    have IH : ∀ a' m' b' d' w', b' - a' < b - a → a' < m' → m' < b' → b' ≤ n → Srt K a' m' d' → Srt K m' b' d' → Low a' m' b' d' → RowI w0 w' blk n d' → SymC K cb blk n cap a' m' b' d' w0 w' :=
      fun a' m' b' d' w' h => ih a' m' b' d' w' (by omega)
    by_cases e1 : m = a + 1
    · subst e1
      exact symm_lo blk n cap a b d K cf cb w0 w hcf hC hR h3 hb hs' hl
    · by_cases e2 : b = m + 1
      · subst e2
        exact symm_hi blk n cap a m d K cf cb w0 w hcf hC hR (by omega) hb hs hl
      · by_cases e3 : (a + b) / 2 < m
        · exact symm_up blk n cap a m b ((a + b) / 2 + m - b) _ _ d K cf cb w0 w hcf hC hR (by omega) (by omega) hb hs hs' hl rfl rfl ⟨e3, by omega⟩ IH
        · exact symm_dn blk n cap a m b _ _ d K cf cb w0 w hcf hC hR (by omega) (by omega) hb hs hs' hl rfl rfl (by omega) IH

theorem wrapB {n : Nat} {z : Int} (hz : z = (n : Int)) (h : n < 9000000000000) : IntKind.i64.wrap z = (n : Int) := by rw [IntKind.wrap_i64]; omega
theorem ins_at (blk n cap a b : Nat) (za zb : Int) (d : Nat → Nat) (K : Nat → Int) (cf : Nat → Nat → Int) (cb : Value) (w0 w : World) (ea : za = a) (eb : zb = b) (hcf : ∀ x y, cf x y < 0 ↔ K x < K y) (hC : CmpAt w0 blk n cf cb) (hR : RowI w0 w blk n d) (hab : a ≤ b) (hb : b ≤ n) (hd : ∀ k, a ≤ k → k < b → d k = k) :
    Calls Try.prog 51 #[.slice (some ⟨blk, 0, none⟩) n cap, .int .i64 za, .int .i64 zb, .func (.func 36) #[] #[cb]] w fun e w' => e = .returned (.tuple #[]) ∧ ∃ d', RowI w0 w' blk n d' ∧ PermOn a b d d' ∧ Srt K a b d' := by
  subst ea; subst eb; exact insort_any blk n cap a b d K cf cb w0 w hcf hC hR hab hb hd
theorem sym_at (blk n cap a m b : Nat) (za zm zb : Int) (d : Nat → Nat) (K : Nat → Int) (cf : Nat → Nat → Int) (cb : Value) (w0 w : World) (ea : za = a) (em : zm = m) (eb : zb = b) (hcf : ∀ x y, cf x y < 0 ↔ K x < K y) (hC : CmpAt w0 blk n cf cb) (hR : RowI w0 w blk n d) (h1 : a < m) (h2 : m < b) (hb : b ≤ n)
    (hs : Srt K a m d ∧ Srt K m b d ∧ Low a m b d) :
    Calls Try.prog 52 #[.slice (some ⟨blk, 0, none⟩) n cap, .int .i64 za, .int .i64 zm, .int .i64 zb, .func (.func 36) #[] #[cb]] w fun e w' => e = .returned (.tuple #[]) ∧ ∃ d', RowI w0 w' blk n d' ∧ PermOn a b d d' ∧ Srt K a b d' := by
  subst ea; subst em; subst eb; exact symm_any blk n cap K cf cb w0 hcf hC (b - a) a m b d w (Nat.le_refl _) h1 h2 hb hs.1 hs.2.1 hs.2.2 hR

set_option maxRecDepth 100000 in
set_option maxHeartbeats 16000000 in
/-- the first n numbers, sorted by their keys -/
theorem stable_any (blk n cap : Nat) (K : Nat → Int) (cf : Nat → Nat → Int) (cb : Value) (w0 w : World) (hcf : ∀ x y, cf x y < 0 ↔ K x < K y) (hC : CmpAt w0 blk n cf cb) (hR : RowI w0 w blk n id) :
    Calls Try.prog 48 #[.slice (some ⟨blk, 0, none⟩) n cap, .int .i64 n, .func (.func 36) #[] #[cb]] w fun e w' => e = .returned (.tuple #[]) ∧ ∃ d', RowI w0 w' blk n d' ∧ PermOn 0 n id d' ∧ Srt K 0 n d' := by
  have hsz := hR.sz
  have H0 := Lib.hid hR
  have INS := Lib.hid (fun (a b : Nat) (d : Nat → Nat) (wr : World) (za zb : Int) (ea : za = a) (eb : zb = b) => ins_at blk n cap a b za zb d K cf cb w0 wr ea eb hcf hC)
  have SYM := Lib.hid (fun (a m b : Nat) (d : Nat → Nat) (wr : World) (za zm zb : Int) (ea : za = a) (em : zm = m) (eb : zb = b) => sym_at blk n cap a m b za zm zb d K cf cb w0 wr ea em eb hcf hC)
  clear hR hC hcf
  go_enter Try.func48, Try.ntmps48
  go_wp2
  go_loopg [7, 8] (n / 20 + 1) (fun gh va vb wr => ∃ (t : Nat) (d : Nat → Nat), va = .int .i64 ((t * 20 : Nat) : Int) ∧ vb = .int .i64 ((t * 20 + 20 : Nat) : Int) ∧ t * 20 ≤ n ∧ gh = n / 20 + 1 - t ∧ Begun K 20 n t d ∧ RowI w0 wr blk n d)
  case atStart => exact ⟨0, id, by go_num, by go_num, by omega, rfl, begun 20 n, H0.out⟩
  case round =>
    clear H0
    obtain ⟨t, d, rfl, rfl, htn, rfl, hB, hRi⟩ := hrel
    have HB := Lib.hid hB
    have HR := Lib.hid hRi
    clear hB hRi
    obtain ⟨a, ha⟩ : ∃ a, a = t * 20 := ⟨_, rfl⟩
    obtain ⟨b, hb⟩ : ∃ b, b = t * 20 + 20 := ⟨_, rfl⟩
    rw [← hb, ← ha]
    have hlt : (decide ((b : Int) ≤ (n : Int)) = true ∧ b ≤ n) ∨ (decide ((b : Int) ≤ (n : Int)) = false ∧ n < b) := by
      by_cases h : b ≤ n
      · exact .inl ⟨by rw [decide_eq_true_iff]; omega, h⟩
      · exact .inr ⟨by rw [decide_eq_false_iff_not]; omega, by omega⟩
    rcases hlt with ⟨hdk, hbn⟩ | ⟨hdk, hbn⟩
    · have c := INS.out a b d
      have w2 := wrapB (z := (b : Int) + 20) (n := b + 20) (by omega) (by omega)
      go_wp2_with (first | (go_at_call 51; (with_reducible refine (c _ _ _ (by omega) (by omega) HR.out (by omega) hbn (fun k h1 _ => HB.out.left k (by omega))).mono ?_); rintro e wx ⟨rfl, d', hx0, hp, hs⟩))
      go_roundg (n / 20 + 1 - (t + 1))
      case measure => omega
      case rel =>
        subst ha; subst hb
        exact ⟨t + 1, d', by go_num, by go_num, by omega, rfl, HB.out.next (by omega) hp hs, hx0⟩
    · have c := INS.out a n d
      have FIN := Lib.hid (fun (d' : Nat → Nat) (hp : PermOn a n d d') (hs : Srt K a n d') => show Blocks K 20 n d' from by subst ha; exact HB.out.close (by omega) htn hp hs)
      go_wp2_with (first | (go_at_call 51; (with_reducible refine (c _ _ _ (by omega) (by omega) HR.out (by omega) (Nat.le_refl _) (fun k h1 _ => HB.out.left k (by omega))).mono ?_); rintro e wx ⟨rfl, d', hx0, hp, hs⟩))
      have HX := Lib.hid hx0
      have HF := Lib.hid (FIN.out d' hp hs)
      clear hx0 hp hs FIN HB HR c
      clear hdk
      go_loopg [6] (n - 20) (fun gh vc wr => ∃ (c : Nat) (d : Nat → Nat), vc = .int .i64 c ∧ 20 ≤ c ∧ gh = n - c ∧ Blocks K c n d ∧ RowI w0 wr blk n d ∧ c < 2000000000000)
      case atStart => exact ⟨20, d', by go_num, by omega, rfl, HF.out, HX.out, by omega⟩
      case round =>
        clear HX HF
        obtain ⟨c, d2, rfl, hc, rfl, hB, hRi, hc2⟩ := hrel
        have HB := Lib.hid hB
        have HR := Lib.hid hRi
        clear hB hRi
        by_cases hcn : c < n
        · have hdk : decide ((c : Int) < (n : Int)) = true := by rw [decide_eq_true_iff]; omega
          obtain ⟨c2, hc2e⟩ : ∃ c2, c2 = 2 * c := ⟨_, rfl⟩
          have wc := wrapB (z := 2 * (c : Int)) (n := c2) (by omega) (by omega)
          have wc' := wrapB (z := (c : Int) * 2) (n := c2) (by omega) (by omega)
          go_wp2
          go_loopg [7, 8] n (fun gh va vb wr => ∃ (a t : Nat) (d : Nat → Nat), va = .int .i64 (a : Int) ∧ vb = .int .i64 ((a + c2 : Nat) : Int) ∧ a = t * (2 * c) ∧ a ≤ n ∧ gh = n - a ∧ Halfway K c n t d ∧ RowI w0 wr blk n d)
          case atStart => exact ⟨0, 0, d2, by go_num, by go_num, by omega, by omega, rfl, HB.out.half, HR.out⟩
          case round =>
            clear HR HB
            obtain ⟨a, t, d3, rfl, rfl, hat, han, rfl, hH, hRi⟩ := hrel
            have HH := Lib.hid hH
            have HR := Lib.hid hRi
            clear hH hRi
            obtain ⟨b, hb⟩ : ∃ b, b = a + c2 := ⟨_, rfl⟩
            rw [← hb]
            have wm := wrapB (z := (a : Int) + (c : Int)) (n := a + c) (by omega) (by omega)
            by_cases hbn : b ≤ n
            · have hdb : decide ((b : Int) ≤ (n : Int)) = true := by rw [decide_eq_true_iff]; omega
              have ct := SYM.out a (a + c) b d3
              have w2 := wrapB (z := (b : Int) + (c2 : Int)) (n := b + c2) (by omega) (by omega)
              have ASK := Lib.hid (show Srt K a (a + c) d3 ∧ Srt K (a + c) b d3 ∧ Low a (a + c) b d3 from by
                have := HH.out.ask b hbn (by omega) (by omega) (.inl (by omega)); rw [← hat] at this; exact this)
              have NXT := Lib.hid (fun (d' : Nat → Nat) (hp : PermOn a b d3 d') (hs : Srt K a b d') => show Halfway K c n (t + 1) d' from by
                rw [hb, hat, hc2e] at hp hs; exact HH.out.next (by omega) hp hs)
              have HT := Lib.hid (show b = (t + 1) * (2 * c) from by rw [Nat.add_mul, Nat.one_mul]; omega)
              have hac : a + c < b := by omega
              clear hat
              go_wp2_with (first | (go_at_call 52; (with_reducible refine (ct _ _ _ _ (by omega) (by omega) (by omega) HR.out (by omega) (by omega) hbn ASK.out).mono ?_); rintro e wx ⟨rfl, d', hx0, hp, hs⟩))
              go_roundg (n - b)
              case measure => omega
              case rel => exact ⟨b, t + 1, d', by go_num, by go_num, HT.out, hbn, rfl, NXT.out d' hp hs, hx0⟩
            · have hdb : decide ((b : Int) ≤ (n : Int)) = false := by rw [decide_eq_false_iff_not]; omega
              have CLO := Lib.hid (fun (d' : Nat → Nat) (hp : (n ≤ a + c ∧ d' = d3) ∨ (PermOn a n d3 d' ∧ Srt K a n d')) => show Blocks K c2 n d' from by
                rw [hc2e]; rw [hat] at hp; exact HH.out.close (by omega) hp)
              by_cases hmn : a + c < n
              · have hdm : decide (((a + c : Nat) : Int) < (n : Int)) = true := by rw [decide_eq_true_iff]; omega
                have ct := SYM.out a (a + c) n d3
                have ASK := Lib.hid (show Srt K a (a + c) d3 ∧ Srt K (a + c) n d3 ∧ Low a (a + c) n d3 from by
                  have := HH.out.ask n (Nat.le_refl _) (by omega) (by omega) (.inr rfl); rw [← hat] at this; exact this)
                clear hat
                go_wp2_with (first | (go_at_call 52; (with_reducible refine (ct _ _ _ _ (by omega) (by omega) (by omega) HR.out (by omega) (by omega) (Nat.le_refl _) ASK.out).mono ?_); rintro e wx ⟨rfl, d', hx0, hp, hs⟩))
                go_roundg (n - c2)
                case measure => omega
                case rel => exact ⟨c2, d', by go_num, by omega, rfl, CLO.out d' (.inr ⟨hp, hs⟩), hx0, by omega⟩
              · have hdm : decide (((a + c : Nat) : Int) < (n : Int)) = false := by rw [decide_eq_false_iff_not]; omega
                clear hat
                go_wp2
                go_roundg (n - c2)
                case measure => omega
                case rel => exact ⟨c2, d3, by go_num, by omega, rfl, CLO.out d3 (.inl ⟨by omega, rfl⟩), HR.out, by omega⟩
        · have hdk : decide ((c : Int) < (n : Int)) = false := by rw [decide_eq_false_iff_not]; omega
          go_wp2
          (try simp only [Exit.inBlock, Exit.then]); first | go_end0 | refine bodyPost_ret (results_none rfl _ _ _) rfl ?_
          exact ⟨rfl, d2, HR.out, (HB.out.end (by omega)).1, (HB.out.end (by omega)).2⟩

theorem sorted_any (blk n cap : Nat) (K : Nat → Int) (cf : Nat → Nat → Int) (cb : Value) (w0 w : World) (hcf : ∀ x y, cf x y < 0 ↔ K x < K y) (hC : CmpAt w0 blk n cf cb) (hR : RowI w0 w blk n id) :
    Calls Try.prog 35 #[.slice (some ⟨blk, 0, none⟩) n cap, .func (.func 36) #[] #[cb]] w fun e w' => e = .returned (.tuple #[]) ∧ ∃ d', RowI w0 w' blk n d' ∧ PermOn 0 n id d' ∧ Srt K 0 n d' := by
  have c := stable_any blk n cap K cf cb w0 w hcf hC hR
  clear hC hR hcf
  go_enter Try.func35, Try.ntmps35
  go_wp2_with (first | (go_at_call 48; (with_reducible refine (c).mono ?_); rintro e wx ⟨rfl, hx⟩))
  (try simp only [Exit.inBlock, Exit.then]); first | go_end0 | refine bodyPost_ret (results_none rfl _ _ _) rfl ?_
  exact ⟨rfl, hx⟩
end Go.Proofs.Yticdcdahehodkaa
/-! slices' ContainsFunc for 'below 0', and the order of what is left over: what they answer. Condition: the numbers fit their kinds. -/
namespace Go.Proofs.Yticdcdahehodkaa
set_option linter.unusedVariables false
set_option linter.unusedSimpArgs false
open Go.RowKit

set_option maxRecDepth 100000 in
set_option maxHeartbeats 1000000 in
theorem idx_any (a : Option Addr) (n cap : Nat) (Z : Nat → Int) (w : World) (hA : Ints w a n Z) (hn : n ≤ 2000) :
    Calls Try.prog 46 #[.slice a n cap, .func (.func 32) #[] #[]] w fun e w' => (∃ r : Int, e = .returned (.int .i64 r) ∧ (0 ≤ r ↔ ∃ i, i < n ∧ Z i < 0)) ∧ w = w' := by
  have HA := Lib.hid hA
  clear hA
  go_enter Try.func46, Try.ntmps46
  go_wp2
  go_loopg [8] n (fun gh vi wr => ∃ k : Nat, k ≤ n ∧ gh = n - k ∧ vi = .int .i64 k ∧ (∀ j, j < k → 0 ≤ Z j) ∧ w = wr)
  case atStart => exact ⟨0, by omega, by omega, rfl, fun j h => by omega, rfl⟩
  case round =>
    obtain ⟨k, hk, rfl, rfl, hj, rfl⟩ := hrel
    have HJ := Lib.hid hj
    clear hj
    by_cases hlt : k < n
    · obtain ⟨g, off, A, t, fr, rfl, hgA, hz⟩ := HA.out k hlt
      have hcA := cellF hgA
      have hki : (k : Int) < n := by omega
      have HZ := Lib.hid (show Z k = Z k from rfl)
      obtain ⟨z, hze⟩ : ∃ z, z = Z k := ⟨_, rfl⟩
      rw [← hze] at hz
      have HZE := Lib.hid hze
      clear hze HZ
      by_cases h0 : z < 0
      · go_wp2
        go_ret
        exact ⟨⟨k, rfl, fun _ => ⟨k, hlt, by rw [← HZE.out]; exact h0⟩, fun _ => by omega⟩, rfl⟩
      · go_wp2
        go_roundg (n - (k + 1))
        case measure => omega
        case rel =>
          refine ⟨k + 1, by omega, rfl, by go_num, fun j hj => ?_, rfl⟩
          by_cases e : j = k
          · subst e; rw [← HZE.out]; omega
          · exact HJ.out j (by omega)
    · obtain rfl : k = n := by omega
      go_wp2
      go_ret
      refine ⟨⟨_, rfl, fun h => by omega, fun ⟨i, hi, hz⟩ => ?_⟩, rfl⟩
      have := HJ.out i hi
      omega

set_option maxHeartbeats 1000000 in
theorem has_any (a : Option Addr) (n cap : Nat) (Z : Nat → Int) (w : World) (hA : Ints w a n Z) (hn : n ≤ 2000) :
    Calls Try.prog 31 #[.slice a n cap, .func (.func 32) #[] #[]] w fun e w' => (∃ b : Bool, e = .returned (.bool b) ∧ (b = true ↔ ∃ i, i < n ∧ Z i < 0)) ∧ w = w' := by
  have c := idx_any a n cap Z w hA hn
  clear hA
  go_enter Try.func31, Try.ntmps31
  go_wp2_with (first | (go_at_call 46; (with_reducible refine (c).mono ?_); rintro e w1 ⟨⟨r, rfl, hr⟩, rfl⟩; replace hr := Lib.hid hr))
  go_ret
  exact ⟨⟨_, rfl, (decide_eq_true_iff).trans hr.out⟩, rfl⟩

/-- which rest is the greater -/
def rcf (R : Nat → Nat) (x y : Nat) : Int := if R y < R x then -1 else if R x < R y then 1 else 0
theorem rcf_key (R : Nat → Nat) (x y : Nat) : rcf R x y < 0 ↔ -(R x : Int) < -(R y : Int) := by
  unfold rcf; split
  · omega
  · split <;> omega
set_option maxHeartbeats 1000000 in
theorem cmp_any (gv gu n x y : Nat) (R : Nat → Nat) (U A : Array Value) (tv tu : TypeId) (fv fu : Nat × Nat) (w : World) (hgA : w.heap[gv]? = some (.cells A tv fv)) (hA : A[0]? = some (.slice (some ⟨gu, 0, none⟩) n n)) (hgB : w.heap[gu]? = some (.cells U tu fu))
    (hU : ∀ i, i < n → U[i]? = some (.int .u64 (R i))) (hx : x < n) (hy : y < n) :
    Calls Try.prog 36 #[.int .i64 x, .int .i64 y, .pointer (some ⟨gv, 0, none⟩)] w fun e w' => e = .returned (.int .i64 (rcf R x y)) ∧ Below w.heap.size w w' := by
  have u1 := hU x hx
  have u2 := hU y hy
  obtain ⟨p, hp⟩ : ∃ p, p = R x := ⟨_, rfl⟩
  obtain ⟨q, hq⟩ : ∃ q, q = R y := ⟨_, rfl⟩
  rw [← hp] at u1
  rw [← hq] at u2
  have HF := Lib.hid (show rcf R x y = if q < p then -1 else if p < q then 1 else 0 from by rw [hp, hq]; rfl)
  have hxn : (x : Int) < n := by omega
  have hyn : (y : Int) < n := by omega
  clear hU hp hq
  by_cases h1 : q < p
  · have h1i : (q : Int) < p := by omega
    go_enter Try.func36, Try.ntmps36
    go_wp2
    refine wp_region_below (by kernel_rfl) (by kernel_rfl) ?_
    repeat (first | ((with_reducible apply q_skip); (case hw => rfl); (try simp only [Act.put, List.setIfInBounds_toArray, List.set_cons_zero, List.set_cons_succ])) | ((with_reducible apply q_val); (case hw => rfl); (case hv => intro wq hbq; have hcq := cellF (Yticdcdahehodkaa.kept hbq hgA); have hcr := cellF (Yticdcdahehodkaa.kept hbq hgB); go_simp; try rfl); (try simp only [Act.put, List.setIfInBounds_toArray, List.set_cons_zero, List.set_cons_succ])))
    refine q_nil ?_
    intro w4 hb4
    go_wp2
    go_ret
    exact ⟨by rw [HF.out, if_pos h1]; rfl, hb4⟩
  · have h1i : ¬ (q : Int) < p := by omega
    by_cases h2 : p < q
    · have h2i : (p : Int) < q := by omega
      go_enter Try.func36, Try.ntmps36
      go_wp2
      refine wp_region_below (by kernel_rfl) (by kernel_rfl) ?_
      repeat (first | ((with_reducible apply q_skip); (case hw => rfl); (try simp only [Act.put, List.setIfInBounds_toArray, List.set_cons_zero, List.set_cons_succ])) | ((with_reducible apply q_val); (case hw => rfl); (case hv => intro wq hbq; have hcq := cellF (Yticdcdahehodkaa.kept hbq hgA); have hcr := cellF (Yticdcdahehodkaa.kept hbq hgB); go_simp; try rfl); (try simp only [Act.put, List.setIfInBounds_toArray, List.set_cons_zero, List.set_cons_succ])))
      refine q_nil ?_
      intro w4 hb4
      have hgA4 := Yticdcdahehodkaa.kept hb4 hgA
      have hgB4 := Yticdcdahehodkaa.kept hb4 hgB
      have HB4 := Lib.hid hb4
      clear hgA hgB hb4
      have hgA := hgA4
      have hgB := hgB4
      go_wp2
      refine wp_region_below (by kernel_rfl) (by kernel_rfl) ?_
      repeat (first | ((with_reducible apply q_skip); (case hw => rfl); (try simp only [Act.put, List.setIfInBounds_toArray, List.set_cons_zero, List.set_cons_succ])) | ((with_reducible apply q_val); (case hw => rfl); (case hv => intro wq hbq; have hcq := cellF (Yticdcdahehodkaa.kept hbq hgA); have hcr := cellF (Yticdcdahehodkaa.kept hbq hgB); go_simp; try rfl); (try simp only [Act.put, List.setIfInBounds_toArray, List.set_cons_zero, List.set_cons_succ])))
      refine q_nil ?_
      intro w5 hb5
      go_wp2
      go_ret
      exact ⟨by rw [HF.out, if_neg h1, if_pos h2]; rfl, below_then HB4.out hb5⟩
    · have h2i : ¬ (p : Int) < q := by omega
      go_enter Try.func36, Try.ntmps36
      go_wp2
      refine wp_region_below (by kernel_rfl) (by kernel_rfl) ?_
      repeat (first | ((with_reducible apply q_skip); (case hw => rfl); (try simp only [Act.put, List.setIfInBounds_toArray, List.set_cons_zero, List.set_cons_succ])) | ((with_reducible apply q_val); (case hw => rfl); (case hv => intro wq hbq; have hcq := cellF (Yticdcdahehodkaa.kept hbq hgA); have hcr := cellF (Yticdcdahehodkaa.kept hbq hgB); go_simp; try rfl); (try simp only [Act.put, List.setIfInBounds_toArray, List.set_cons_zero, List.set_cons_succ])))
      refine q_nil ?_
      intro w4 hb4
      have hgA4 := Yticdcdahehodkaa.kept hb4 hgA
      have hgB4 := Yticdcdahehodkaa.kept hb4 hgB
      have HB4 := Lib.hid hb4
      clear hgA hgB hb4
      have hgA := hgA4
      have hgB := hgB4
      go_wp2
      refine wp_region_below (by kernel_rfl) (by kernel_rfl) ?_
      repeat (first | ((with_reducible apply q_skip); (case hw => rfl); (try simp only [Act.put, List.setIfInBounds_toArray, List.set_cons_zero, List.set_cons_succ])) | ((with_reducible apply q_val); (case hw => rfl); (case hv => intro wq hbq; have hcq := cellF (Yticdcdahehodkaa.kept hbq hgA); have hcr := cellF (Yticdcdahehodkaa.kept hbq hgB); go_simp; try rfl); (try simp only [Act.put, List.setIfInBounds_toArray, List.set_cons_zero, List.set_cons_succ])))
      refine q_nil ?_
      intro w5 hb5
      go_wp2
      go_ret
      exact ⟨by rw [HF.out, if_neg h1, if_neg h2]; rfl, below_then HB4.out hb5⟩
end Go.Proofs.Yticdcdahehodkaa
