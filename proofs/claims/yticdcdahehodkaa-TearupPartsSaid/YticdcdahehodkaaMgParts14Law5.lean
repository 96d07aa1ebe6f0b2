/- Texts that Parts14Law stands on, one behind the other, part 5. Conditions: each theorem names its own. -/
import Derived.Test.YticdcdahehodkaaMgParts14Law4
/-! slices' insertionSortCmpFunc at ints. Condition: cmp answers by a key, in every world where the row alone is another. -/
namespace Go.Proofs.Yticdcdahehodkaa
set_option linter.unusedVariables false
set_option linter.unusedSimpArgs false
open Go.RowKit

/-- called with two of the row's numbers, the function value hands back cf of them, and leaves old memory alone -/
def CmpAt (w0 : World) (blk n : Nat) (cf : Nat → Nat → Int) (cb : Value) : Prop := ∀ W, w0.grownBy W (some blk) → ∀ x y, x < n → y < n →
  Calls Try.prog 36 #[.int .i64 x, .int .i64 y, cb] W fun e w' => e = .returned (.int .i64 (cf x y)) ∧ Below W.heap.size W w'
theorem at_qcallv {P : Program} {ops : Array Oper} {C : World → Prop} {Q : Act → Prop} {rest : List Oper} {a : Act} {k : Tmp} {d : Option Tmp} {ags : Array Operand} {ts : Array TypeId} {ty : TypeId} {pos : String} {af : Array Edge} {gd : Option (Nat × Bool)}
    (h : WQ P ops C Q (⟨d, .call { callee := .value (.tmp k), args := ags, argTypes := ts }, ty, pos, af, gd⟩ :: rest) a) : WQ P ops C Q (⟨d, .call { callee := .value (.tmp k), args := ags, argTypes := ts }, ty, pos, af, gd⟩ :: rest) a := h
theorem CmpAt.q {w0 wr : World} {blk n : Nat} {cf : Nat → Nat → Int} {cb : Value} {d : Nat → Nat} (h : CmpAt w0 blk n cf cb) (hR : RowI w0 wr blk n d) (x y : Nat) (hx : x < n) (hy : y < n) :
    ∀ w, Below wr.heap.size wr w → Calls Try.prog 36 #[.int .i64 x, .int .i64 y, cb] w fun e w'' => e = .returned (.int .i64 (cf x y)) ∧ Below wr.heap.size wr w'' := fun w hb =>
  (h w (hR.below hb).fr x y hx hy).mono fun _ _ ⟨h1, h2⟩ => ⟨h1, below_then hb h2⟩
/-- the function value -/
def fvS (cb : Value) : Value := .func (.func 36) #[] #[cb]

theorem ins_end {K : Nat → Int} {a i j : Nat} {d : Nat → Nat} (hS : Srt K a i d) (h1 : a ≤ j) (h2 : j ≤ i) (hl : j = a ∨ ltK K (d (j - 1)) (d i)) (hr : ∀ k, j ≤ k → k < i → ltK K (d i) (d k)) :
    PermOn a (i + 1) d (rot j i (i + 1) d) ∧ Srt K a (i + 1) (rot j i (i + 1) d) := by
  refine ⟨(rot_perm d h2 (by omega)).mono h1 (Nat.le_refl _), merge_hi hS h1 h2 (fun k hk hk2 => ?_) hr⟩
  rcases hl with rfl | hl
  · omega
  · by_cases e : k = j - 1
    · subst e; exact hl
    · exact ltK_trans (hS k (j - 1) hk (by omega) (by omega)) hl

set_option maxHeartbeats 4000000 in
theorem insort_any (blk n cap a b : Nat) (d : Nat → Nat) (K : Nat → Int) (cf : Nat → Nat → Int) (cb : Value) (w0 w : World) (hcf : ∀ x y, cf x y < 0 ↔ K x < K y) (hC : CmpAt w0 blk n cf cb) (hR : RowI w0 w blk n d) (hab : a ≤ b) (hb : b ≤ n) (hd : ∀ k, a ≤ k → k < b → d k = k) :
    Calls Try.prog 51 #[.slice (some ⟨blk, 0, none⟩) n cap, .int .i64 a, .int .i64 b, fvS cb] w fun e w' => e = .returned (.tuple #[]) ∧ ∃ d', RowI w0 w' blk n d' ∧ PermOn a b d d' ∧ Srt K a b d' := by
  have hsz := hR.sz
  have H0 := Lib.hid hR
  have HC := Lib.hid hC
  have HD := Lib.hid hd
  have HCF := Lib.hid hcf
  clear hR hC hd hcf
  unfold fvS
  go_enter Try.func51, Try.ntmps51
  go_wp2
  go_loopg [8] (b - (a + 1)) (fun gh vi wr => ∃ (i : Nat) (di : Nat → Nat), vi = .int .i64 i ∧ a + 1 ≤ i ∧ gh = b - i ∧ (i ≤ b ∨ i = a + 1) ∧ PermOn a (min i b) d di ∧ Srt K a (min i b) di ∧ RowI w0 wr blk n di)
  case atStart => exact ⟨a + 1, d, by go_num, by omega, rfl, by omega, .refl _ _ _, fun x y hx hxy hy => by omega, H0.out⟩
  case round =>
    obtain ⟨i, di, rfl, hai, rfl, hib, hp, hs, hRi⟩ := hrel
    by_cases hlt : i < b
    · rw [Nat.min_eq_left (by omega)] at hp hs
      have hdi : di i = i := by rw [hp.out (by omega)]; exact HD.out i (by omega) hlt
      have HLT := Lib.hid (show ∀ k, a ≤ k → k < i → di k < di i from by
        rw [hdi]
        exact hp.all (p := fun x => x < i) (fun k h1 h2 => by rw [HD.out k h1 (by omega)]; exact h2))
      have HP := Lib.hid hp
      have HS := Lib.hid hs
      have HR := Lib.hid hRi
      clear hp hs hRi hdi H0
      have hin : i < n := by omega
      go_wp2
      go_loopg [9] (i - a) (fun g2 vj wr2 => ∃ j : Nat, vj = .int .i64 j ∧ a ≤ j ∧ j ≤ i ∧ g2 = j - a ∧ (∀ k, j ≤ k → k < i → ltK K (di i) (di k)) ∧ RowI w0 wr2 blk n (rot j i (i + 1) di))
      case atStart => exact ⟨i, rfl, by omega, Nat.le_refl _, rfl, fun k h1 h2 => by omega, HR.out.congr (rot_left i (i + 1) di).symm⟩
      case round =>
        obtain ⟨j, rfl, haj, hji, rfl, hr, hRj⟩ := hrel
        have HRR := Lib.hid hr
        have HRJ := Lib.hid hRj
        clear hr hRj HR
        have OUT := Lib.hid (fun (wx : World) (hx : RowI w0 wx blk n (rot j i (i + 1) di)) (hl : j = a ∨ ltK K (di (j - 1)) (di i)) => show ∃ di', RowI w0 wx blk n di' ∧ PermOn a (min (i + 1) b) d di' ∧ Srt K a (min (i + 1) b) di' from by
          rw [Nat.min_eq_left (by omega)]
          obtain ⟨e1, e2⟩ := ins_end HS.out haj hji hl HRR.out
          exact ⟨_, hx, (HP.out.mono (Nat.le_refl _) (by omega)).trans e1, e2⟩)
        by_cases hja : a < j
        · obtain ⟨q, hq⟩ : ∃ q, q = j - 1 := ⟨_, rfl⟩
          have zq := wrapN (z := (j : Int) - 1) (n := q) (by omega) (by omega)
          have hjn : (j : Int) < (n : Int) := by omega
          have hqn : (q : Int) < (n : Int) := by omega
          obtain ⟨dj, hdj⟩ : ∃ dj, dj = rot j i (i + 1) di := ⟨_, rfl⟩
          obtain ⟨x, hx⟩ : ∃ x, x = dj j := ⟨_, rfl⟩
          obtain ⟨y, hy⟩ : ∃ y, y = dj q := ⟨_, rfl⟩
          have exi : x = di i := by
            rw [hx, hdj]; unfold rot; repeat' split
            all_goals first | rfl | (exfalso; omega) | (congr 1; omega)
          have eyi : y = di (j - 1) := by
            rw [hy, hdj, hq]; unfold rot; repeat' split
            all_goals first | rfl | (exfalso; omega) | (congr 1; omega)
          have HRD := Lib.hid (hdj ▸ HRJ.out : RowI w0 wr blk n dj)
          have HX := Lib.hid (show ∀ wq, Below wr.heap.size wr wq → wq.cell? ⟨blk, j, none⟩ = some (.int .i64 x) from fun wq hb => by rw [hx]; exact ((HRD.out.below hb).cell j (by omega)).1)
          have HY := Lib.hid (show ∀ wq, Below wr.heap.size wr wq → wq.cell? ⟨blk, q, none⟩ = some (.int .i64 y) from fun wq hb => by rw [hy]; exact ((HRD.out.below hb).cell q (by omega)).1)
          have HCQ := Lib.hid (HC.out.q HRD.out x y (by rw [hx]; exact HRD.out.lt _ (by omega)) (by rw [hy]; exact HRD.out.lt _ (by omega)))
          have hlt' : y < x := by rw [exi, eyi]; exact HLT.out _ (by omega) (by omega)
          have HDJ := Lib.hid hdj
          have HXY := Lib.hid (show x = dj j ∧ y = dj q ∧ x = di i ∧ y = di (j - 1) ∧ q = j - 1 ∧ y < x from ⟨hx, hy, exi, eyi, hq, hlt'⟩)
          clear hdj hx hy exi eyi hq hlt'
          by_cases hk : cf x y < 0
          · go_wp2
            refine wp_region_below (by kernel_rfl) (by kernel_rfl) ?_
            repeat (first | ((with_reducible apply q_skip); (case hw => rfl); (try simp only [Act.put, List.setIfInBounds_toArray, List.set_cons_zero, List.set_cons_succ])) | ((with_reducible refine at_qcallv ?_); refine q_call (.int .i64 (cf x y)) 36 #[.int .i64 x, .int .i64 y, cb] (by rfl) (fun wq hq => by go_simp) HCQ.out ?_; (try simp only [Act.put, List.setIfInBounds_toArray, List.set_cons_zero, List.set_cons_succ])) | ((with_reducible apply q_val); (case hw => rfl); (case hv => intro wq hbq; have hcx := HX.out wq hbq; have hcy := HY.out wq hbq; go_simp; try rfl); (try simp only [Act.put, List.setIfInBounds_toArray, List.set_cons_zero, List.set_cons_succ])))
            refine q_nil ?_
            intro w4 hb4
            have HR4 := Lib.hid (HRD.out.below hb4)
            obtain ⟨⟨c1, c2⟩, ⟨f1, f2⟩, u, c3⟩ := HR4.out.two (p := j) (q := q) (by omega) (by omega) (.int .i64 (dj q))
            go_wp2
            go_region
            go_wp2
            go_roundg (j - 1 - a)
            case measure => omega
            case rel =>
              obtain ⟨x1, x2, x3, x4, x5, x6⟩ := HXY.out
              subst x5
              refine ⟨j - 1, by go_num, by omega, by omega, rfl, fun k h1 h2 => ?_, ((HR4.out.swap (by omega) (by omega) rfl).drew.congr ?_)⟩
              · by_cases e : k = j - 1
                · subst e; rw [← x3, ← x4]; exact .inl ((HCF.out _ _).1 hk)
                · exact HRR.out k (by omega) h2
              · rw [HDJ.out]; exact rot_down di (by omega) hji
          · go_wp2
            refine wp_region_below (by kernel_rfl) (by kernel_rfl) ?_
            repeat (first | ((with_reducible apply q_skip); (case hw => rfl); (try simp only [Act.put, List.setIfInBounds_toArray, List.set_cons_zero, List.set_cons_succ])) | ((with_reducible refine at_qcallv ?_); refine q_call (.int .i64 (cf x y)) 36 #[.int .i64 x, .int .i64 y, cb] (by rfl) (fun wq hq => by go_simp) HCQ.out ?_; (try simp only [Act.put, List.setIfInBounds_toArray, List.set_cons_zero, List.set_cons_succ])) | ((with_reducible apply q_val); (case hw => rfl); (case hv => intro wq hbq; have hcx := HX.out wq hbq; have hcy := HY.out wq hbq; go_simp; try rfl); (try simp only [Act.put, List.setIfInBounds_toArray, List.set_cons_zero, List.set_cons_succ])))
            refine q_nil ?_
            intro w4 hb4
            obtain ⟨di', e1, e2, e3⟩ := OUT.out w4 ((HRD.out.below hb4).congr HDJ.out) (.inr (by
              obtain ⟨x1, x2, x3, x4, x5, x6⟩ := HXY.out
              rw [← x3, ← x4]; exact ltK_no x6 (fun h => by have := (HCF.out _ _).2 h; omega)))
            go_wp2
            go_roundg (b - (i + 1))
            case measure => omega
            case rel => exact ⟨i + 1, di', by go_num, by omega, rfl, by omega, e2, e3, e1⟩
        · obtain ⟨di', e1, e2, e3⟩ := OUT.out wr HRJ.out (.inl (by omega))
          have hja' : j = a := by omega
          clear HRJ OUT HRR
          subst hja'
          go_wp2
          refine wp_region_below (by kernel_rfl) (by kernel_rfl) ?_
          repeat (first | ((with_reducible apply q_skip); (case hw => rfl); (try simp only [Act.put, List.setIfInBounds_toArray, List.set_cons_zero, List.set_cons_succ])) | ((with_reducible apply q_val); (case hw => rfl); (case hv => intro wq hbq; go_simp; try rfl); (try simp only [Act.put, List.setIfInBounds_toArray, List.set_cons_zero, List.set_cons_succ])))
          refine q_nil ?_
          intro w4 hb4
          have HR4 := Lib.hid (e1.below hb4)
          clear e1
          go_wp2
          go_roundg (b - (i + 1))
          case measure => omega
          case rel => exact ⟨i + 1, di', by go_num, by omega, rfl, by omega, e2, e3, HR4.out⟩
    · rw [Nat.min_eq_right (by omega)] at hp hs
      have HP := Lib.hid hp
      have HS := Lib.hid hs
      have HR := Lib.hid hRi
      clear hp hs hRi
      go_wp2
      (try simp only [Exit.inBlock, Exit.then]); first | go_end0 | refine bodyPost_ret (results_none rfl _ _ _) rfl ?_
      exact ⟨rfl, di, HR.out, HP.out, HS.out⟩
end Go.Proofs.Yticdcdahehodkaa
/-! slices' symMergeCmpFunc at ints, where one side has one number alone. Condition: as at the insertion sort. -/
namespace Go.Proofs.Yticdcdahehodkaa
set_option linter.unusedVariables false
set_option linter.unusedSimpArgs false
open Go.RowKit

theorem half_lt {i j : Nat} (h : i < j) : i ≤ (i + j) / 2 ∧ (i + j) / 2 < j := by omega
set_option maxRecDepth 100000 in
set_option maxHeartbeats 16000000 in
theorem symm_lo (blk n cap a b : Nat) (d : Nat → Nat) (K : Nat → Int) (cf : Nat → Nat → Int) (cb : Value) (w0 w : World) (hcf : ∀ x y, cf x y < 0 ↔ K x < K y) (hC : CmpAt w0 blk n cf cb) (hR : RowI w0 w blk n d)
    (hab : a + 1 < b) (hb : b ≤ n) (hs : Srt K (a + 1) b d) (hl : Low a (a + 1) b d) :
    Calls Try.prog 52 #[.slice (some ⟨blk, 0, none⟩) n cap, .int .i64 a, .int .i64 ((a + 1 : Nat) : Int), .int .i64 b, fvS cb] w fun e w' => e = .returned (.tuple #[]) ∧ ∃ d', RowI w0 w' blk n d' ∧ PermOn a b d d' ∧ Srt K a b d' := by
  have hsz := hR.sz
  have H0 := Lib.hid hR
  have HC := Lib.hid hC
  have HS := Lib.hid hs
  have HL := Lib.hid hl
  have HCF := Lib.hid hcf
  clear hR hC hs hl hcf
  obtain ⟨m, hm⟩ : ∃ m, m = a + 1 := ⟨_, rfl⟩
  rw [← hm]
  have wm := wrapN (z := (m : Int) - (a : Int)) (n := 1) (by omega) (by omega)
  have HM := Lib.hid hm
  have hmb : m < b := by omega
  have ham : a < m := by omega
  clear hm hab
  unfold fvS
  go_enter Try.func52, Try.ntmps52
  go_wp2
  go_loopg [10, 11] (b - m) (fun gh vi vj wr => ∃ i j : Nat, vi = .int .i64 i ∧ vj = .int .i64 j ∧ m ≤ i ∧ i ≤ j ∧ j ≤ b ∧ gh = j - i ∧ (∀ k, m ≤ k → k < i → ltK K (d k) (d a)) ∧ (∀ k, j ≤ k → k < b → ltK K (d a) (d k)) ∧ RowI w0 wr blk n d)
  case atStart => exact ⟨m, b, rfl, rfl, Nat.le_refl _, by omega, Nat.le_refl _, rfl, fun k h1 h2 => by omega, fun k h1 h2 => by omega, H0.out⟩
  case round =>
    clear H0
    obtain ⟨i, j, rfl, rfl, hi, hij, hj, rfl, hll, hrr, hRi⟩ := hrel
    have HLL := Lib.hid hll
    have HRR := Lib.hid hrr
    have HRI := Lib.hid hRi
    clear hll hrr hRi
    by_cases hlt : i < j
    · obtain ⟨h, hh⟩ : ∃ h, h = (i + j) / 2 := ⟨_, rfl⟩
      have hh2 := half_lt hlt
      rw [← hh] at hh2
      have hz : ((i : Int) + (j : Int)) / 2 = (h : Int) := by omega
      clear hh
      obtain ⟨x, hx⟩ : ∃ x, x = d h := ⟨_, rfl⟩
      obtain ⟨y, hy⟩ : ∃ y, y = d a := ⟨_, rfl⟩
      have hhn : (h : Int) < (n : Int) := by omega
      have han : (a : Int) < (n : Int) := by omega
      have HX := Lib.hid (show ∀ wq, Below wr.heap.size wr wq → wq.cell? ⟨blk, h, none⟩ = some (.int .i64 x) from fun wq hb => by rw [hx]; exact ((HRI.out.below hb).cell h (by omega)).1)
      have HY := Lib.hid (show ∀ wq, Below wr.heap.size wr wq → wq.cell? ⟨blk, a, none⟩ = some (.int .i64 y) from fun wq hb => by rw [hy]; exact ((HRI.out.below hb).cell a (by omega)).1)
      have HCQ := Lib.hid (HC.out.q HRI.out x y (by rw [hx]; exact HRI.out.lt _ (by omega)) (by rw [hy]; exact HRI.out.lt _ (by omega)))
      have hlo : d a < d h := HL.out a h (Nat.le_refl _) (by omega) (by rw [← HM.out]; omega) (by omega)
      have HXY := Lib.hid (show x = d h ∧ y = d a ∧ y < x from ⟨hx, hy, by rw [hx, hy]; exact hlo⟩)
      clear hx hy hlo
      by_cases hk : cf x y < 0
      · go_wp2
        refine wp_region_below (by kernel_rfl) (by kernel_rfl) ?_
        repeat (first | ((with_reducible apply q_skip); (case hw => rfl); (try simp only [Act.put, List.setIfInBounds_toArray, List.set_cons_zero, List.set_cons_succ])) | ((with_reducible refine at_qcallv ?_); refine q_call (.int .i64 (cf x y)) 36 #[.int .i64 x, .int .i64 y, cb] (by rfl) (fun wq hq => by go_simp) HCQ.out ?_; (try simp only [Act.put, List.setIfInBounds_toArray, List.set_cons_zero, List.set_cons_succ])) | ((with_reducible apply q_val); (case hw => rfl); (case hv => intro wq hbq; have hcx := HX.out wq hbq; have hcy := HY.out wq hbq; go_simp; try rfl); (try simp only [Act.put, List.setIfInBounds_toArray, List.set_cons_zero, List.set_cons_succ])))
        refine q_nil ?_
        intro w4 hb4
        have wh1 := wrapN (z := (h : Int) + 1) (n := h + 1) (by omega) (by omega)
        go_wp2
        go_roundg (j - (h + 1))
        case measure => omega
        case rel =>
          obtain ⟨x1, x2, x3⟩ := HXY.out
          refine ⟨h + 1, j, by go_num, rfl, by omega, by omega, hj, rfl, fun k h1 h2 => ?_, HRR.out, HRI.out.below hb4⟩
          have hk' : ltK K (d h) (d a) := by rw [← x1, ← x2]; exact .inl ((HCF.out _ _).1 hk)
          by_cases e : k = h
          · subst e; exact hk'
          · exact ltK_trans (HS.out k h (by rw [← HM.out]; omega) (by omega) (by omega)) hk'
      · go_wp2
        refine wp_region_below (by kernel_rfl) (by kernel_rfl) ?_
        repeat (first | ((with_reducible apply q_skip); (case hw => rfl); (try simp only [Act.put, List.setIfInBounds_toArray, List.set_cons_zero, List.set_cons_succ])) | ((with_reducible refine at_qcallv ?_); refine q_call (.int .i64 (cf x y)) 36 #[.int .i64 x, .int .i64 y, cb] (by rfl) (fun wq hq => by go_simp) HCQ.out ?_; (try simp only [Act.put, List.setIfInBounds_toArray, List.set_cons_zero, List.set_cons_succ])) | ((with_reducible apply q_val); (case hw => rfl); (case hv => intro wq hbq; have hcx := HX.out wq hbq; have hcy := HY.out wq hbq; go_simp; try rfl); (try simp only [Act.put, List.setIfInBounds_toArray, List.set_cons_zero, List.set_cons_succ])))
        refine q_nil ?_
        intro w4 hb4
        go_wp2
        go_roundg (h - i)
        case measure => omega
        case rel =>
          obtain ⟨x1, x2, x3⟩ := HXY.out
          refine ⟨i, h, rfl, rfl, hi, by omega, by omega, rfl, HLL.out, fun k h1 h2 => ?_, HRI.out.below hb4⟩
          have hk' : ltK K (d a) (d h) := by rw [← x1, ← x2]; exact ltK_no x3 (fun h => by have := (HCF.out _ _).2 h; omega)
          by_cases e : k = h
          · subst e; exact hk'
          · exact ltK_trans hk' (HS.out h k (by rw [← HM.out]; omega) (by omega) (by omega))
    · obtain rfl : i = j := by omega
      have END := Lib.hid (show PermOn a b d (rot a m i d) ∧ Srt K a b (rot a m i d) from by
        have hm := HM.out
        subst hm
        exact ⟨(rot_perm d (by omega) (by omega)).mono (Nat.le_refl _) hj, merge_lo HS.out hi hj HLL.out HRR.out⟩)
      clear HLL HRR HC HS HL HCF
      have wi := wrapN (z := (i : Int) - 1) (n := i - 1) (by omega) (by omega)
      go_wp2
      go_loopg [13] (i - 1 - a) (fun gh vk wr => ∃ k : Nat, vk = .int .i64 k ∧ a ≤ k ∧ k + 1 ≤ i ∧ gh = i - 1 - k ∧ RowI w0 wr blk n (rot a m (k + 1) d))
      case atStart => exact ⟨a, rfl, Nat.le_refl _, by omega, rfl, HRI.out.congr (by rw [HM.out]; exact (rot_right a (a + 1) d).symm)⟩
      case round =>
        clear HRI
        obtain ⟨k, rfl, h1, h2, rfl, hRk⟩ := hrel
        have HRK := Lib.hid hRk
        clear hRk
        by_cases hlt2 : k < i - 1
        · obtain ⟨q, hq⟩ : ∃ q, q = k + 1 := ⟨_, rfl⟩
          obtain ⟨dj, hdj⟩ : ∃ dj, dj = rot a m (k + 1) d := ⟨_, rfl⟩
          have HRD := Lib.hid (hdj ▸ HRK.out : RowI w0 wr blk n dj)
          have wk := wrapN (z := (k : Int) + 1) (n := q) (by omega) (by omega)
          have hkn : (k : Int) < (n : Int) := by omega
          have hqn : (q : Int) < (n : Int) := by omega
          have hki : (k : Int) < (i : Int) - 1 := by omega
          obtain ⟨⟨c1, c2⟩, ⟨f1, f2⟩, u, c3⟩ := HRD.out.two (p := k) (q := q) (by omega) (by omega) (.int .i64 (dj q))
          have HDJ := Lib.hid hdj
          have HQ := Lib.hid hq
          clear hdj hq HRK
          go_wp2
          go_region
          go_wp2
          go_roundg (i - 1 - q)
          case measure => have := HQ.out; omega
          case rel =>
            have hq := HQ.out
            refine ⟨q, by go_num, by omega, by omega, rfl, ((HRD.out.swap (by omega) (by omega) rfl).drew.congr ?_)⟩
            rw [HDJ.out, HM.out, hq]; exact rot_up d h1
        · obtain rfl : k = i - 1 := by omega
          go_wp2
          (try simp only [Exit.inBlock, Exit.then]); first | go_end0 | refine bodyPost_ret (results_none rfl _ _ _) rfl ?_
          exact ⟨rfl, _, HRK.out.congr (by rw [show i - 1 + 1 = i by omega]), END.out.1, END.out.2⟩

set_option maxRecDepth 100000 in
set_option maxHeartbeats 16000000 in
theorem symm_hi (blk n cap a m : Nat) (d : Nat → Nat) (K : Nat → Int) (cf : Nat → Nat → Int) (cb : Value) (w0 w : World) (hcf : ∀ x y, cf x y < 0 ↔ K x < K y) (hC : CmpAt w0 blk n cf cb) (hR : RowI w0 w blk n d)
    (ham : a + 1 < m) (hb : m + 1 ≤ n) (hs : Srt K a m d) (hl : Low a m (m + 1) d) :
    Calls Try.prog 52 #[.slice (some ⟨blk, 0, none⟩) n cap, .int .i64 a, .int .i64 m, .int .i64 ((m + 1 : Nat) : Int), fvS cb] w fun e w' => e = .returned (.tuple #[]) ∧ ∃ d', RowI w0 w' blk n d' ∧ PermOn a (m + 1) d d' ∧ Srt K a (m + 1) d' := by
  have hsz := hR.sz
  have H0 := Lib.hid hR
  have HC := Lib.hid hC
  have HS := Lib.hid hs
  have HL := Lib.hid hl
  have HCF := Lib.hid hcf
  clear hR hC hs hl hcf
  obtain ⟨b, hbe⟩ : ∃ b, b = m + 1 := ⟨_, rfl⟩
  rw [← hbe]
  obtain ⟨l, hl⟩ : ∃ l, l = m - a := ⟨_, rfl⟩
  have wm := wrapN (z := (m : Int) - (a : Int)) (n := l) (by omega) (by omega)
  have hl1 : ((l : Int) == 1) = false := by rw [beq_eq_false_iff_ne]; omega
  have wb := wrapN (z := (b : Int) - (m : Int)) (n := 1) (by omega) (by omega)
  have HM := Lib.hid hbe
  have hmn : m < n := by omega
  have hmnz : (m : Int) < (n : Int) := by omega
  clear hbe hl
  unfold fvS
  go_enter Try.func52, Try.ntmps52
  go_wp2
  go_loopg [14, 15] (m - a) (fun gh vi vj wr => ∃ i j : Nat, vi = .int .i64 i ∧ vj = .int .i64 j ∧ a ≤ i ∧ i ≤ j ∧ j ≤ m ∧ gh = j - i ∧ (∀ k, a ≤ k → k < i → ltK K (d k) (d m)) ∧ (∀ k, j ≤ k → k < m → ltK K (d m) (d k)) ∧ RowI w0 wr blk n d)
  case atStart => exact ⟨a, m, rfl, rfl, Nat.le_refl _, by omega, Nat.le_refl _, rfl, fun k h1 h2 => by omega, fun k h1 h2 => by omega, H0.out⟩
  case round =>
    clear H0
    obtain ⟨i, j, rfl, rfl, hi, hij, hj, rfl, hll, hrr, hRi⟩ := hrel
    have HLL := Lib.hid hll
    have HRR := Lib.hid hrr
    have HRI := Lib.hid hRi
    clear hll hrr hRi
    by_cases hlt : i < j
    · obtain ⟨h, hh⟩ : ∃ h, h = (i + j) / 2 := ⟨_, rfl⟩
      have hh2 := half_lt hlt
      rw [← hh] at hh2
      have hz : ((i : Int) + (j : Int)) / 2 = (h : Int) := by omega
      clear hh
      obtain ⟨x, hx⟩ : ∃ x, x = d m := ⟨_, rfl⟩
      obtain ⟨y, hy⟩ : ∃ y, y = d h := ⟨_, rfl⟩
      have hhn : (h : Int) < (n : Int) := by omega
      have HX := Lib.hid (show ∀ wq, Below wr.heap.size wr wq → wq.cell? ⟨blk, m, none⟩ = some (.int .i64 x) from fun wq hb => by rw [hx]; exact ((HRI.out.below hb).cell m (by omega)).1)
      have HY := Lib.hid (show ∀ wq, Below wr.heap.size wr wq → wq.cell? ⟨blk, h, none⟩ = some (.int .i64 y) from fun wq hb => by rw [hy]; exact ((HRI.out.below hb).cell h (by omega)).1)
      have HCQ := Lib.hid (HC.out.q HRI.out x y (by rw [hx]; exact HRI.out.lt _ (by omega)) (by rw [hy]; exact HRI.out.lt _ (by omega)))
      have hlo : d h < d m := HL.out h m (by omega) (by omega) (Nat.le_refl _) (by omega)
      have HXY := Lib.hid (show x = d m ∧ y = d h ∧ y < x from ⟨hx, hy, by rw [hx, hy]; exact hlo⟩)
      clear hx hy hlo
      by_cases hk : cf x y < 0
      · have hdk : decide (cf x y < 0) = true := decide_eq_true hk
        go_wp2
        refine wp_region_below (by kernel_rfl) (by kernel_rfl) ?_
        repeat (first | ((with_reducible apply q_skip); (case hw => rfl); (try simp only [Act.put, List.setIfInBounds_toArray, List.set_cons_zero, List.set_cons_succ])) | ((with_reducible refine at_qcallv ?_); refine q_call (.int .i64 (cf x y)) 36 #[.int .i64 x, .int .i64 y, cb] (by rfl) (fun wq hq => by go_simp) HCQ.out ?_; (try simp only [Act.put, List.setIfInBounds_toArray, List.set_cons_zero, List.set_cons_succ])) | ((with_reducible apply q_val); (case hw => rfl); (case hv => intro wq hbq; have hcx := HX.out wq hbq; have hcy := HY.out wq hbq; go_simp; try rfl); (try simp only [Act.put, List.setIfInBounds_toArray, List.set_cons_zero, List.set_cons_succ])))
        refine q_nil ?_
        intro w4 hb4
        go_wp2
        go_roundg (h - i)
        case measure => omega
        case rel =>
          obtain ⟨x1, x2, x3⟩ := HXY.out
          refine ⟨i, h, rfl, rfl, hi, by omega, by omega, rfl, HLL.out, fun k h1 h2 => ?_, HRI.out.below hb4⟩
          have hk' : ltK K (d m) (d h) := by rw [← x1, ← x2]; exact .inl ((HCF.out _ _).1 hk)
          by_cases e : k = h
          · subst e; exact hk'
          · exact ltK_trans hk' (HS.out h k (by omega) (by omega) (by omega))
      · have hdk : decide (cf x y < 0) = false := decide_eq_false hk
        go_wp2
        refine wp_region_below (by kernel_rfl) (by kernel_rfl) ?_
        repeat (first | ((with_reducible apply q_skip); (case hw => rfl); (try simp only [Act.put, List.setIfInBounds_toArray, List.set_cons_zero, List.set_cons_succ])) | ((with_reducible refine at_qcallv ?_); refine q_call (.int .i64 (cf x y)) 36 #[.int .i64 x, .int .i64 y, cb] (by rfl) (fun wq hq => by go_simp) HCQ.out ?_; (try simp only [Act.put, List.setIfInBounds_toArray, List.set_cons_zero, List.set_cons_succ])) | ((with_reducible apply q_val); (case hw => rfl); (case hv => intro wq hbq; have hcx := HX.out wq hbq; have hcy := HY.out wq hbq; go_simp; try rfl); (try simp only [Act.put, List.setIfInBounds_toArray, List.set_cons_zero, List.set_cons_succ])))
        refine q_nil ?_
        intro w4 hb4
        have wh1 := wrapN (z := (h : Int) + 1) (n := h + 1) (by omega) (by omega)
        go_wp2
        go_roundg (j - (h + 1))
        case measure => omega
        case rel =>
          obtain ⟨x1, x2, x3⟩ := HXY.out
          refine ⟨h + 1, j, by go_num, rfl, by omega, by omega, hj, rfl, fun k h1 h2 => ?_, HRR.out, HRI.out.below hb4⟩
          have hk' : ltK K (d h) (d m) := by rw [← x1, ← x2]; exact ltK_no x3 (fun h => by have := (HCF.out _ _).2 h; omega)
          by_cases e : k = h
          · subst e; exact hk'
          · exact ltK_trans (HS.out k h (by omega) (by omega) (by omega)) hk'
    · obtain rfl : i = j := by omega
      have END := Lib.hid (show PermOn a b d (rot i m b d) ∧ Srt K a b (rot i m b d) from by
        have hm := HM.out
        subst hm
        exact ⟨(rot_perm d (by omega) (by omega)).mono hi (Nat.le_refl _), merge_hi HS.out hi hj HLL.out HRR.out⟩)
      clear HLL HRR HC HS HL HCF
      go_wp2
      go_loopg [17] (m - i) (fun gh vk wr => ∃ k : Nat, vk = .int .i64 k ∧ i ≤ k ∧ k ≤ m ∧ gh = k - i ∧ RowI w0 wr blk n (rot k m b d))
      case atStart => exact ⟨m, rfl, hj, Nat.le_refl _, rfl, HRI.out.congr (rot_left m b d).symm⟩
      case round =>
        clear HRI
        obtain ⟨k, rfl, h1, h2, rfl, hRk⟩ := hrel
        have HRK := Lib.hid hRk
        clear hRk
        by_cases hlt2 : i < k
        · obtain ⟨q, hq⟩ : ∃ q, q = k - 1 := ⟨_, rfl⟩
          obtain ⟨dj, hdj⟩ : ∃ dj, dj = rot k m b d := ⟨_, rfl⟩
          have HRD := Lib.hid (hdj ▸ HRK.out : RowI w0 wr blk n dj)
          have wk := wrapN (z := (k : Int) - 1) (n := q) (by omega) (by omega)
          have hkn : (k : Int) < (n : Int) := by omega
          have hqn : (q : Int) < (n : Int) := by omega
          obtain ⟨⟨c1, c2⟩, ⟨f1, f2⟩, u, c3⟩ := HRD.out.two (p := k) (q := q) (by omega) (by omega) (.int .i64 (dj q))
          have HDJ := Lib.hid hdj
          have HQ := Lib.hid hq
          clear hdj hq HRK
          go_wp2
          go_region
          go_wp2
          go_roundg (q - i)
          case measure => have := HQ.out; omega
          case rel =>
            have hq := HQ.out
            refine ⟨q, by go_num, by omega, by omega, rfl, ((HRD.out.swap (by omega) (by omega) rfl).drew.congr ?_)⟩
            rw [HDJ.out, HM.out, hq]; exact rot_down d (by omega) h2
        · obtain rfl : k = i := by omega
          go_wp2
          (try simp only [Exit.inBlock, Exit.then]); first | go_end0 | refine bodyPost_ret (results_none rfl _ _ _) rfl ?_
          exact ⟨rfl, _, HRK.out, END.out.1, END.out.2⟩
end Go.Proofs.Yticdcdahehodkaa
