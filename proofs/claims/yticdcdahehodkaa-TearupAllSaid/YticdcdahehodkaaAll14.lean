/- TearupAll, walked: it returns true. Condition: the numbers fit their kinds. -/
import Derived.Test.YticdcdahehodkaaWhole14
namespace Go.Proofs.Yticdcdahehodkaa
set_option linter.unusedVariables false
set_option linter.unusedSimpArgs false
open Go.RowKit

theorem oppI_pos {q n : Int} (h : 0 < q) : oppI q n = max 0 (-n) := by
  unfold oppI absI
  rw [decide_eq_true h]
  by_cases h2 : 0 < n
  · rw [decide_eq_true h2, if_pos rfl]; omega
  · rw [decide_eq_false h2, if_neg (by simp)]; split <;> omega
theorem oppI_negq {q n : Int} (h : q < 0) : oppI q n = max 0 n := by
  unfold oppI absI
  rw [decide_eq_false (show ¬ 0 < q by omega)]
  by_cases h2 : 0 < n
  · rw [decide_eq_true h2, if_neg (by simp), if_pos (by omega)]; omega
  · rw [decide_eq_false h2, if_pos rfl]; omega
/-- a split of all gives each its weight -/
theorem prt_full {W : Nat → Nat} {n i : Nat} (hS : 0 < sumN W n) : prt W n (sumN W n) i = W i := by
  have h1 : ∀ i, flo W n (sumN W n) i = W i := fun i => by unfold flo; exact Nat.mul_div_cancel_left _ hS
  have h2 : lef W n (sumN W n) = 0 := by
    unfold lef; rw [sumN_congr n (fun i _ => h1 i)]; omega
  unfold prt
  rw [h1, h2, decide_eq_false (by omega)]; rfl
theorem tP_full {q : Int} {n : Nat} {A Q : Nat → Int} (hm : hmay A Q n = true) (hq0 : q ≠ 0) (hs : sumZ (tW q n Q) n = absI q) {i : Nat} : (tP q n Q i : Int) = tW q n Q i := by
  have h1 := wts_sum (Z := tW q n Q) n (fun i _ => (tW_bd hm i).1)
  have h2 : 0 < absI q := by unfold absI; split <;> omega
  have h3 : (absI q).toNat = sumN (wts (tW q n Q)) n := by omega
  have e : tP q n Q i = wts (tW q n Q) i := by
    unfold tP splP; rw [h3]; exact prt_full (by omega)
  rw [e]
  have := (tW_bd (q := q) hm i).1
  unfold wts; omega


/-- what is on the other side -/
def mUU (n : Nat) (Q : Nat → Int) : Nat → Int := fun i => if i < n then max 0 (-(Q i)) else 0
theorem mUU_tW {q : Int} (h : 0 < q) (n : Nat) (Q : Nat → Int) : tW q n Q = mUU n Q := by
  funext i; unfold tW mUU; rw [oppI_pos h]
theorem mUU_bd {n : Nat} {Q : Nat → Int} : ∀ k, k ≤ n → (∀ i, i < k → -10000000 ≤ Q i ∧ Q i ≤ 10000000) → 0 ≤ sumZ (mUU n Q) k ∧ sumZ (mUU n Q) k ≤ 10000000 * k
  | 0, _, _ => by show (0 : Int) ≤ 0 ∧ (0 : Int) ≤ 10000000 * ((0 : Nat) : Int); omega
  | k + 1, hk, h => by
    have h1 := mUU_bd (n := n) (Q := Q) k (by omega) (fun i hi => h i (by omega))
    have h2 := h k (by omega)
    show 0 ≤ sumZ (mUU n Q) k + mUU n Q k ∧ sumZ (mUU n Q) k + mUU n Q k ≤ 10000000 * ((k + 1 : Nat) : Int)
    unfold mUU at *
    rw [if_pos (show k < n by omega)]
    omega
set_option maxRecDepth 100000 in
set_option maxHeartbeats 8000000 in
theorem all14U_walk (a : Option Addr) (n cap : Nat) (A Q : Nat → Int) (W : World) (hb : ∀ i, (0 ≤ A i ∧ A i ≤ 4294967295) ∧ F64 (Q i)) (hA : Holds W a n A Q) :
    Calls Try.prog 6 #[.bool true, .slice a n cap] W fun e W' => e = .returned (.bool true) ∧ Below W.heap.size W W' := by
  by_cases hlong : 64 < n
  · clear hA hb
    go_enter Try.func6, Try.ntmps6
    go_wp2_with (first | (go_at_call 11; (with_reducible refine (known14 _).mono ?_); rintro e w5 ⟨rfl, hb5⟩))
    go_ret
    exact ⟨rfl, hb5⟩
  have HA := Lib.hid hA
  have HB := Lib.hid hb
  have hln : ¬ (64 : Int) < n := by omega
  clear hA hb
  go_enter Try.func6, Try.ntmps6
  go_wp2_with fail
  go_loopg [5, 22] n (fun gh v5 vi wr => ∃ k : Nat, k ≤ n ∧ gh = n - k ∧ vi = .int .i64 k ∧ v5 = .int .i64 (sumZ (mUU n Q) k) ∧ (∀ i, i < k → -10000000 ≤ Q i ∧ Q i ≤ 10000000) ∧ W = wr)
  case atStart => exact ⟨0, by omega, by omega, rfl, rfl, fun i h => by omega, rfl⟩
  case round =>
    obtain ⟨k, hk, rfl, rfl, rfl, hbd, rfl⟩ := hrel
    have HBD := Lib.hid hbd
    clear hbd
    by_cases hkn : k < n
    · obtain ⟨g, off, B, t, fr, rfl, hg, hs, he, c0, c1⟩ := HA.out.at hkn
      have hkz : (k : Int) < n := by omega
      have hs0 := mUU_bd (Q := Q) k hk HBD.out
      have HNX := Lib.hid (show sumZ (mUU n Q) (k + 1) = sumZ (mUU n Q) k + max 0 (-(Q k)) from by
        show sumZ (mUU n Q) k + mUU n Q k = _
        rw [show mUU n Q k = max 0 (-(Q k)) from if_pos hkn])
      obtain ⟨s0, hs9⟩ : ∃ s0, s0 = sumZ (mUU n Q) k := ⟨_, rfl⟩
      rw [← hs9] at hs0 HNX ⊢
      have hy64 := (HB.out k).2
      obtain ⟨y, hy⟩ : ∃ y, y = Q k := ⟨_, rfl⟩
      rw [← hy] at c1 HNX hy64
      unfold F64 at hy64
      have HY := Lib.hid hy
      clear hs9 hy hs he c0 hg
      by_cases h1 : y < -10000000
      · go_wp2_with (first | (go_at_call 11; (with_reducible refine (known14 _).mono ?_); rintro e w5 ⟨rfl, hb5⟩))
        go_ret
        exact ⟨rfl, hb5⟩
      by_cases h2 : 10000000 < y
      · go_wp2_with (first | (go_at_call 11; (with_reducible refine (known14 _).mono ?_); rintro e w5 ⟨rfl, hb5⟩))
        go_ret
        exact ⟨rfl, hb5⟩
      have wy : IntKind.i64.wrap (-y) = -y := by rw [IntKind.wrap_i64]; omega
      have ws : IntKind.i64.wrap (s0 + max 0 (-y)) = s0 + max 0 (-y) := by rw [IntKind.wrap_i64]; omega
      go_wp2_with fail
      go_roundg (n - (k + 1))
      case measure => omega
      case rel =>
        refine ⟨k + 1, by omega, rfl, by go_num, by rw [HNX.out], fun i hi => ?_, rfl⟩
        by_cases e : i = k
        · subst e; rw [← HY.out]; omega
        · exact HBD.out i (by omega)
    · obtain rfl : k = n := by omega
      have hs0 := mUU_bd (Q := Q) k hk HBD.out
      obtain ⟨s0, hs9⟩ : ∃ s0, s0 = sumZ (mUU k Q) k := ⟨_, rfl⟩
      rw [← hs9] at hs0 ⊢
      have HS9 := Lib.hid hs9
      by_cases h0 : s0 = 0
      · subst h0
        clear hs9 hs0
        go_wp2_with (first | (go_at_call 11; (with_reducible refine (known14 _).mono ?_); rintro e w5 ⟨rfl, hb5⟩))
        go_ret
        exact ⟨rfl, hb5⟩
      have hz0 : (s0 == 0) = false := by rw [beq_eq_false_iff_ne]; exact h0
      by_cases h1 : 10000000 ≤ s0
      · clear hs9 h0 hs0
        go_wp2_with (first | (go_at_call 11; (with_reducible refine (known14 _).mono ?_); rintro e w5 ⟨rfl, hb5⟩))
        go_ret
        exact ⟨rfl, hb5⟩
      obtain ⟨q, hq⟩ : ∃ q, q = s0 := ⟨_, rfl⟩
      obtain ⟨r, hr⟩ : ∃ r, r = s0 + 1 := ⟨_, rfl⟩
      have hq0 : q ≠ 0 := by omega
      have hr0 : r ≠ 0 := by omega
      have hqa : absI q = s0 := by unfold absI; split <;> omega
      have hra : absI r = s0 + 1 := by unfold absI; split <;> omega
      have c1 := tparts_any a k cap A Q q W HB.out HA.out (by unfold F64; omega)
      have c2 := fun (w2 : World) (hb : Below W.heap.size W w2) => tparts_any a k cap A Q r w2 HB.out (HA.out.kept hb) (by unfold F64; omega)
      unfold TearC at c1 c2
      have hTq : tW q k Q = mUU k Q := mUU_tW (by omega) k Q
      have hTr : tW r k Q = mUU k Q := mUU_tW (by omega) k Q
      have hqi : inB q (-10000000) 10000000 = true := inB_iff.2 (by omega)
      have hri : inB r (-10000000) 10000000 = true := inB_iff.2 (by omega)
      have wsp : IntKind.i64.wrap (s0 + 1) = s0 + 1 := by rw [IntKind.wrap_i64]; omega
      cases hm : hmay A Q k
      · have he1 : tE q k A Q = 2 := by unfold tE; rw [if_neg (by omega), if_pos (.inr (.inr hm))]
        have he2 : tE r k A Q = 2 := by unfold tE; rw [if_neg (by omega), if_pos (.inr (.inr hm))]
        rw [he1] at c1
        rw [he2] at c2
        have HE1 := Lib.hid he1
        have HE2 := Lib.hid he2
        clear he1 he2 hTq hTr hqi hri hqa hra hs9 hm hq0 hr0
        subst hq; subst hr
        go_wp2_with fail
        refine c1.mono ?_
        rintro e w1 ⟨⟨v, rfl, hv⟩, hb1⟩
        obtain rfl := hv.2 (by rw [HE1.out]; omega)
        have c2 := c2 w1 hb1
        clear c1 hv
        go_wp2_with fail
        refine c2.mono ?_
        rintro e w2 ⟨⟨v2, rfl, hv2⟩, hb2⟩
        obtain rfl := hv2.2 (by rw [HE2.out]; omega)
        clear c2 hv2
        go_wp2_with (first | (go_at_call 11; (with_reducible refine (known14 _).mono ?_); rintro e w5 ⟨rfl, hb5⟩))
        go_ret
        exact ⟨rfl, below_then hb1 (below_then hb2 hb5)⟩
      · have he1 : tE q k A Q = 0 := by
          unfold tE; rw [if_neg (by omega), if_neg (fun h => ?_), hTq, ← hs9, hqa, if_neg (by omega)]
          rcases h with h | h | h
          · exact hq0 h
          · rw [hqi] at h; cases h
          · rw [hm] at h; cases h
        have he2 : tE r k A Q = 7 := by
          unfold tE; rw [if_neg (by omega), if_neg (fun h => ?_), hTr, ← hs9, hra, if_pos (by omega)]
          rcases h with h | h | h
          · exact hr0 h
          · rw [hri] at h; cases h
          · rw [hm] at h; cases h
        rw [he1] at c1
        rw [he2] at c2
        obtain ⟨P, hP⟩ : ∃ P, P = tP q k Q := ⟨_, rfl⟩
        have HPF := Lib.hid (show ∀ i, i < k → (P i : Int) = max 0 (-(Q i)) from fun i hi => by
          rw [hP, tP_full hm hq0 (by rw [hTq, hqa, hs9]), hTq]; exact if_pos hi)
        obtain ⟨m, hmm⟩ : ∃ m, m = tm P k := ⟨_, rfl⟩
        have hmk : m ≤ k := by rw [hmm]; exact cnt_le _ _
        obtain ⟨ix, hix⟩ := Deep.choose_lt (α := Nat) (n := m) (p := fun j i => i < k ∧ 0 < P i ∧ tm P i = j ∧ tR A P k j = hA (A i) (P i : Nat)) (fun j hj => by
          obtain ⟨i, h⟩ := tR_at (A := A) (P := P) k j (by rw [← hmm]; exact hj)
          exact ⟨i, h⟩)
        have HIX := Lib.hid hix
        have HM := Lib.hid hm
        have HE1 := Lib.hid he1
        have HE2 := Lib.hid he2
        have HV := Lib.hid (fun (w' : World) (v : Value) (h : TearV q k A Q W.heap.size w' v) => show ∃ a1 d1, v = .slice a1 m d1 ∧ Holds w' a1 m (fun j => A (ix j)) (fun j => (P (ix j) : Nat)) from by
          have h1 := h.1 HE1.out
          rw [← hP, ← hmm] at h1
          obtain ⟨a1, d1, e, h2, _⟩ := own_rows (fun i => tR_size _ _ _ _) h1
          exact ⟨a1, d1, e, rowsT_holds h2 (fun j hj => (HIX.out j hj).2.2.2)⟩)
        clear he1 he2 hTq hTr hqi hri hqa hra hs9 hm hq0 hr0 hP hmm hix
        subst hq; subst hr
        go_wp2_with fail
        refine c1.mono ?_
        rintro e w1 ⟨⟨v, rfl, hv⟩, hb1⟩
        obtain ⟨a1, d1, rfl, hH1⟩ := HV.out w1 v hv
        have c2 := c2 w1 hb1
        have HH1 := Lib.hid hH1
        have HB1 := Lib.hid hb1
        clear c1 hv hH1 hb1 HV
        go_wp2_with fail
        refine c2.mono ?_
        rintro e w2 ⟨⟨v2, rfl, hv2⟩, hb2⟩
        obtain rfl := hv2.2 (by rw [HE2.out]; omega)
        have HH := Lib.hid (HH1.out.kept hb2)
        have HB2 := Lib.hid (below_then HB1.out hb2)
        clear c2 hv2 HH1 HB1 hb2 HE1 HE2
        go_wp2_with fail
        go_loopg [97] m (fun gh vi wr => ∃ j : Nat, j ≤ m ∧ gh = m - j ∧ vi = .int .i64 j ∧ Below w2.heap.size w2 wr)
        case atStart => exact ⟨0, by omega, by omega, rfl, Below.refl _ _⟩
        case round =>
          obtain ⟨j, hj, rfl, rfl, hbx⟩ := hrel
          have HX := Lib.hid hbx
          clear hbx
          by_cases hjm : j < m
          · obtain ⟨hi1, hi2, hi3, _⟩ := HIX.out j hjm
            have hjz : (j : Int) < m := by omega
            obtain ⟨i, hi⟩ : ∃ i, i = ix j := ⟨_, rfl⟩
            rw [← hi] at hi1 hi2 hi3
            have HINC := Lib.hid (show ∀ x, x < k → x ≠ i → (A x == A i) = false from fun x hx hne => by
              rw [beq_eq_false_iff_ne]
              rcases (show x < i ∨ i < x by omega) with h | h
              · have := hmay_inc HM.out i x h hi1; omega
              · have := hmay_inc HM.out x i h hx; omega)
            have HPI := Lib.hid (show ((P i : Nat) : Int) = -(Q i) from by have := HPF.out i hi1; omega)
            have HI := Lib.hid hi
            clear hi hi2 hi3
            go_wp2_with fail
            go_loopg [14, 102] k (fun gh v14 vi wr => ∃ x : Nat, x ≤ k ∧ gh = k - x ∧ vi = .int .i64 x ∧ v14 = .bool (decide (i < x)) ∧ Below w2.heap.size w2 wr)
            case atStart => exact ⟨0, by omega, by omega, rfl, by rw [decide_eq_false (by omega)], HX.out⟩
            case round =>
              obtain ⟨x, hx, rfl, rfl, rfl, hbx⟩ := hrel
              have HX2 := Lib.hid hbx
              clear hbx
              by_cases hxk : x < k
              · obtain ⟨g, off, B, t, fr, rfl, hg, hs, he, c0, c1⟩ := (HA.out.kept (below_then HB2.out HX2.out)).at hxk
                obtain ⟨g2, off2, B2, t2, fr2, rfl, hg2, hs2, he2, d0, d1⟩ := (HH.out.kept HX2.out).at hjm
                rw [← HI.out] at d0 d1
                have b0 : B[off + x * 2]? = some (.int .u32 (A x)) := by rw [cellF hg] at c0; exact c0
                have b1 : B[off + x * 2 + 1]? = some (.int .i64 (Q x)) := by rw [cellF hg] at c1; exact c1
                have b2 : B2[off2 + j * 2]? = some (.int .u32 (A i)) := by rw [cellF hg2] at d0; exact d0
                have b3 : B2[off2 + j * 2 + 1]? = some (.int .i64 (P i : Nat)) := by rw [cellF hg2] at d1; exact d1
                rw [HPI.out] at b3
                have hxz : (x : Int) < k := by omega
                have hjz2 : (j : Int) < m := by omega
                have hyb := HBD.out x (by omega)
                clear c0 c1 d0 d1 hs he hs2 he2
                by_cases hlt : i < x
                · have HD := Lib.hid (show decide (i < x + 1) = true from by rw [decide_eq_true_iff]; omega)
                  rw [decide_eq_true hlt]
                  go_wp2_with fail
                  refine wp_region_below (by kernel_rfl) (by kernel_rfl) ?_
                  repeat (first | ((with_reducible apply q_skip); (case hw => rfl); (try simp only [Act.put, List.setIfInBounds_toArray, List.set_cons_zero, List.set_cons_succ])) | ((with_reducible apply q_val); (case hw => rfl); (case hv => intro wq hbq; have hcq := cellF (Yticdcdahehodkaa.kept hbq hg); have hcr := cellF (Yticdcdahehodkaa.kept hbq hg2); go_simp; try rfl); (try simp only [Act.put, List.setIfInBounds_toArray, List.set_cons_zero, List.set_cons_succ])))
                  refine q_nil ?_
                  intro w4 hb4
                  clear b0 b1 b2 b3 hg hg2
                  go_wp2_with fail
                  go_roundg (k - (x + 1))
                  case measure => omega
                  case rel => exact ⟨x + 1, by omega, rfl, by go_num, by rw [HD.out], below_then HX2.out hb4⟩
                · rw [decide_eq_false hlt]
                  by_cases hxi : x = i
                  · subst hxi
                    have HD := Lib.hid (show decide (x < x + 1) = true from by rw [decide_eq_true_iff]; omega)
                    have wy : IntKind.i64.wrap (-(Q x)) = -(Q x) := by rw [IntKind.wrap_i64]; omega
                    generalize Q x = y at *
                    generalize A x = z at *
                    clear hlt
                    go_wp2_with fail
                    refine wp_region_below (by kernel_rfl) (by kernel_rfl) ?_
                    repeat (first | ((with_reducible apply q_skip); (case hw => rfl); (try simp only [Act.put, List.setIfInBounds_toArray, List.set_cons_zero, List.set_cons_succ])) | ((with_reducible apply q_val); (case hw => rfl); (case hv => intro wq hbq; have hcq := cellF (Yticdcdahehodkaa.kept hbq hg); have hcr := cellF (Yticdcdahehodkaa.kept hbq hg2); go_simp; try rfl); (try simp only [Act.put, List.setIfInBounds_toArray, List.set_cons_zero, List.set_cons_succ])))
                    refine q_nil ?_
                    intro w4 hb4
                    clear b0 b1 b2 b3 hg hg2
                    go_wp2_with fail
                    go_roundg (k - (x + 1))
                    case measure => omega
                    case rel => exact ⟨x + 1, by omega, rfl, by go_num, by rw [HD.out], below_then HX2.out hb4⟩
                  · have hne := HINC.out x hxk hxi
                    have HD := Lib.hid (show decide (i < x + 1) = false from by rw [decide_eq_false_iff_not]; omega)
                    generalize A x = z at *
                    generalize A i = z2 at *
                    clear hlt
                    go_wp2_with fail
                    refine wp_region_below (by kernel_rfl) (by kernel_rfl) ?_
                    repeat (first | ((with_reducible apply q_skip); (case hw => rfl); (try simp only [Act.put, List.setIfInBounds_toArray, List.set_cons_zero, List.set_cons_succ])) | ((with_reducible apply q_val); (case hw => rfl); (case hv => intro wq hbq; have hcq := cellF (Yticdcdahehodkaa.kept hbq hg); have hcr := cellF (Yticdcdahehodkaa.kept hbq hg2); go_simp; try rfl); (try simp only [Act.put, List.setIfInBounds_toArray, List.set_cons_zero, List.set_cons_succ])))
                    refine q_nil ?_
                    intro w4 hb4
                    clear b0 b1 b2 b3 hg hg2
                    go_wp2_with fail
                    go_roundg (k - (x + 1))
                    case measure => omega
                    case rel => exact ⟨x + 1, by omega, rfl, by go_num, by rw [HD.out], below_then HX2.out hb4⟩
              · obtain rfl : x = k := by omega
                have hdt : decide (i < x) = true := by rw [decide_eq_true_iff]; exact hi1
                rw [hdt]
                clear hdt
                go_wp2_with fail
                go_roundg (m - (j + 1))
                case measure => omega
                case rel => exact ⟨j + 1, by omega, rfl, by go_num, HX2.out⟩
          · obtain rfl : j = m := by omega
            go_wp2_with (first | (go_at_call 11; (with_reducible refine (known14 _).mono ?_); rintro e w5 ⟨rfl, hb5⟩))
            go_ret
            exact ⟨rfl, below_then HB2.out (below_then HX.out hb5)⟩

/-- what is on the other side -/
def mUD (n : Nat) (Q : Nat → Int) : Nat → Int := fun i => if i < n then max 0 ((Q i)) else 0
theorem mUD_tW {q : Int} (h : q < 0) (n : Nat) (Q : Nat → Int) : tW q n Q = mUD n Q := by
  funext i; unfold tW mUD; rw [oppI_negq h]
theorem mUD_bd {n : Nat} {Q : Nat → Int} : ∀ k, k ≤ n → (∀ i, i < k → -10000000 ≤ Q i ∧ Q i ≤ 10000000) → 0 ≤ sumZ (mUD n Q) k ∧ sumZ (mUD n Q) k ≤ 10000000 * k
  | 0, _, _ => by show (0 : Int) ≤ 0 ∧ (0 : Int) ≤ 10000000 * ((0 : Nat) : Int); omega
  | k + 1, hk, h => by
    have h1 := mUD_bd (n := n) (Q := Q) k (by omega) (fun i hi => h i (by omega))
    have h2 := h k (by omega)
    show 0 ≤ sumZ (mUD n Q) k + mUD n Q k ∧ sumZ (mUD n Q) k + mUD n Q k ≤ 10000000 * ((k + 1 : Nat) : Int)
    unfold mUD at *
    rw [if_pos (show k < n by omega)]
    omega
set_option maxRecDepth 100000 in
set_option maxHeartbeats 8000000 in
theorem all14D_walk (a : Option Addr) (n cap : Nat) (A Q : Nat → Int) (W : World) (hb : ∀ i, (0 ≤ A i ∧ A i ≤ 4294967295) ∧ F64 (Q i)) (hA : Holds W a n A Q) :
    Calls Try.prog 6 #[.bool false, .slice a n cap] W fun e W' => e = .returned (.bool true) ∧ Below W.heap.size W W' := by
  by_cases hlong : 64 < n
  · clear hA hb
    go_enter Try.func6, Try.ntmps6
    go_wp2_with (first | (go_at_call 11; (with_reducible refine (known14 _).mono ?_); rintro e w5 ⟨rfl, hb5⟩))
    go_ret
    exact ⟨rfl, hb5⟩
  have HA := Lib.hid hA
  have HB := Lib.hid hb
  have hln : ¬ (64 : Int) < n := by omega
  clear hA hb
  go_enter Try.func6, Try.ntmps6
  go_wp2_with fail
  go_loopg [5, 22] n (fun gh v5 vi wr => ∃ k : Nat, k ≤ n ∧ gh = n - k ∧ vi = .int .i64 k ∧ v5 = .int .i64 (sumZ (mUD n Q) k) ∧ (∀ i, i < k → -10000000 ≤ Q i ∧ Q i ≤ 10000000) ∧ W = wr)
  case atStart => exact ⟨0, by omega, by omega, rfl, rfl, fun i h => by omega, rfl⟩
  case round =>
    obtain ⟨k, hk, rfl, rfl, rfl, hbd, rfl⟩ := hrel
    have HBD := Lib.hid hbd
    clear hbd
    by_cases hkn : k < n
    · obtain ⟨g, off, B, t, fr, rfl, hg, hs, he, c0, c1⟩ := HA.out.at hkn
      have hkz : (k : Int) < n := by omega
      have hs0 := mUD_bd (Q := Q) k hk HBD.out
      have HNX := Lib.hid (show sumZ (mUD n Q) (k + 1) = sumZ (mUD n Q) k + max 0 ((Q k)) from by
        show sumZ (mUD n Q) k + mUD n Q k = _
        rw [show mUD n Q k = max 0 ((Q k)) from if_pos hkn])
      obtain ⟨s0, hs9⟩ : ∃ s0, s0 = sumZ (mUD n Q) k := ⟨_, rfl⟩
      rw [← hs9] at hs0 HNX ⊢
      have hy64 := (HB.out k).2
      obtain ⟨y, hy⟩ : ∃ y, y = Q k := ⟨_, rfl⟩
      rw [← hy] at c1 HNX hy64
      unfold F64 at hy64
      have HY := Lib.hid hy
      clear hs9 hy hs he c0 hg
      by_cases h1 : y < -10000000
      · go_wp2_with (first | (go_at_call 11; (with_reducible refine (known14 _).mono ?_); rintro e w5 ⟨rfl, hb5⟩))
        go_ret
        exact ⟨rfl, hb5⟩
      by_cases h2 : 10000000 < y
      · go_wp2_with (first | (go_at_call 11; (with_reducible refine (known14 _).mono ?_); rintro e w5 ⟨rfl, hb5⟩))
        go_ret
        exact ⟨rfl, hb5⟩
      have wy : IntKind.i64.wrap (-y) = -y := by rw [IntKind.wrap_i64]; omega
      have ws : IntKind.i64.wrap (s0 + max 0 (y)) = s0 + max 0 (y) := by rw [IntKind.wrap_i64]; omega
      go_wp2_with fail
      go_roundg (n - (k + 1))
      case measure => omega
      case rel =>
        refine ⟨k + 1, by omega, rfl, by go_num, by rw [HNX.out], fun i hi => ?_, rfl⟩
        by_cases e : i = k
        · subst e; rw [← HY.out]; omega
        · exact HBD.out i (by omega)
    · obtain rfl : k = n := by omega
      have hs0 := mUD_bd (Q := Q) k hk HBD.out
      obtain ⟨s0, hs9⟩ : ∃ s0, s0 = sumZ (mUD k Q) k := ⟨_, rfl⟩
      rw [← hs9] at hs0 ⊢
      have HS9 := Lib.hid hs9
      by_cases h0 : s0 = 0
      · subst h0
        clear hs9 hs0
        go_wp2_with (first | (go_at_call 11; (with_reducible refine (known14 _).mono ?_); rintro e w5 ⟨rfl, hb5⟩))
        go_ret
        exact ⟨rfl, hb5⟩
      have hz0 : (s0 == 0) = false := by rw [beq_eq_false_iff_ne]; exact h0
      by_cases h1 : 10000000 ≤ s0
      · clear hs9 h0 hs0
        go_wp2_with (first | (go_at_call 11; (with_reducible refine (known14 _).mono ?_); rintro e w5 ⟨rfl, hb5⟩))
        go_ret
        exact ⟨rfl, hb5⟩
      obtain ⟨q, hq⟩ : ∃ q, q = -s0 := ⟨_, rfl⟩
      obtain ⟨r, hr⟩ : ∃ r, r = -(s0 + 1) := ⟨_, rfl⟩
      have wq : IntKind.i64.wrap (-s0) = q := by rw [IntKind.wrap_i64]; omega
      have wr : IntKind.i64.wrap (-(s0 + 1)) = r := by rw [IntKind.wrap_i64]; omega
      have hq0 : q ≠ 0 := by omega
      have hr0 : r ≠ 0 := by omega
      have hqa : absI q = s0 := by unfold absI; split <;> omega
      have hra : absI r = s0 + 1 := by unfold absI; split <;> omega
      have c1 := tparts_any a k cap A Q q W HB.out HA.out (by unfold F64; omega)
      have c2 := fun (w2 : World) (hb : Below W.heap.size W w2) => tparts_any a k cap A Q r w2 HB.out (HA.out.kept hb) (by unfold F64; omega)
      unfold TearC at c1 c2
      have hTq : tW q k Q = mUD k Q := mUD_tW (by omega) k Q
      have hTr : tW r k Q = mUD k Q := mUD_tW (by omega) k Q
      have hqi : inB q (-10000000) 10000000 = true := inB_iff.2 (by omega)
      have hri : inB r (-10000000) 10000000 = true := inB_iff.2 (by omega)
      have wsp : IntKind.i64.wrap (s0 + 1) = s0 + 1 := by rw [IntKind.wrap_i64]; omega
      cases hm : hmay A Q k
      · have he1 : tE q k A Q = 2 := by unfold tE; rw [if_neg (by omega), if_pos (.inr (.inr hm))]
        have he2 : tE r k A Q = 2 := by unfold tE; rw [if_neg (by omega), if_pos (.inr (.inr hm))]
        rw [he1] at c1
        rw [he2] at c2
        have HE1 := Lib.hid he1
        have HE2 := Lib.hid he2
        clear he1 he2 hTq hTr hqi hri hqa hra hs9 hm hq0 hr0
        clear hq hr
        go_wp2_with fail
        refine c1.mono ?_
        rintro e w1 ⟨⟨v, rfl, hv⟩, hb1⟩
        obtain rfl := hv.2 (by rw [HE1.out]; omega)
        have c2 := c2 w1 hb1
        clear c1 hv
        go_wp2_with fail
        refine c2.mono ?_
        rintro e w2 ⟨⟨v2, rfl, hv2⟩, hb2⟩
        obtain rfl := hv2.2 (by rw [HE2.out]; omega)
        clear c2 hv2
        go_wp2_with (first | (go_at_call 11; (with_reducible refine (known14 _).mono ?_); rintro e w5 ⟨rfl, hb5⟩))
        go_ret
        exact ⟨rfl, below_then hb1 (below_then hb2 hb5)⟩
      · have he1 : tE q k A Q = 0 := by
          unfold tE; rw [if_neg (by omega), if_neg (fun h => ?_), hTq, ← hs9, hqa, if_neg (by omega)]
          rcases h with h | h | h
          · exact hq0 h
          · rw [hqi] at h; cases h
          · rw [hm] at h; cases h
        have he2 : tE r k A Q = 7 := by
          unfold tE; rw [if_neg (by omega), if_neg (fun h => ?_), hTr, ← hs9, hra, if_pos (by omega)]
          rcases h with h | h | h
          · exact hr0 h
          · rw [hri] at h; cases h
          · rw [hm] at h; cases h
        rw [he1] at c1
        rw [he2] at c2
        obtain ⟨P, hP⟩ : ∃ P, P = tP q k Q := ⟨_, rfl⟩
        have HPF := Lib.hid (show ∀ i, i < k → (P i : Int) = max 0 ((Q i)) from fun i hi => by
          rw [hP, tP_full hm hq0 (by rw [hTq, hqa, hs9]), hTq]; exact if_pos hi)
        obtain ⟨m, hmm⟩ : ∃ m, m = tm P k := ⟨_, rfl⟩
        have hmk : m ≤ k := by rw [hmm]; exact cnt_le _ _
        obtain ⟨ix, hix⟩ := Deep.choose_lt (α := Nat) (n := m) (p := fun j i => i < k ∧ 0 < P i ∧ tm P i = j ∧ tR A P k j = hA (A i) (P i : Nat)) (fun j hj => by
          obtain ⟨i, h⟩ := tR_at (A := A) (P := P) k j (by rw [← hmm]; exact hj)
          exact ⟨i, h⟩)
        have HIX := Lib.hid hix
        have HM := Lib.hid hm
        have HE1 := Lib.hid he1
        have HE2 := Lib.hid he2
        have HV := Lib.hid (fun (w' : World) (v : Value) (h : TearV q k A Q W.heap.size w' v) => show ∃ a1 d1, v = .slice a1 m d1 ∧ Holds w' a1 m (fun j => A (ix j)) (fun j => (P (ix j) : Nat)) from by
          have h1 := h.1 HE1.out
          rw [← hP, ← hmm] at h1
          obtain ⟨a1, d1, e, h2, _⟩ := own_rows (fun i => tR_size _ _ _ _) h1
          exact ⟨a1, d1, e, rowsT_holds h2 (fun j hj => (HIX.out j hj).2.2.2)⟩)
        clear he1 he2 hTq hTr hqi hri hqa hra hs9 hm hq0 hr0 hP hmm hix
        clear hq hr
        go_wp2_with fail
        refine c1.mono ?_
        rintro e w1 ⟨⟨v, rfl, hv⟩, hb1⟩
        obtain ⟨a1, d1, rfl, hH1⟩ := HV.out w1 v hv
        have c2 := c2 w1 hb1
        have HH1 := Lib.hid hH1
        have HB1 := Lib.hid hb1
        clear c1 hv hH1 hb1 HV
        go_wp2_with fail
        refine c2.mono ?_
        rintro e w2 ⟨⟨v2, rfl, hv2⟩, hb2⟩
        obtain rfl := hv2.2 (by rw [HE2.out]; omega)
        have HH := Lib.hid (HH1.out.kept hb2)
        have HB2 := Lib.hid (below_then HB1.out hb2)
        clear c2 hv2 HH1 HB1 hb2 HE1 HE2
        go_wp2_with fail
        go_loopg [97] m (fun gh vi wr => ∃ j : Nat, j ≤ m ∧ gh = m - j ∧ vi = .int .i64 j ∧ Below w2.heap.size w2 wr)
        case atStart => exact ⟨0, by omega, by omega, rfl, Below.refl _ _⟩
        case round =>
          obtain ⟨j, hj, rfl, rfl, hbx⟩ := hrel
          have HX := Lib.hid hbx
          clear hbx
          by_cases hjm : j < m
          · obtain ⟨hi1, hi2, hi3, _⟩ := HIX.out j hjm
            have hjz : (j : Int) < m := by omega
            obtain ⟨i, hi⟩ : ∃ i, i = ix j := ⟨_, rfl⟩
            rw [← hi] at hi1 hi2 hi3
            have HINC := Lib.hid (show ∀ x, x < k → x ≠ i → (A x == A i) = false from fun x hx hne => by
              rw [beq_eq_false_iff_ne]
              rcases (show x < i ∨ i < x by omega) with h | h
              · have := hmay_inc HM.out i x h hi1; omega
              · have := hmay_inc HM.out x i h hx; omega)
            have HPI := Lib.hid (show ((P i : Nat) : Int) = (Q i) from by have := HPF.out i hi1; omega)
            have HI := Lib.hid hi
            clear hi hi2 hi3
            go_wp2_with fail
            go_loopg [14, 102] k (fun gh v14 vi wr => ∃ x : Nat, x ≤ k ∧ gh = k - x ∧ vi = .int .i64 x ∧ v14 = .bool (decide (i < x)) ∧ Below w2.heap.size w2 wr)
            case atStart => exact ⟨0, by omega, by omega, rfl, by rw [decide_eq_false (by omega)], HX.out⟩
            case round =>
              obtain ⟨x, hx, rfl, rfl, rfl, hbx⟩ := hrel
              have HX2 := Lib.hid hbx
              clear hbx
              by_cases hxk : x < k
              · obtain ⟨g, off, B, t, fr, rfl, hg, hs, he, c0, c1⟩ := (HA.out.kept (below_then HB2.out HX2.out)).at hxk
                obtain ⟨g2, off2, B2, t2, fr2, rfl, hg2, hs2, he2, d0, d1⟩ := (HH.out.kept HX2.out).at hjm
                rw [← HI.out] at d0 d1
                have b0 : B[off + x * 2]? = some (.int .u32 (A x)) := by rw [cellF hg] at c0; exact c0
                have b1 : B[off + x * 2 + 1]? = some (.int .i64 (Q x)) := by rw [cellF hg] at c1; exact c1
                have b2 : B2[off2 + j * 2]? = some (.int .u32 (A i)) := by rw [cellF hg2] at d0; exact d0
                have b3 : B2[off2 + j * 2 + 1]? = some (.int .i64 (P i : Nat)) := by rw [cellF hg2] at d1; exact d1
                rw [HPI.out] at b3
                have hxz : (x : Int) < k := by omega
                have hjz2 : (j : Int) < m := by omega
                have hyb := HBD.out x (by omega)
                clear c0 c1 d0 d1 hs he hs2 he2
                by_cases hlt : i < x
                · have HD := Lib.hid (show decide (i < x + 1) = true from by rw [decide_eq_true_iff]; omega)
                  rw [decide_eq_true hlt]
                  go_wp2_with fail
                  refine wp_region_below (by kernel_rfl) (by kernel_rfl) ?_
                  repeat (first | ((with_reducible apply q_skip); (case hw => rfl); (try simp only [Act.put, List.setIfInBounds_toArray, List.set_cons_zero, List.set_cons_succ])) | ((with_reducible apply q_val); (case hw => rfl); (case hv => intro wq hbq; have hcq := cellF (Yticdcdahehodkaa.kept hbq hg); have hcr := cellF (Yticdcdahehodkaa.kept hbq hg2); go_simp; try rfl); (try simp only [Act.put, List.setIfInBounds_toArray, List.set_cons_zero, List.set_cons_succ])))
                  refine q_nil ?_
                  intro w4 hb4
                  clear b0 b1 b2 b3 hg hg2
                  go_wp2_with fail
                  go_roundg (k - (x + 1))
                  case measure => omega
                  case rel => exact ⟨x + 1, by omega, rfl, by go_num, by rw [HD.out], below_then HX2.out hb4⟩
                · rw [decide_eq_false hlt]
                  by_cases hxi : x = i
                  · subst hxi
                    have HD := Lib.hid (show decide (x < x + 1) = true from by rw [decide_eq_true_iff]; omega)
                    have wy : IntKind.i64.wrap (-(Q x)) = -(Q x) := by rw [IntKind.wrap_i64]; omega
                    generalize Q x = y at *
                    generalize A x = z at *
                    clear hlt
                    go_wp2_with fail
                    refine wp_region_below (by kernel_rfl) (by kernel_rfl) ?_
                    repeat (first | ((with_reducible apply q_skip); (case hw => rfl); (try simp only [Act.put, List.setIfInBounds_toArray, List.set_cons_zero, List.set_cons_succ])) | ((with_reducible apply q_val); (case hw => rfl); (case hv => intro wq hbq; have hcq := cellF (Yticdcdahehodkaa.kept hbq hg); have hcr := cellF (Yticdcdahehodkaa.kept hbq hg2); go_simp; try rfl); (try simp only [Act.put, List.setIfInBounds_toArray, List.set_cons_zero, List.set_cons_succ])))
                    refine q_nil ?_
                    intro w4 hb4
                    clear b0 b1 b2 b3 hg hg2
                    go_wp2_with fail
                    go_roundg (k - (x + 1))
                    case measure => omega
                    case rel => exact ⟨x + 1, by omega, rfl, by go_num, by rw [HD.out], below_then HX2.out hb4⟩
                  · have hne := HINC.out x hxk hxi
                    have HD := Lib.hid (show decide (i < x + 1) = false from by rw [decide_eq_false_iff_not]; omega)
                    generalize A x = z at *
                    generalize A i = z2 at *
                    clear hlt
                    go_wp2_with fail
                    refine wp_region_below (by kernel_rfl) (by kernel_rfl) ?_
                    repeat (first | ((with_reducible apply q_skip); (case hw => rfl); (try simp only [Act.put, List.setIfInBounds_toArray, List.set_cons_zero, List.set_cons_succ])) | ((with_reducible apply q_val); (case hw => rfl); (case hv => intro wq hbq; have hcq := cellF (Yticdcdahehodkaa.kept hbq hg); have hcr := cellF (Yticdcdahehodkaa.kept hbq hg2); go_simp; try rfl); (try simp only [Act.put, List.setIfInBounds_toArray, List.set_cons_zero, List.set_cons_succ])))
                    refine q_nil ?_
                    intro w4 hb4
                    clear b0 b1 b2 b3 hg hg2
                    go_wp2_with fail
                    go_roundg (k - (x + 1))
                    case measure => omega
                    case rel => exact ⟨x + 1, by omega, rfl, by go_num, by rw [HD.out], below_then HX2.out hb4⟩
              · obtain rfl : x = k := by omega
                have hdt : decide (i < x) = true := by rw [decide_eq_true_iff]; exact hi1
                rw [hdt]
                clear hdt
                go_wp2_with fail
                go_roundg (m - (j + 1))
                case measure => omega
                case rel => exact ⟨j + 1, by omega, rfl, by go_num, HX2.out⟩
          · obtain rfl : j = m := by omega
            go_wp2_with (first | (go_at_call 11; (with_reducible refine (known14 _).mono ?_); rintro e w5 ⟨rfl, hb5⟩))
            go_ret
            exact ⟨rfl, below_then HB2.out (below_then HX.out hb5)⟩

theorem all14_w (up : Bool) (a : Option Addr) (n cap : Nat) (A Q : Nat → Int) (W : World) (hb : ∀ i, (0 ≤ A i ∧ A i ≤ 4294967295) ∧ F64 (Q i)) (hA : Holds W a n A Q) (_ : n ≤ cap) (_ : cap ≤ 9223372036854775807) (_ : a = none → n = 0 ∧ cap = 0) :
    Calls Try.prog 6 #[.bool up, .slice a n cap] W fun e W' => e = .returned (.bool true) ∧ Below W.heap.size W W' := by
  cases up
  · exact all14D_walk a n cap A Q W hb hA
  · exact all14U_walk a n cap A Q W hb hA
end Go.Proofs.Yticdcdahehodkaa
