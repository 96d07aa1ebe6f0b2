/- Texts that Parts14Law stands on, one behind the other, part 16. Conditions: each theorem names its own. -/
import Derived.Test.YticdcdahehodkaaMgParts14Law15
import Derived.Deep.CutBlock
/-! The document's Parts of holders: what anybody gives up, or why nobody does. Condition: the numbers fit their kinds. -/
namespace Go.Proofs.Yticdcdahehodkaa
set_option linter.unusedVariables false
set_option linter.unusedSimpArgs false
open Go.RowKit

def RTearC (a : Option Addr) (n cap : Nat) (A Q : Nat → Int) (q : Int) (w : World) : Prop :=
  Calls Try.prog 13 #[.int .i64 q, .slice a n cap] w fun e w' => (∃ v, e = .returned (.tuple #[v, .int .i64 (tE q n A Q)]) ∧ TearV q n A Q w.heap.size w' v) ∧ Below w.heap.size w w'
set_option maxRecDepth 100000 in
set_option maxHeartbeats 4000000 in
theorem rtear_bad (a : Option Addr) (n cap : Nat) (A Q : Nat → Int) (q : Int) (w : World) (h : 64 < n ∨ q = 0 ∨ inB q (-10000000) 10000000 = false) : RTearC a n cap A Q q w := by
  by_cases hn : 64 < n
  · have he : tE q n A Q = 3 := if_pos hn
    unfold RTearC
    rw [he]
    have HE := Lib.hid he
    have hni : (64 : Int) < n := by omega
    clear he h
    go_enter Try.func13, Try.ntmps13
    go_wp2
    go_ret2
    exact ⟨⟨_, rfl, fun h => by rw [HE.out] at h; omega, fun _ => rfl⟩, Below.refl _ _⟩
  · have h2 := h.resolve_left hn
    have he : tE q n A Q = 2 := by unfold tE; rw [if_neg hn, if_pos (h2.elim .inl (fun h => .inr (.inl h)))]
    unfold RTearC
    rw [he]
    have HE := Lib.hid he
    have hni : ¬ (64 : Int) < n := by omega
    clear he h
    by_cases hq0 : q = 0
    · have hqz : (q == 0) = true := by rw [beq_iff_eq]; exact hq0
      subst hq0
      clear h2
      go_enter Try.func13, Try.ntmps13
      go_wp2
      go_ret2
      exact ⟨⟨_, rfl, fun h => by rw [HE.out] at h; omega, fun _ => rfl⟩, Below.refl _ _⟩
    · have hqz : (q == 0) = false := by rw [beq_eq_false_iff_ne]; exact hq0
      have h3 := inB_no.1 (h2.resolve_left hq0)
      clear h2
      by_cases h4 : 10000000 < q
      · clear h3
        go_enter Try.func13, Try.ntmps13
        go_wp2
        go_ret2
        exact ⟨⟨_, rfl, fun h => by rw [HE.out] at h; omega, fun _ => rfl⟩, Below.refl _ _⟩
      · have h5 : q < -10000000 := by omega
        clear h3
        go_enter Try.func13, Try.ntmps13
        go_wp2
        go_ret2
        exact ⟨⟨_, rfl, fun h => by rw [HE.out] at h; omega, fun _ => rfl⟩, Below.refl _ _⟩

set_option maxRecDepth 100000 in
set_option maxHeartbeats 8000000 in
theorem rtear_main (a : Option Addr) (n cap : Nat) (A Q : Nat → Int) (q : Int) (w : World) (hb : ∀ i, (0 ≤ A i ∧ A i ≤ 4294967295) ∧ F64 (Q i)) (hA : Holds w a n A Q) (hn : n ≤ 64) (hq0 : q ≠ 0) (hq : -10000000 ≤ q ∧ q ≤ 10000000) : RTearC a n cap A Q q w := by
  have hni : ¬ (64 : Int) < n := by omega
  have hqz : (q == 0) = false := by rw [beq_eq_false_iff_ne]; exact hq0
  have hq1 : ¬ 10000000 < q := by omega
  have hq2 : ¬ q < -10000000 := by omega
  have HQ := Lib.hid hq
  have HA := Lib.hid hA
  have HB := Lib.hid hb
  have HTE0 := Lib.hid (show hmay A Q n = false → tE q n A Q = 2 from fun h => by unfold tE; rw [if_neg (by omega), if_pos (.inr (.inr h))])
  have HTE1 := Lib.hid (show hmay A Q n = true → tE q n A Q = if sumZ (tW q n Q) n < absI q then 7 else 0 from fun hm => by
    unfold tE; rw [if_neg (by omega), if_neg (fun h => ?_)]
    rcases h with h | h | h
    · exact hq0 h
    · rw [inB_iff.2 hq] at h; cases h
    · rw [hm] at h; cases h)
  unfold RTearC
  obtain ⟨te, hte⟩ : ∃ te, te = tE q n A Q := ⟨_, rfl⟩
  rw [← hte]
  have HTE := Lib.hid hte
  clear hq hte hA hb
  go_enter Try.func13, Try.ntmps13
  go_wp2
  go_loopg [6] n (fun gh v6 wr => ∃ k : Nat, k ≤ n ∧ gh = n - k ∧ v6 = .int .i64 k ∧ hmay A Q k = true ∧ Below w.heap.size w wr)
  case atStart => exact ⟨0, by omega, by omega, rfl, rfl, Below.refl _ _⟩
  case round =>
    obtain ⟨k, hk, rfl, rfl, hm, hbw⟩ := hrel
    have HM := Lib.hid hm
    have HW := Lib.hid hbw
    clear hm hbw
    by_cases hlt : k < n
    · obtain ⟨g, off, B, t, fr, rfl, hg, hs, he, c0, c1⟩ := (HA.out.kept HW.out).at hlt
      have hki : (k : Int) < n := by omega
      have HBAD := Lib.hid (fun (h : ¬ ((if k = 0 then 0 else A (k - 1)) < A k ∧ -10000000 ≤ Q k ∧ Q k ≤ 10000000)) => HTE.out.trans (HTE0.out (hmay_no (A := A) (Q := Q) n hlt h)))
      have hyes : (if k = 0 then 0 else A (k - 1)) < A k ∧ -10000000 ≤ Q k ∧ Q k ≤ 10000000 → hmay A Q (k + 1) = true := fun h => by
        show (hmay A Q k && (decide ((if k = 0 then 0 else A (k - 1)) < A k) && inB (Q k) (-10000000) 10000000)) = true
        rw [HM.out, decide_eq_true h.1, inB_iff.2 h.2]; rfl
      have HY0 := Lib.hid hyes
      have hx := (HB.out k).1
      have hz := (HB.out k).2
      unfold F64 at hz
      have b0 : B[off + k * 2]? = some (.int .u32 (A k)) := by rw [cellF hg] at c0; exact c0
      have b1 : B[off + k * 2 + 1]? = some (.int .i64 (Q k)) := by rw [cellF hg] at c1; exact c1
      clear hyes c0 c1 he
      by_cases hk0 : k = 0
      · subst hk0
        have hkp : ¬ (0 : Int) < ((0 : Nat) : Int) := by omega
        rw [if_pos rfl] at HBAD HY0
        obtain ⟨x, hxe⟩ : ∃ x, x = A 0 := ⟨_, rfl⟩
        obtain ⟨z, hze⟩ : ∃ x, x = Q 0 := ⟨_, rfl⟩
        rw [← hxe] at HBAD HY0 hx b0
        rw [← hze] at HBAD HY0 hz b1
        rw [Nat.zero_mul, Nat.add_zero] at b0 b1
        clear hxe hze
        by_cases hx0 : x = 0
        · have h2 : te = 2 := HBAD.out (fun h => by omega)
          subst h2
          have hxz : (x == 0) = true := by rw [beq_iff_eq]; exact hx0
          subst hx0
          go_upto_region 8 with fail
          refine wp_region_below (by kernel_rfl) (by kernel_rfl) ?_
          repeat (first | ((with_reducible apply q_skip); (case hw => rfl); (try simp only [Act.put, List.setIfInBounds_toArray, List.set_cons_zero, List.set_cons_succ])) | ((with_reducible apply q_val); (case hw => rfl); (case hv => intro wq hbq; have hcq := cellF (Yticdcdahehodkaa.kept hbq hg); go_simp; try rfl); (try simp only [Act.put, List.setIfInBounds_toArray, List.set_cons_zero, List.set_cons_succ])))
          refine q_nil ?_
          intro w4 hb4
          go_wp2
          go_ret2
          exact ⟨⟨_, rfl, fun h => by rw [← HTE.out] at h; omega, fun _ => rfl⟩, below_then HW.out hb4⟩
        have hxz : (x == 0) = false := by rw [beq_eq_false_iff_ne]; exact hx0
        by_cases hz1 : 10000000 < z
        · have h2 : te = 2 := HBAD.out (fun h => by omega)
          subst h2
          go_upto_region 8 with fail
          refine wp_region_below (by kernel_rfl) (by kernel_rfl) ?_
          repeat (first | ((with_reducible apply q_skip); (case hw => rfl); (try simp only [Act.put, List.setIfInBounds_toArray, List.set_cons_zero, List.set_cons_succ])) | ((with_reducible apply q_val); (case hw => rfl); (case hv => intro wq hbq; have hcq := cellF (Yticdcdahehodkaa.kept hbq hg); go_simp; try rfl); (try simp only [Act.put, List.setIfInBounds_toArray, List.set_cons_zero, List.set_cons_succ])))
          refine q_nil ?_
          intro w4 hb4
          go_wp2
          go_ret2
          exact ⟨⟨_, rfl, fun h => by rw [← HTE.out] at h; omega, fun _ => rfl⟩, below_then HW.out hb4⟩
        by_cases hz2 : z < -10000000
        · have h2 : te = 2 := HBAD.out (fun h => by omega)
          subst h2
          go_upto_region 8 with fail
          refine wp_region_below (by kernel_rfl) (by kernel_rfl) ?_
          repeat (first | ((with_reducible apply q_skip); (case hw => rfl); (try simp only [Act.put, List.setIfInBounds_toArray, List.set_cons_zero, List.set_cons_succ])) | ((with_reducible apply q_val); (case hw => rfl); (case hv => intro wq hbq; have hcq := cellF (Yticdcdahehodkaa.kept hbq hg); go_simp; try rfl); (try simp only [Act.put, List.setIfInBounds_toArray, List.set_cons_zero, List.set_cons_succ])))
          refine q_nil ?_
          intro w4 hb4
          go_wp2
          go_ret2
          exact ⟨⟨_, rfl, fun h => by rw [← HTE.out] at h; omega, fun _ => rfl⟩, below_then HW.out hb4⟩
        have HYES := Lib.hid (HY0.out (by omega))
        go_upto_region 8 with fail
        refine wp_region_below (by kernel_rfl) (by kernel_rfl) ?_
        repeat (first | ((with_reducible apply q_skip); (case hw => rfl); (try simp only [Act.put, List.setIfInBounds_toArray, List.set_cons_zero, List.set_cons_succ])) | ((with_reducible apply q_val); (case hw => rfl); (case hv => intro wq hbq; have hcq := cellF (Yticdcdahehodkaa.kept hbq hg); go_simp; try rfl); (try simp only [Act.put, List.setIfInBounds_toArray, List.set_cons_zero, List.set_cons_succ])))
        refine q_nil ?_
        intro w4 hb4
        go_wp2
        go_roundg (n - 1)
        case measure => omega
        case rel => exact ⟨1, by omega, rfl, by go_num, HYES.out, below_then HW.out hb4⟩
      · obtain ⟨m, hmk⟩ : ∃ m, m + 1 = k := ⟨k - 1, by omega⟩
        have hkp : (0 : Int) < (k : Int) := by omega
        have hkp2 : 0 < k := by omega
        obtain ⟨g', off', B', t', fr', e1, hg', _, _, d0, _⟩ := (HA.out.kept HW.out).at (show m < n by omega)
        injection e1 with e1; injection e1 with e11 e12
        subst e11; subst e12
        rw [hg] at hg'
        injection hg' with hg'; injection hg' with hg' e13 e14
        subst hg'
        have b2 : B[off + m * 2]? = some (.int .u32 (A m)) := by rw [cellF hg] at d0; exact d0
        have hl := (HB.out m).1
        rw [if_neg (by omega), show k - 1 = m by omega] at HBAD HY0
        have hmi : (m : Int) < n := by omega
        have hkm : (k : Int) - 1 = (m : Int) := by omega
        have wm : IntKind.i64.wrap (m : Int) = (m : Int) := by rw [IntKind.wrap_i64]; omega
        obtain ⟨x, hxe⟩ : ∃ x, x = A k := ⟨_, rfl⟩
        obtain ⟨z, hze⟩ : ∃ x, x = Q k := ⟨_, rfl⟩
        obtain ⟨l, hle⟩ : ∃ x, x = A m := ⟨_, rfl⟩
        rw [← hxe, ← hle] at HBAD HY0
        rw [← hze] at HBAD HY0
        rw [← hxe] at hx b0
        rw [← hle] at hl b2
        rw [← hze] at hz b1
        clear hxe hze hle d0 e13 e14 hk0 hmk
        by_cases hxl : x ≤ l
        · by_cases hx0 : x = 0
          · have h2 : te = 2 := HBAD.out (fun h => by omega)
            subst h2
            have hxz : (x == 0) = true := by rw [beq_iff_eq]; exact hx0
            subst hx0
            go_upto_region 8 with fail
            refine wp_region_below (by kernel_rfl) (by kernel_rfl) ?_
            repeat (first | ((with_reducible apply q_skip); (case hw => rfl); (try simp only [Act.put, List.setIfInBounds_toArray, List.set_cons_zero, List.set_cons_succ])) | ((with_reducible apply q_val); (case hw => rfl); (case hv => intro wq hbq; have hcq := cellF (Yticdcdahehodkaa.kept hbq hg); go_simp; try rfl); (try simp only [Act.put, List.setIfInBounds_toArray, List.set_cons_zero, List.set_cons_succ])))
            refine q_nil ?_
            intro w4 hb4
            go_wp2
            go_ret2
            exact ⟨⟨_, rfl, fun h => by rw [← HTE.out] at h; omega, fun _ => rfl⟩, below_then HW.out hb4⟩
          · have hxz : (x == 0) = false := by rw [beq_eq_false_iff_ne]; exact hx0
            have h2 : te = 2 := HBAD.out (fun h => by omega)
            subst h2
            go_upto_region 8 with fail
            refine wp_region_below (by kernel_rfl) (by kernel_rfl) ?_
            repeat (first | ((with_reducible apply q_skip); (case hw => rfl); (try simp only [Act.put, List.setIfInBounds_toArray, List.set_cons_zero, List.set_cons_succ])) | ((with_reducible apply q_val); (case hw => rfl); (case hv => intro wq hbq; have hcq := cellF (Yticdcdahehodkaa.kept hbq hg); go_simp; try rfl); (try simp only [Act.put, List.setIfInBounds_toArray, List.set_cons_zero, List.set_cons_succ])))
            refine q_nil ?_
            intro w4 hb4
            go_wp2
            go_ret2
            exact ⟨⟨_, rfl, fun h => by rw [← HTE.out] at h; omega, fun _ => rfl⟩, below_then HW.out hb4⟩
        · by_cases hx0 : x = 0
          · have h2 : te = 2 := HBAD.out (fun h => by omega)
            subst h2
            have hxz : (x == 0) = true := by rw [beq_iff_eq]; exact hx0
            subst hx0
            go_upto_region 8 with fail
            refine wp_region_below (by kernel_rfl) (by kernel_rfl) ?_
            repeat (first | ((with_reducible apply q_skip); (case hw => rfl); (try simp only [Act.put, List.setIfInBounds_toArray, List.set_cons_zero, List.set_cons_succ])) | ((with_reducible apply q_val); (case hw => rfl); (case hv => intro wq hbq; have hcq := cellF (Yticdcdahehodkaa.kept hbq hg); go_simp; try rfl); (try simp only [Act.put, List.setIfInBounds_toArray, List.set_cons_zero, List.set_cons_succ])))
            refine q_nil ?_
            intro w4 hb4
            go_wp2
            go_ret2
            exact ⟨⟨_, rfl, fun h => by rw [← HTE.out] at h; omega, fun _ => rfl⟩, below_then HW.out hb4⟩
          have hxz : (x == 0) = false := by rw [beq_eq_false_iff_ne]; exact hx0
          by_cases hz1 : 10000000 < z
          · have h2 : te = 2 := HBAD.out (fun h => by omega)
            subst h2
            go_upto_region 8 with fail
            refine wp_region_below (by kernel_rfl) (by kernel_rfl) ?_
            repeat (first | ((with_reducible apply q_skip); (case hw => rfl); (try simp only [Act.put, List.setIfInBounds_toArray, List.set_cons_zero, List.set_cons_succ])) | ((with_reducible apply q_val); (case hw => rfl); (case hv => intro wq hbq; have hcq := cellF (Yticdcdahehodkaa.kept hbq hg); go_simp; try rfl); (try simp only [Act.put, List.setIfInBounds_toArray, List.set_cons_zero, List.set_cons_succ])))
            refine q_nil ?_
            intro w4 hb4
            go_wp2
            go_ret2
            exact ⟨⟨_, rfl, fun h => by rw [← HTE.out] at h; omega, fun _ => rfl⟩, below_then HW.out hb4⟩
          by_cases hz2 : z < -10000000
          · have h2 : te = 2 := HBAD.out (fun h => by omega)
            subst h2
            go_upto_region 8 with fail
            refine wp_region_below (by kernel_rfl) (by kernel_rfl) ?_
            repeat (first | ((with_reducible apply q_skip); (case hw => rfl); (try simp only [Act.put, List.setIfInBounds_toArray, List.set_cons_zero, List.set_cons_succ])) | ((with_reducible apply q_val); (case hw => rfl); (case hv => intro wq hbq; have hcq := cellF (Yticdcdahehodkaa.kept hbq hg); go_simp; try rfl); (try simp only [Act.put, List.setIfInBounds_toArray, List.set_cons_zero, List.set_cons_succ])))
            refine q_nil ?_
            intro w4 hb4
            go_wp2
            go_ret2
            exact ⟨⟨_, rfl, fun h => by rw [← HTE.out] at h; omega, fun _ => rfl⟩, below_then HW.out hb4⟩
          have HYES := Lib.hid (HY0.out (by omega))
          go_upto_region 8 with fail
          refine wp_region_below (by kernel_rfl) (by kernel_rfl) ?_
          repeat (first | ((with_reducible apply q_skip); (case hw => rfl); (try simp only [Act.put, List.setIfInBounds_toArray, List.set_cons_zero, List.set_cons_succ])) | ((with_reducible apply q_val); (case hw => rfl); (case hv => intro wq hbq; have hcq := cellF (Yticdcdahehodkaa.kept hbq hg); go_simp; try rfl); (try simp only [Act.put, List.setIfInBounds_toArray, List.set_cons_zero, List.set_cons_succ])))
          refine q_nil ?_
          intro w4 hb4
          go_wp2
          go_roundg (n - (k + 1))
          case measure => omega
          case rel => exact ⟨k + 1, by omega, rfl, by go_num, HYES.out, below_then HW.out hb4⟩
    · obtain rfl : k = n := by omega
      have hm := HM.out
      have HTW := Lib.hid (HTE.out.trans (HTE1.out hm))
      obtain ⟨W, hW⟩ : ∃ W, W = tN q k Q := ⟨_, rfl⟩
      have HWE := Lib.hid (fun i => show ((W i : Nat) : Int) = tW q k Q i from by rw [hW]; exact tN_eq hm i)
      have HWD := Lib.hid hW
      clear hm HTE0 HTE1 hW
      obtain ⟨wo, rfl⟩ : ∃ wo : World, wo = wr := ⟨_, rfl⟩
      go_wp2
      go_loopg [7, 8, 9, 10] k (fun gh v7 v8 v9 v10 wx => ∃ j : Nat, j ≤ k ∧ gh = k - j ∧ v10 = .int .i64 j ∧ v9 = .int .i64 (sumZ (tW q k Q) j) ∧ Lt2 wo wx v7 v8 (tm W j) (tm W j) (fun i => A (atP W k i)) (tK q k Q))
      case atStart => exact ⟨0, by omega, by omega, rfl, rfl, ⟨Below.refl _ _, World.ownsRow_nil _ _ _ _, World.ownsRow_nil _ _ _ _⟩⟩
      case round =>
        obtain ⟨j, hj, rfl, rfl, rfl, hL⟩ := hrel
        have HL := Lib.hid hL
        have HSM := Lib.hid (tW_sum (q := q) HM.out j hj)
        clear hL
        obtain ⟨s0, hs0⟩ : ∃ s0, s0 = sumZ (tW q k Q) j := ⟨_, rfl⟩
        have hsb := HSM.out
        rw [← hs0] at hsb
        rw [← hs0]
        by_cases hlt : j < k
        · obtain ⟨g, off, B, t, fr, rfl, hg, hs, he, c0, c1⟩ := (HA.out.kept (below_then HW.out HL.out.be)).at hlt
          have hji : (j : Int) < k := by omega
          have hqj := (hmay_at HM.out hlt).2
          have hwj := HWE.out j
          rw [show tW q k Q j = oppI q (Q j) from if_pos hlt] at hwj
          have HNX := Lib.hid (show sumZ (tW q k Q) (j + 1) = s0 + oppI q (Q j) from by
            show sumZ (tW q k Q) j + tW q k Q j = _
            rw [show tW q k Q j = oppI q (Q j) from if_pos hlt, hs0])
          have HTM := Lib.hid (tm_succ W j)
          have HAT := Lib.hid (fun h => atP_at (P := W) k j hlt h)
          have HTK := Lib.hid (fun h : 0 < W j => show tK q k Q (tm W j) = oppI q (Q j) from by
            unfold tK
            rw [← HWD.out, HAT.out h]
            exact if_pos hlt)
          have hx := (HB.out j).1
          have htm : tm W j ≤ j := cnt_le _ _
          have HAX := Lib.hid (fun h : 0 < W j => congrArg A (HAT.out h))
          obtain ⟨x, hxe⟩ : ∃ x, x = A j := ⟨_, rfl⟩
          obtain ⟨y, hye⟩ : ∃ y, y = Q j := ⟨_, rfl⟩
          rw [← hxe] at HAX hx c0
          rw [← hye] at HNX HTK hwj hqj c1
          clear hxe hye hs he
          have wn : IntKind.i64.wrap (-y) = -y := by rw [IntKind.wrap_i64]; omega
          rcases (show q < 0 ∨ 0 < q by omega) with hqs | hqs
          · have hqs2 : ¬ 0 < q := by omega
            rw [opp_neg hqs] at HNX HTK hwj
            by_cases hp : 0 < y
            · rw [if_pos hp] at HNX HTK hwj
              obtain ⟨v, rfl⟩ : ∃ v, v = y := ⟨_, rfl⟩
              have hwp : 0 < W j := by omega
              have htk := HTK.out hwp
              have HE1 := Lib.hid (show tm W (j + 1) = tm W j + 1 from by rw [HTM.out, if_pos hwp])
              have ws : IntKind.i64.wrap (s0 + v) = s0 + v := by rw [IntKind.wrap_i64]; omega
              have HVV := Lib.hid (And.intro htk (show uA (A (atP W k (tm W j))) = #[.int .u32 x] from by rw [HAX.out hwp]; rfl))
              clear hwp htk hwj hs0
              go_wp2_with (first
                | ((with_reducible refine at_append 51 ?_); refine wpList_append_row1 (X := #[.int .u32 x]) (c := 1) rfl _ _ rfl Try.underlying51 info_u32r (by omega) rfl (by simp [Value.oneCell']) wo.heap.size u7 (tm W j) _ rfl HL.out.a rfl (by omega) HL.out.be.size ?_; intro v1 w6 ho6 hg6 hq6; (have HL6 := Lib.hid (HL.out.appa (v := v1) (by rw [show (uA ((fun i => A (atP W k i)) (tm W j))) = #[.int .u32 x] from HVV.out.2]; exact ho6) hg6)); clear ho6 hg6 hq6) | ((with_reducible refine at_append 48 ?_); refine wpList_append_ints rfl _ _ rfl wo.heap.size u8 (tm W j) _ rfl (HL6.out.z.alloc _) (some ⟨w6.heap.size, 0, none⟩) 1 1 (fun _ => v) rfl (fun i hi => ⟨w6.heap.size, 0, #[.int .i64 v], _, _, rfl, heap_alloc_new _ _, by obtain rfl : i = 0 := (by omega); rfl⟩) (fun h => by cases h) (by omega) (by have := HL6.out.be.size; simp; omega) ?_; intro v2 w7 ho7 hg7; (have HL7 := Lib.hid (HL6.out.appz (v := v2) (by rw [HVV.out.1]; exact ho7) hg7)); clear ho7 hg7))
              go_roundg (k - (j + 1))
              case measure => omega
              case rel => exact ⟨j + 1, by omega, rfl, by go_num, by rw [HNX.out], by rw [HE1.out]; exact HL7.out⟩
            · rw [if_neg hp, Int.add_zero] at HNX
              rw [if_neg hp] at hwj
              have HE1 := Lib.hid (show tm W (j + 1) = tm W j from by rw [HTM.out, if_neg (by omega), Nat.add_zero])
              have HS00 := Lib.hid hs0
              clear hwj hs0
              go_wp2
              go_roundg (k - (j + 1))
              case measure => omega
              case rel => exact ⟨j + 1, by omega, rfl, by go_num, by rw [HNX.out], by rw [HE1.out]; exact HL.out⟩
          · have hqs2 : ¬ q < 0 := by omega
            rw [opp_pos hqs] at HNX HTK hwj
            by_cases hp : 0 < -y
            · rw [if_pos hp] at HNX HTK hwj
              obtain ⟨v, hv⟩ : ∃ v, v = -y := ⟨_, rfl⟩
              rw [← hv] at HNX HTK hwj hp
              have hvb : v ≤ 10000000 := by omega
              have hvy : -y = v := hv.symm
              clear hv wn
              have hwp : 0 < W j := by omega
              have htk := HTK.out hwp
              have HE1 := Lib.hid (show tm W (j + 1) = tm W j + 1 from by rw [HTM.out, if_pos hwp])
              have ws : IntKind.i64.wrap (s0 + v) = s0 + v := by rw [IntKind.wrap_i64]; omega
              have HVV := Lib.hid (And.intro htk (show uA (A (atP W k (tm W j))) = #[.int .u32 x] from by rw [HAX.out hwp]; rfl))
              clear hwp htk hwj hs0
              go_wp2_with (first
                | ((with_reducible refine at_append 51 ?_); refine wpList_append_row1 (X := #[.int .u32 x]) (c := 1) rfl _ _ rfl Try.underlying51 info_u32r (by omega) rfl (by simp [Value.oneCell']) wo.heap.size u7 (tm W j) _ rfl HL.out.a rfl (by omega) HL.out.be.size ?_; intro v1 w6 ho6 hg6 hq6; (have HL6 := Lib.hid (HL.out.appa (v := v1) (by rw [show (uA ((fun i => A (atP W k i)) (tm W j))) = #[.int .u32 x] from HVV.out.2]; exact ho6) hg6)); clear ho6 hg6 hq6) | ((with_reducible refine at_append 48 ?_); refine wpList_append_ints rfl _ _ rfl wo.heap.size u8 (tm W j) _ rfl (HL6.out.z.alloc _) (some ⟨w6.heap.size, 0, none⟩) 1 1 (fun _ => v) rfl (fun i hi => ⟨w6.heap.size, 0, #[.int .i64 v], _, _, rfl, heap_alloc_new _ _, by obtain rfl : i = 0 := (by omega); rfl⟩) (fun h => by cases h) (by omega) (by have := HL6.out.be.size; simp; omega) ?_; intro v2 w7 ho7 hg7; (have HL7 := Lib.hid (HL6.out.appz (v := v2) (by rw [HVV.out.1]; exact ho7) hg7)); clear ho7 hg7))
              go_roundg (k - (j + 1))
              case measure => omega
              case rel => exact ⟨j + 1, by omega, rfl, by go_num, by rw [HNX.out], by rw [HE1.out]; exact HL7.out⟩
            · rw [if_neg hp, Int.add_zero] at HNX
              rw [if_neg hp] at hwj
              have HE1 := Lib.hid (show tm W (j + 1) = tm W j from by rw [HTM.out, if_neg (by omega), Nat.add_zero])
              have HS00 := Lib.hid hs0
              clear hwj hs0
              go_wp2
              go_roundg (k - (j + 1))
              case measure => omega
              case rel => exact ⟨j + 1, by omega, rfl, by go_num, by rw [HNX.out], by rw [HE1.out]; exact HL.out⟩
        · obtain rfl : j = k := by omega
          have hz0 := absI_bd HQ.out
          have hzp : 0 < absI q := by unfold absI; split <;> omega
          obtain ⟨z, hz⟩ : ∃ z, z = absI q := ⟨_, rfl⟩
          rw [← hz] at hz0 hzp
          have HZ := Lib.hid hz
          have HS0 := Lib.hid hs0
          have hzn : ¬ z < 0 := by omega
          have HBW := Lib.hid (below_then HW.out HL.out.be)
          clear hs0
          rcases (show q < 0 ∨ 0 < q by omega) with hqs | hqs
          · have hqe : -q = z := by rw [hz]; unfold absI; rw [if_neg (by omega)]
            clear hz
            by_cases hlow : s0 < z
            · have h7 : te = 7 := by rw [HTW.out, ← HS0.out, ← HZ.out, if_pos hlow]
              subst h7
              go_wp2
              go_ret2
              exact ⟨⟨_, rfl, fun h => by (try rw [← hqe] at h); rw [← HTE.out] at h; omega, fun _ => rfl⟩, HBW.out⟩
            · have h7 : te = 0 := by rw [HTW.out, ← HS0.out, ← HZ.out, if_neg hlow]
              subst h7
              have hsum : 0 < sumZ (tW q j Q) j := by rw [← HS0.out]; omega
              have hsp := tK_split (q := q) HM.out hn hq0 (by rw [← HZ.out, ← HS0.out]; omega)
              have hpt := fun (i : Nat) (hi : i < tm (tN q j Q) j) => tK_part (q := q) HM.out hsum hi
              have hno := fun (i : Nat) (hi : i < j) (h : ¬ 0 < tN q j Q i) => tP_none (q := q) HM.out hsum hi h
              have hks := tK_sum (q := q) HM.out (Nat.le_refl j)
              rw [← HWD.out, ← HZ.out] at hsp hpt
              rw [← HWD.out] at hno hks
              obtain ⟨m, hm⟩ : ∃ m, m = tm W j := ⟨_, rfl⟩
              have hmj : m ≤ j := by rw [hm]; exact cnt_le _ _
              have HMM := Lib.hid hm
              have hLL := HL.out
              rw [← hm] at hsp hpt hks hLL
              have hm0 : 0 < m := by
                rcases Nat.eq_zero_or_pos m with h | h
                · rw [h] at hks
                  have : sumZ (tK q j Q) 0 = 0 := rfl
                  omega
                · exact h
              obtain ⟨a8, c8, rfl, hI8⟩ := own_ints hLL.z
              obtain ⟨gw, cw, WA, rfl, hgw, hWA, hwc, hws, hwe⟩ := own_flat (L := fun i => uA (A (atP W j i))) (c := 1) (fun i => rfl) hm0 hLL.a
              have cs := rspl_any a8 m c8 (tK q j Q) z wr (fun i => by have := tW_bd (q := q) HM.out (atP (tN q j Q) j i); unfold tK F64; omega) hI8 (by unfold F64; omega)
              unfold RSplC at cs
              rw [hsp] at cs
              have HSP := Lib.hid hsp
              obtain ⟨P, hP⟩ : ∃ P, P = tP q j Q := ⟨_, rfl⟩
              rw [← hP] at hpt hno
              have HPT := Lib.hid hpt
              have HNO := Lib.hid hno
              have HPP := Lib.hid hP
              have HWE2 := Lib.hid hwe
              have HWS := Lib.hid hws
              clear hP hpt hno hks hsp hI8 hm hLL hsum hwe hws HL
              go_wp2_with (first | (go_at_call 24; (with_reducible refine (cs).mono ?_); rintro e w5 ⟨⟨v5, rfl, hv5⟩, hb5⟩; replace hv5 := Lib.hid hv5; replace hb5 := Lib.hid hb5))
              obtain ⟨gp, cp, PA, rfl, hgp, hPA, hpc, _, hps, hpp⟩ := own_zl hm0 (hv5.out.1 HSP.out)
              have hW5 := Yticdcdahehodkaa.kept hb5.out hWA
              have hgw5 := (Array.getElem?_eq_some_iff.1 hW5).1
              have hgp5 := (Array.getElem?_eq_some_iff.1 hPA).1
              have HPV := Lib.hid hpp
              have HPA := Lib.hid hPA
              have HWA := Lib.hid hW5
              have HB5 := Lib.hid (below_then HBW.out hb5.out)
              clear hPA hW5 hpp hv5 hWA cs hps hb5
              go_loopg [14, 15] m (fun gh v14 v15 wx => ∃ (i c : Nat) (L : List Value), i ≤ m ∧ gh = m - i ∧ v15 = .int .i64 i ∧ RowsAt A W P j i c L ∧ wx.ownsRow w5.heap.size 32 2 v14 c L ∧ Below w5.heap.size w5 wx)
              case atStart => exact ⟨0, 0, [], by omega, by omega, rfl, rowsAt_start _ _ _ _, World.ownsRow_nil _ _ _ _, Below.refl _ _⟩
              case round =>
                obtain ⟨i, c, L, hi, rfl, rfl, hra, hown, hbx⟩ := hrel
                have HRA := Lib.hid hra
                have HO := Lib.hid hown
                have HX := Lib.hid hbx
                have hcj : c ≤ 64 := by
                  obtain ⟨i0, h1, _, rfl, _⟩ := hra
                  have := cnt_le (fun k => decide (0 < P k)) i0
                  unfold tm; omega
                clear hra hown hbx
                by_cases hlt2 : i < m
                · have hii : (i : Int) < m := by omega
                  have hnx := rowsAt_next HNO.out HRA.out (by rw [← HMM.out]; exact hlt2)
                  have hpv := HPV.out i hlt2
                  rw [HPT.out i hlt2] at hpv
                  have hwv : WA[i]? = some (.int .u32 (A (atP W j i))) := by
                    have h := congrArg (fun C : Array Value => C[0]?) (HWE2.out i hlt2)
                    simp only [Array.getElem?_extract] at h
                    have hs := HWS.out
                    rw [if_pos (by omega)] at h
                    simpa [uA] using h
                  obtain ⟨x, hxe⟩ : ∃ x, x = A (atP W j i) := ⟨_, rfl⟩
                  obtain ⟨p, hpe⟩ : ∃ p, p = P (atP W j i) := ⟨_, rfl⟩
                  rw [← hxe, ← hpe] at hnx
                  rw [← hpe] at hpv
                  rw [← hxe] at hwv
                  have HNX := Lib.hid hnx
                  have cP := ((cells_of (Yticdcdahehodkaa.kept HX.out HPA.out)).1 i).trans hpv
                  clear hxe hpe hnx
                  by_cases hp0 : 0 < p
                  · have hpi : (0 : Int) < (p : Int) := by omega
                    go_upto_region 33 with fail
                    refine wp_region_held (S := fun wt => wt.heap[gw]? = some (.cells WA 30 (0, 0)) ∧ wt.heap[gp]? = some (.cells PA 2 (0, 0))) (by kernel_rfl) ?_
                    change wpAnyH _ _ _ _ _ _ _ _ (World.drew _)
                    obtain ⟨wq, hwq⟩ : ∃ wq, wq = wr.drew := ⟨_, rfl⟩
                    have HS : wq.heap[gw]? = some (.cells WA 30 (0, 0)) ∧ wq.heap[gp]? = some (.cells PA 2 (0, 0)) := by rw [hwq]; exact ⟨Yticdcdahehodkaa.kept HX.out HWA.out, Yticdcdahehodkaa.kept HX.out HPA.out⟩
                    have hbq : Below w5.heap.size w5 wq := by rw [hwq]; exact Below.drew HX.out
                    have hoq : wq.ownsRow w5.heap.size 32 2 u14 c L := by rw [hwq]; exact HO.out
                    rw [← hwq]
                    clear hwq cP
                    (refine wpAnyH_take (i := 0) (v := ?_) rfl (by kernel_rfl) (by kernel_rfl) (by kernel_rfl) (fun _ _ _ h => h) (Or.inl ⟨by rfl, ?ht_0⟩) HS ?_); (case ht_0 => (intro wt hS; go_simp; try with_reducible rfl)); (try simp only [Act.put, List.getElem_toArray, List.getElem_cons_zero, List.getElem_cons_succ, List.setIfInBounds_toArray, List.set_cons_zero, List.set_cons_succ]); (refine wpAnyH_take (i := 1) (v := ?_) rfl (by kernel_rfl) (by kernel_rfl) (by kernel_rfl) (fun _ _ _ h => h) (Or.inl ⟨by rfl, ?ht_1⟩) HS ?_); (case ht_1 => (intro wt hS; go_simp; try with_reducible rfl)); (try simp only [Act.put, List.getElem_toArray, List.getElem_cons_zero, List.getElem_cons_succ, List.setIfInBounds_toArray, List.set_cons_zero, List.set_cons_succ]); (refine wpAnyH_take (i := 2) (v := ?_) rfl (by kernel_rfl) (by kernel_rfl) (by kernel_rfl) (fun _ _ _ h => h) (Or.inl ⟨by rfl, ?ht_2⟩) HS ?_); (case ht_2 => (intro wt hS; go_simp; try with_reducible rfl)); (try simp only [Act.put, List.getElem_toArray, List.getElem_cons_zero, List.getElem_cons_succ, List.setIfInBounds_toArray, List.set_cons_zero, List.set_cons_succ]); (refine wpAnyH_take (i := 3) (v := ?_) rfl (by kernel_rfl) (by kernel_rfl) (by kernel_rfl) (fun _ _ _ h => h) (Or.inl ⟨by rfl, ?ht_3⟩) HS ?_); (case ht_3 => (intro wt hS; go_simp; try with_reducible rfl)); (try simp only [Act.put, List.getElem_toArray, List.getElem_cons_zero, List.getElem_cons_succ, List.setIfInBounds_toArray, List.set_cons_zero, List.set_cons_succ])
                    (refine wpAnyH_take (i := 4) (v := ?_) rfl (by kernel_rfl) (by kernel_rfl) (by kernel_rfl) (fun _ _ _ h => h) (Or.inl ⟨by rfl, ?ht_4⟩) HS ?_); (case ht_4 => (intro wt hS; have cg := cellF hS.1; go_simp; try with_reducible rfl)); (try simp only [Act.put, List.getElem_toArray, List.getElem_cons_zero, List.getElem_cons_succ, List.setIfInBounds_toArray, List.set_cons_zero, List.set_cons_succ])
                    (refine wpAnyH_take (i := 5) (v := ?_) rfl (by kernel_rfl) (by kernel_rfl) (by kernel_rfl) (fun _ _ _ h => h) (Or.inl ⟨by rfl, ?ht_5⟩) HS ?_); (case ht_5 => (intro wt hS; go_simp; try with_reducible rfl)); (try simp only [Act.put, List.getElem_toArray, List.getElem_cons_zero, List.getElem_cons_succ, List.setIfInBounds_toArray, List.set_cons_zero, List.set_cons_succ]); (refine wpAnyH_take (i := 6) (v := ?_) rfl (by kernel_rfl) (by kernel_rfl) (by kernel_rfl) (fun _ _ _ h => h) (Or.inl ⟨by rfl, ?ht_6⟩) HS ?_); (case ht_6 => (intro wt hS; go_simp; try with_reducible rfl)); (try simp only [Act.put, List.getElem_toArray, List.getElem_cons_zero, List.getElem_cons_succ, List.setIfInBounds_toArray, List.set_cons_zero, List.set_cons_succ]); (refine wpAnyH_take (i := 7) (v := ?_) rfl (by kernel_rfl) (by kernel_rfl) (by kernel_rfl) (fun _ _ _ h => h) (Or.inl ⟨by rfl, ?ht_7⟩) HS ?_); (case ht_7 => (intro wt hS; go_simp; try with_reducible rfl)); (try simp only [Act.put, List.getElem_toArray, List.getElem_cons_zero, List.getElem_cons_succ, List.setIfInBounds_toArray, List.set_cons_zero, List.set_cons_succ])
                    (refine wpAnyH_take (i := 8) (v := ?_) rfl (by kernel_rfl) (by kernel_rfl) (by kernel_rfl) (fun _ _ _ h => h) (Or.inl ⟨by rfl, ?ht_8⟩) HS ?_); (case ht_8 => (intro wt hS; have cg := cellF hS.2; go_simp; try with_reducible rfl)); (try simp only [Act.put, List.getElem_toArray, List.getElem_cons_zero, List.getElem_cons_succ, List.setIfInBounds_toArray, List.set_cons_zero, List.set_cons_succ])
                    (refine wpAnyH_take (i := 9) (v := .agg (hA x (p : Int))) rfl (by kernel_rfl) (by kernel_rfl) (by kernel_rfl) (fun _ _ _ h => h) (Or.inl ⟨by rfl, ?ht_9⟩) HS ?_); (case ht_9 => (intro wt hS; exact exec_build 32 _ rfl (hA x (p : Int)) (by kernel_rfl))); (try simp only [Act.put, List.getElem_toArray, List.getElem_cons_zero, List.getElem_cons_succ, List.setIfInBounds_toArray, List.set_cons_zero, List.set_cons_succ])
                    (refine wpAnyH_ready (rs := [10]) (by kernel_rfl) (by decide) ?_); (refine AllReadyH.cons rfl (fun K' hK => ?_) AllReadyH.nil); (rw [if_pos (by rfl)])
                    obtain ⟨ip, zp, ip1, ip2, ip3, ip4, ip5⟩ := info_hold
                    refine op_slice1 22 32 _ rfl (hA x (p : Int)) 2 rfl (hA_size _ _) ip zp Try.underlying22 ip1 ip2 ip3 ip5 (by omega) (by omega) (hK.out _ _ ⟨heap_up HS.1, heap_up HS.2⟩ (fun HS => ?_))
                    clear hK K' ip1 ip2 ip3 ip4 ip5
                    (try simp only [Act.put, List.getElem_toArray, List.getElem_cons_zero, List.getElem_cons_succ, List.setIfInBounds_toArray, List.set_cons_zero, List.set_cons_succ])
                    (refine wpAnyH_ready (rs := [11]) (by kernel_rfl) (by decide) ?_); (refine AllReadyH.cons rfl (fun K' hK => ?_) AllReadyH.nil); (rw [if_pos (by rfl)])
                    refine op_append_row1 _ _ rfl Try.underlying22 info_hold (by omega) (hA_size x (p : Int)) (hA_all _ _) w5.heap.size u14 c _ rfl (hoq.alloc _) wq.heap.size rfl (heap_alloc_new _ _) (by omega) (by have := hbq.size; simp; omega) (fun v8 w8 ho8 hg8 hq8 => ?_)
                    have hb8 : Below w5.heap.size w5 w8 := (below_alloc hbq _).grown hg8 (by have := hbq.size; simp; omega) hq8
                    refine hK.out _ _ ⟨by rw [hb8.block gw hgw5]; exact HWA.out, by rw [hb8.block gp hgp5]; exact HPA.out⟩ (fun HS => ?_)
                    clear hK K'
                    (try simp only [Act.put, List.getElem_toArray, List.getElem_cons_zero, List.getElem_cons_succ, List.setIfInBounds_toArray, List.set_cons_zero, List.set_cons_succ])
                    (refine wpAnyH_take (i := 12) (v := ?_) rfl (by kernel_rfl) (by kernel_rfl) (by kernel_rfl) (fun _ _ _ h => h) (Or.inl ⟨by rfl, ?ht_12⟩) HS ?_); (case ht_12 => (intro wt hS; go_simp; try with_reducible rfl)); (try simp only [Act.put, List.getElem_toArray, List.getElem_cons_zero, List.getElem_cons_succ, List.setIfInBounds_toArray, List.set_cons_zero, List.set_cons_succ])
                    refine wpAnyH_done (by kernel_rfl) ?_ _
                    have HO8 := Lib.hid ho8
                    have HB8 := Lib.hid hb8
                    clear ho8 hb8 hg8 hq8 hoq hbq HS
                    go_wp2_with fail
                    go_roundg (m - (i + 1))
                    case measure => omega
                    case rel => exact ⟨i + 1, c + 1, _, by omega, rfl, by go_num, HNX.out.1 hp0, HO8.out, HB8.out⟩
                  · have hpi : ¬ (0 : Int) < (p : Int) := by omega
                    go_wp2
                    go_roundg (m - (i + 1))
                    case measure => omega
                    case rel => exact ⟨i + 1, c, L, by omega, rfl, by go_num, HNX.out.2 hp0, HO.out, HX.out⟩
                · obtain rfl : i = m := by omega
                  have hfin := rowsAt_end HNO.out (by rw [← HMM.out]; exact HRA.out)
                  have HF := Lib.hid hfin
                  clear hfin
                  go_wp2
                  go_ret2
                  exact ⟨⟨_, rfl, fun _ => by
                    have h := HO.out
                    rw [HF.out.1, HF.out.2, HPP.out] at h
                    (try rw [← hqe])
                    exact own_weak h HB5.out.size, fun h => by (try rw [← hqe] at h); exact absurd HTE.out.symm h⟩, below_then HB5.out HX.out⟩
          · have hqe : q = z := by rw [hz]; unfold absI; rw [if_pos (by omega)]
            clear hz
            by_cases hlow : s0 < z
            · have h7 : te = 7 := by rw [HTW.out, ← HS0.out, ← HZ.out, if_pos hlow]
              subst h7
              go_wp2
              go_ret2
              exact ⟨⟨_, rfl, fun h => by (try rw [← hqe] at h); rw [← HTE.out] at h; omega, fun _ => rfl⟩, HBW.out⟩
            · have h7 : te = 0 := by rw [HTW.out, ← HS0.out, ← HZ.out, if_neg hlow]
              subst h7
              have hsum : 0 < sumZ (tW q j Q) j := by rw [← HS0.out]; omega
              have hsp := tK_split (q := q) HM.out hn hq0 (by rw [← HZ.out, ← HS0.out]; omega)
              have hpt := fun (i : Nat) (hi : i < tm (tN q j Q) j) => tK_part (q := q) HM.out hsum hi
              have hno := fun (i : Nat) (hi : i < j) (h : ¬ 0 < tN q j Q i) => tP_none (q := q) HM.out hsum hi h
              have hks := tK_sum (q := q) HM.out (Nat.le_refl j)
              rw [← HWD.out, ← HZ.out] at hsp hpt
              rw [← HWD.out] at hno hks
              obtain ⟨m, hm⟩ : ∃ m, m = tm W j := ⟨_, rfl⟩
              have hmj : m ≤ j := by rw [hm]; exact cnt_le _ _
              have HMM := Lib.hid hm
              have hLL := HL.out
              rw [← hm] at hsp hpt hks hLL
              have hm0 : 0 < m := by
                rcases Nat.eq_zero_or_pos m with h | h
                · rw [h] at hks
                  have : sumZ (tK q j Q) 0 = 0 := rfl
                  omega
                · exact h
              obtain ⟨a8, c8, rfl, hI8⟩ := own_ints hLL.z
              obtain ⟨gw, cw, WA, rfl, hgw, hWA, hwc, hws, hwe⟩ := own_flat (L := fun i => uA (A (atP W j i))) (c := 1) (fun i => rfl) hm0 hLL.a
              have cs := rspl_any a8 m c8 (tK q j Q) z wr (fun i => by have := tW_bd (q := q) HM.out (atP (tN q j Q) j i); unfold tK F64; omega) hI8 (by unfold F64; omega)
              unfold RSplC at cs
              rw [hsp] at cs
              have HSP := Lib.hid hsp
              obtain ⟨P, hP⟩ : ∃ P, P = tP q j Q := ⟨_, rfl⟩
              rw [← hP] at hpt hno
              have HPT := Lib.hid hpt
              have HNO := Lib.hid hno
              have HPP := Lib.hid hP
              have HWE2 := Lib.hid hwe
              have HWS := Lib.hid hws
              clear hP hpt hno hks hsp hI8 hm hLL hsum hwe hws HL
              go_wp2_with (first | (go_at_call 24; (with_reducible refine (cs).mono ?_); rintro e w5 ⟨⟨v5, rfl, hv5⟩, hb5⟩; replace hv5 := Lib.hid hv5; replace hb5 := Lib.hid hb5))
              obtain ⟨gp, cp, PA, rfl, hgp, hPA, hpc, _, hps, hpp⟩ := own_zl hm0 (hv5.out.1 HSP.out)
              have hW5 := Yticdcdahehodkaa.kept hb5.out hWA
              have hgw5 := (Array.getElem?_eq_some_iff.1 hW5).1
              have hgp5 := (Array.getElem?_eq_some_iff.1 hPA).1
              have HPV := Lib.hid hpp
              have HPA := Lib.hid hPA
              have HWA := Lib.hid hW5
              have HB5 := Lib.hid (below_then HBW.out hb5.out)
              clear hPA hW5 hpp hv5 hWA cs hps hb5
              go_loopg [14, 15] m (fun gh v14 v15 wx => ∃ (i c : Nat) (L : List Value), i ≤ m ∧ gh = m - i ∧ v15 = .int .i64 i ∧ RowsAt A W P j i c L ∧ wx.ownsRow w5.heap.size 32 2 v14 c L ∧ Below w5.heap.size w5 wx)
              case atStart => exact ⟨0, 0, [], by omega, by omega, rfl, rowsAt_start _ _ _ _, World.ownsRow_nil _ _ _ _, Below.refl _ _⟩
              case round =>
                obtain ⟨i, c, L, hi, rfl, rfl, hra, hown, hbx⟩ := hrel
                have HRA := Lib.hid hra
                have HO := Lib.hid hown
                have HX := Lib.hid hbx
                have hcj : c ≤ 64 := by
                  obtain ⟨i0, h1, _, rfl, _⟩ := hra
                  have := cnt_le (fun k => decide (0 < P k)) i0
                  unfold tm; omega
                clear hra hown hbx
                by_cases hlt2 : i < m
                · have hii : (i : Int) < m := by omega
                  have hnx := rowsAt_next HNO.out HRA.out (by rw [← HMM.out]; exact hlt2)
                  have hpv := HPV.out i hlt2
                  rw [HPT.out i hlt2] at hpv
                  have hwv : WA[i]? = some (.int .u32 (A (atP W j i))) := by
                    have h := congrArg (fun C : Array Value => C[0]?) (HWE2.out i hlt2)
                    simp only [Array.getElem?_extract] at h
                    have hs := HWS.out
                    rw [if_pos (by omega)] at h
                    simpa [uA] using h
                  obtain ⟨x, hxe⟩ : ∃ x, x = A (atP W j i) := ⟨_, rfl⟩
                  obtain ⟨p, hpe⟩ : ∃ p, p = P (atP W j i) := ⟨_, rfl⟩
                  rw [← hxe, ← hpe] at hnx
                  rw [← hpe] at hpv
                  rw [← hxe] at hwv
                  have HNX := Lib.hid hnx
                  have cP := ((cells_of (Yticdcdahehodkaa.kept HX.out HPA.out)).1 i).trans hpv
                  clear hxe hpe hnx
                  by_cases hp0 : 0 < p
                  · have hpi : (0 : Int) < (p : Int) := by omega
                    go_upto_region 33 with fail
                    refine wp_region_held (S := fun wt => wt.heap[gw]? = some (.cells WA 30 (0, 0)) ∧ wt.heap[gp]? = some (.cells PA 2 (0, 0))) (by kernel_rfl) ?_
                    change wpAnyH _ _ _ _ _ _ _ _ (World.drew _)
                    obtain ⟨wq, hwq⟩ : ∃ wq, wq = wr.drew := ⟨_, rfl⟩
                    have HS : wq.heap[gw]? = some (.cells WA 30 (0, 0)) ∧ wq.heap[gp]? = some (.cells PA 2 (0, 0)) := by rw [hwq]; exact ⟨Yticdcdahehodkaa.kept HX.out HWA.out, Yticdcdahehodkaa.kept HX.out HPA.out⟩
                    have hbq : Below w5.heap.size w5 wq := by rw [hwq]; exact Below.drew HX.out
                    have hoq : wq.ownsRow w5.heap.size 32 2 u14 c L := by rw [hwq]; exact HO.out
                    rw [← hwq]
                    clear hwq cP
                    (refine wpAnyH_take (i := 0) (v := ?_) rfl (by kernel_rfl) (by kernel_rfl) (by kernel_rfl) (fun _ _ _ h => h) (Or.inl ⟨by rfl, ?ht_0⟩) HS ?_); (case ht_0 => (intro wt hS; go_simp; try with_reducible rfl)); (try simp only [Act.put, List.getElem_toArray, List.getElem_cons_zero, List.getElem_cons_succ, List.setIfInBounds_toArray, List.set_cons_zero, List.set_cons_succ]); (refine wpAnyH_take (i := 1) (v := ?_) rfl (by kernel_rfl) (by kernel_rfl) (by kernel_rfl) (fun _ _ _ h => h) (Or.inl ⟨by rfl, ?ht_1⟩) HS ?_); (case ht_1 => (intro wt hS; go_simp; try with_reducible rfl)); (try simp only [Act.put, List.getElem_toArray, List.getElem_cons_zero, List.getElem_cons_succ, List.setIfInBounds_toArray, List.set_cons_zero, List.set_cons_succ]); (refine wpAnyH_take (i := 2) (v := ?_) rfl (by kernel_rfl) (by kernel_rfl) (by kernel_rfl) (fun _ _ _ h => h) (Or.inl ⟨by rfl, ?ht_2⟩) HS ?_); (case ht_2 => (intro wt hS; go_simp; try with_reducible rfl)); (try simp only [Act.put, List.getElem_toArray, List.getElem_cons_zero, List.getElem_cons_succ, List.setIfInBounds_toArray, List.set_cons_zero, List.set_cons_succ]); (refine wpAnyH_take (i := 3) (v := ?_) rfl (by kernel_rfl) (by kernel_rfl) (by kernel_rfl) (fun _ _ _ h => h) (Or.inl ⟨by rfl, ?ht_3⟩) HS ?_); (case ht_3 => (intro wt hS; go_simp; try with_reducible rfl)); (try simp only [Act.put, List.getElem_toArray, List.getElem_cons_zero, List.getElem_cons_succ, List.setIfInBounds_toArray, List.set_cons_zero, List.set_cons_succ])
                    (refine wpAnyH_take (i := 4) (v := ?_) rfl (by kernel_rfl) (by kernel_rfl) (by kernel_rfl) (fun _ _ _ h => h) (Or.inl ⟨by rfl, ?ht_4⟩) HS ?_); (case ht_4 => (intro wt hS; have cg := cellF hS.1; go_simp; try with_reducible rfl)); (try simp only [Act.put, List.getElem_toArray, List.getElem_cons_zero, List.getElem_cons_succ, List.setIfInBounds_toArray, List.set_cons_zero, List.set_cons_succ])
                    (refine wpAnyH_take (i := 5) (v := ?_) rfl (by kernel_rfl) (by kernel_rfl) (by kernel_rfl) (fun _ _ _ h => h) (Or.inl ⟨by rfl, ?ht_5⟩) HS ?_); (case ht_5 => (intro wt hS; go_simp; try with_reducible rfl)); (try simp only [Act.put, List.getElem_toArray, List.getElem_cons_zero, List.getElem_cons_succ, List.setIfInBounds_toArray, List.set_cons_zero, List.set_cons_succ]); (refine wpAnyH_take (i := 6) (v := ?_) rfl (by kernel_rfl) (by kernel_rfl) (by kernel_rfl) (fun _ _ _ h => h) (Or.inl ⟨by rfl, ?ht_6⟩) HS ?_); (case ht_6 => (intro wt hS; go_simp; try with_reducible rfl)); (try simp only [Act.put, List.getElem_toArray, List.getElem_cons_zero, List.getElem_cons_succ, List.setIfInBounds_toArray, List.set_cons_zero, List.set_cons_succ]); (refine wpAnyH_take (i := 7) (v := ?_) rfl (by kernel_rfl) (by kernel_rfl) (by kernel_rfl) (fun _ _ _ h => h) (Or.inl ⟨by rfl, ?ht_7⟩) HS ?_); (case ht_7 => (intro wt hS; go_simp; try with_reducible rfl)); (try simp only [Act.put, List.getElem_toArray, List.getElem_cons_zero, List.getElem_cons_succ, List.setIfInBounds_toArray, List.set_cons_zero, List.set_cons_succ])
                    (refine wpAnyH_take (i := 8) (v := ?_) rfl (by kernel_rfl) (by kernel_rfl) (by kernel_rfl) (fun _ _ _ h => h) (Or.inl ⟨by rfl, ?ht_8⟩) HS ?_); (case ht_8 => (intro wt hS; have cg := cellF hS.2; go_simp; try with_reducible rfl)); (try simp only [Act.put, List.getElem_toArray, List.getElem_cons_zero, List.getElem_cons_succ, List.setIfInBounds_toArray, List.set_cons_zero, List.set_cons_succ])
                    (refine wpAnyH_take (i := 9) (v := .agg (hA x (p : Int))) rfl (by kernel_rfl) (by kernel_rfl) (by kernel_rfl) (fun _ _ _ h => h) (Or.inl ⟨by rfl, ?ht_9⟩) HS ?_); (case ht_9 => (intro wt hS; exact exec_build 32 _ rfl (hA x (p : Int)) (by kernel_rfl))); (try simp only [Act.put, List.getElem_toArray, List.getElem_cons_zero, List.getElem_cons_succ, List.setIfInBounds_toArray, List.set_cons_zero, List.set_cons_succ])
                    (refine wpAnyH_ready (rs := [10]) (by kernel_rfl) (by decide) ?_); (refine AllReadyH.cons rfl (fun K' hK => ?_) AllReadyH.nil); (rw [if_pos (by rfl)])
                    obtain ⟨ip, zp, ip1, ip2, ip3, ip4, ip5⟩ := info_hold
                    refine op_slice1 22 32 _ rfl (hA x (p : Int)) 2 rfl (hA_size _ _) ip zp Try.underlying22 ip1 ip2 ip3 ip5 (by omega) (by omega) (hK.out _ _ ⟨heap_up HS.1, heap_up HS.2⟩ (fun HS => ?_))
                    clear hK K' ip1 ip2 ip3 ip4 ip5
                    (try simp only [Act.put, List.getElem_toArray, List.getElem_cons_zero, List.getElem_cons_succ, List.setIfInBounds_toArray, List.set_cons_zero, List.set_cons_succ])
                    (refine wpAnyH_ready (rs := [11]) (by kernel_rfl) (by decide) ?_); (refine AllReadyH.cons rfl (fun K' hK => ?_) AllReadyH.nil); (rw [if_pos (by rfl)])
                    refine op_append_row1 _ _ rfl Try.underlying22 info_hold (by omega) (hA_size x (p : Int)) (hA_all _ _) w5.heap.size u14 c _ rfl (hoq.alloc _) wq.heap.size rfl (heap_alloc_new _ _) (by omega) (by have := hbq.size; simp; omega) (fun v8 w8 ho8 hg8 hq8 => ?_)
                    have hb8 : Below w5.heap.size w5 w8 := (below_alloc hbq _).grown hg8 (by have := hbq.size; simp; omega) hq8
                    refine hK.out _ _ ⟨by rw [hb8.block gw hgw5]; exact HWA.out, by rw [hb8.block gp hgp5]; exact HPA.out⟩ (fun HS => ?_)
                    clear hK K'
                    (try simp only [Act.put, List.getElem_toArray, List.getElem_cons_zero, List.getElem_cons_succ, List.setIfInBounds_toArray, List.set_cons_zero, List.set_cons_succ])
                    (refine wpAnyH_take (i := 12) (v := ?_) rfl (by kernel_rfl) (by kernel_rfl) (by kernel_rfl) (fun _ _ _ h => h) (Or.inl ⟨by rfl, ?ht_12⟩) HS ?_); (case ht_12 => (intro wt hS; go_simp; try with_reducible rfl)); (try simp only [Act.put, List.getElem_toArray, List.getElem_cons_zero, List.getElem_cons_succ, List.setIfInBounds_toArray, List.set_cons_zero, List.set_cons_succ])
                    refine wpAnyH_done (by kernel_rfl) ?_ _
                    have HO8 := Lib.hid ho8
                    have HB8 := Lib.hid hb8
                    clear ho8 hb8 hg8 hq8 hoq hbq HS
                    go_wp2_with fail
                    go_roundg (m - (i + 1))
                    case measure => omega
                    case rel => exact ⟨i + 1, c + 1, _, by omega, rfl, by go_num, HNX.out.1 hp0, HO8.out, HB8.out⟩
                  · have hpi : ¬ (0 : Int) < (p : Int) := by omega
                    go_wp2
                    go_roundg (m - (i + 1))
                    case measure => omega
                    case rel => exact ⟨i + 1, c, L, by omega, rfl, by go_num, HNX.out.2 hp0, HO.out, HX.out⟩
                · obtain rfl : i = m := by omega
                  have hfin := rowsAt_end HNO.out (by rw [← HMM.out]; exact HRA.out)
                  have HF := Lib.hid hfin
                  clear hfin
                  go_wp2
                  go_ret2
                  exact ⟨⟨_, rfl, fun _ => by
                    have h := HO.out
                    rw [HF.out.1, HF.out.2, HPP.out] at h
                    (try rw [← hqe])
                    exact own_weak h HB5.out.size, fun h => by (try rw [← hqe] at h); exact absurd HTE.out.symm h⟩, below_then HB5.out HX.out⟩
end Go.Proofs.Yticdcdahehodkaa
/-! Rows of whatever width appended behind an empty row of one's own. No condition. -/
namespace Go.Proofs.Yticdcdahehodkaa
set_option linter.unusedVariables false
set_option linter.unusedSimpArgs false
open Go.RowKit

theorem own_emptyT (W : World) (e : TypeId) (c : Nat) : (W.alloc (.cells #[] e)).ownsRow W.heap.size e c (.slice (some ⟨W.heap.size, 0, none⟩) 0 0) 0 [] :=
  ⟨by simp, .inr ⟨W.heap.size, 0, #[], rfl, Nat.le_refl _, heap_alloc_new _ _, Nat.le_refl _, by unfold maxLen; omega, by simp, by simp⟩⟩
/-- 'append(own, rows...)', the own one empty -/
theorem wpList_append_rowsC {ops : Array Oper} {rest : List Oper} {o : Oper} {a : Act} {w : World} {Q : Exit → Act → World → Prop} {E S : TypeId} {c : Nat} (hgd : o.guard = none) (s x : Operand)
    (ho : o.op = .call { callee := .builtin .append, args := #[s, x], argTypes := #[S, S] }) (hS : Try.prog.underlying S = some (.slice E))
    (hi : ∃ i z, Try.prog.info? E = some i ∧ i.zero = some z ∧ i.size = c ∧ i.bytes ≤ 1000 ∧ z.cells.size = c) (hc : 0 < c) (hc2 : c ≤ 1000)
    (base : Nat) (v : Value) (hs : a.eval s = v) (hown : w.ownsRow base E c v 0 [])
    (ad : Option Addr) (m cp : Nat) (L : Nat → Array Value) (hL : ∀ i, (L i).size = c) (hLa : ∀ i, (L i).all (·.oneCell') = true) (hx : a.eval x = .slice ad m cp) (hl : RowsC w c ad m L) (hnil : ad = none → m = 0 ∧ cp = 0)
    (hm : m ≤ 100000) (hbase : base ≤ w.heap.size)
    (h : ∀ v' w', w'.ownsRow base E c v' m (flat L m) → w.grownBy w' v.ownBlock → wpList Try.prog ops Q rest (a.put o.dst v') w') : wpList Try.prog ops Q (o :: rest) a w := by
  obtain ⟨i, z, h1, h2, h3, h4, h5⟩ := hi
  cases ad with
  | none =>
    obtain ⟨rfl, rfl⟩ := hnil rfl
    refine wpList_append_own_none hgd s x _ ho base _ i c hS h1 v 0 [] hs hown hx ?_
    exact h v w hown ⟨rfl, rfl, rfl, Nat.le_refl _, fun _ _ _ => rfl⟩
  | some ad =>
    have hmc : m * c ≤ 100000 * 1000 := Nat.mul_le_mul hm hc2
    refine wpList_append_own w hgd s x _ ho base _ i z c i.bytes hS h1 h2 h3 rfl h5 hc v 0 [] hs hown ad m cp (flat L m) hx (flatc_len hL m) (rows_at hc hL (fun i hi => by obtain ⟨g, off, A, t, fr, r⟩ := hl i hi; exact ⟨g, off, A, t, fr, r⟩)) (flatc_one hLa m) (by unfold maxLen; omega) ?_ hbase ?_
    · have := Nat.mul_le_mul (show 0 + m ≤ 100000 by omega) h4
      omega
    · intro v' w' h6 h7 _
      rw [Nat.zero_add, List.nil_append] at h6
      exact h v' w' h6 h7
end Go.Proofs.Yticdcdahehodkaa
/-! TearupParts, walked: it returns true. Condition: the numbers fit their kinds. -/
namespace Go.Proofs.Yticdcdahehodkaa
set_option linter.unusedVariables false
set_option linter.unusedSimpArgs false
open Go.RowKit

theorem rtear_any (a : Option Addr) (n cap : Nat) (A Q : Nat → Int) (q : Int) (w : World) (hb : ∀ i, (0 ≤ A i ∧ A i ≤ 4294967295) ∧ F64 (Q i)) (hA : Holds w a n A Q) : RTearC a n cap A Q q w := by
  by_cases h1 : 64 < n ∨ q = 0 ∨ inB q (-10000000) 10000000 = false
  · exact rtear_bad a n cap A Q q w h1
  · have h2 : inB q (-10000000) 10000000 = true := by
      cases h : inB q (-10000000) 10000000
      · exact absurd (.inr (.inr h)) h1
      · rfl
    exact rtear_main a n cap A Q q w hb hA (by apply Classical.byContradiction; intro h; exact h1 (.inl (by omega))) (fun h => h1 (.inr (.inl h))) (inB_iff.1 h2)
theorem tR_num {A : Nat → Int} {P : Nat → Nat} {n : Nat} (hb : ∀ i, 0 ≤ A i ∧ A i ≤ 4294967295) (hP : ∀ i, i < n → (P i : Int) ≤ 9223372036854775807) : ∀ k, k ≤ n → ∀ j, ∃ x y : Int, tR A P k j = hA x y ∧ (0 ≤ x ∧ x ≤ 4294967295) ∧ F64 y
  | 0, _, j => ⟨0, 0, rfl, by omega, by unfold F64; omega⟩
  | k + 1, hk, j => by
    unfold tR
    split
    · unfold snoc
      split
      · exact ⟨A k, (P k : Nat), rfl, hb k, by have := hP k (by omega); unfold F64; omega⟩
      · exact tR_num hb hP k (by omega) j
    · exact tR_num hb hP k (by omega) j
theorem own_holds {w : World} {base n : Nat} {v : Value} {L : Nat → Array Value} (hL : ∀ j, ∃ x y : Int, L j = hA x y ∧ (0 ≤ x ∧ x ≤ 4294967295) ∧ F64 y) (h : w.ownsRow base 32 2 v n (flat L n)) :
    ∃ a c, v = .slice a n c ∧ Holds w a n (fun j => N (L j) 0) (fun j => N (L j) 1) := by
  obtain ⟨a, c, rfl, hr, _⟩ := own_rows (fun i => by obtain ⟨x, y, e, _⟩ := hL i; rw [e]; rfl) h
  exact ⟨a, c, rfl, rowsT_holds hr (fun i _ => by obtain ⟨x, y, e, _⟩ := hL i; simp only [e]; rfl)⟩
/-- what both answer is alike -/
theorem tear_same {q : Int} {n s s2 : Nat} {A Q : Nat → Int} {w w' : World} {v v2 : Value} (hb : ∀ i, (0 ≤ A i ∧ A i ≤ 4294967295) ∧ F64 (Q i)) (hv : TearV q n A Q s w v) (hv2 : TearV q n A Q s2 w' v2) (hw : Below w.heap.size w w') :
    ∃ (a a2 : Option Addr) (m c c2 : Nat) (X Y : Nat → Int), v = .slice a m c ∧ v2 = .slice a2 m c2 ∧ (∀ i, (0 ≤ X i ∧ X i ≤ 4294967295) ∧ F64 (Y i)) ∧ Holds w' a m X Y ∧ Holds w' a2 m X Y ∧ m ≤ 64 := by
  by_cases h : tE q n A Q = 0
  · have h1 := hv.1 h
    have h2 := hv2.1 h
    have hn : n ≤ 64 := by
      unfold tE at h
      split at h
      · omega
      · omega
    have hq : -10000000 ≤ q ∧ q ≤ 10000000 := by
      unfold tE at h
      rw [if_neg (by omega)] at h
      split at h
      · omega
      · rename_i h3
        refine inB_iff.1 ?_
        cases e : inB q (-10000000) 10000000
        · exact absurd (.inr (.inl e)) h3
        · rfl
    have hP : ∀ i, i < n → ((tP q n Q i : Nat) : Int) ≤ 9223372036854775807 := fun i hi => by
      have h0 := absI_bd hq
      unfold tP splP
      by_cases hS : 0 < sumN (wts (tW q n Q)) n
      · have := prt_le (W := wts (tW q n Q)) (T := (absI q).toNat) hS hi; omega
      · have h1 : flo (wts (tW q n Q)) n (absI q).toNat i = 0 := by unfold flo; rw [show sumN (wts (tW q n Q)) n = 0 by omega, Nat.div_zero]
        have h2 := b01_le (decide (rk (rkey (wts (tW q n Q)) n (absI q).toNat) n i < lef (wts (tW q n Q)) n (absI q).toNat))
        unfold prt; omega
    have hL := fun j => tR_num (A := A) (P := tP q n Q) (fun i => (hb i).1) hP n (Nat.le_refl _) j
    obtain ⟨a, c, rfl, g1⟩ := own_holds hL h1
    obtain ⟨a2, c2, rfl, g2⟩ := own_holds hL h2
    exact ⟨a, a2, _, c, c2, _, _, rfl, rfl, fun j => by obtain ⟨x, y, e, r⟩ := hL j; simp only [e]; exact r, g1.kept hw, g2, Nat.le_trans (cnt_le _ _) hn⟩
  · rw [hv.2 h, hv2.2 h]
    exact ⟨none, none, 0, 0, 0, fun _ => 0, fun _ => 0, rfl, rfl, fun _ => ⟨by show (0 : Int) ≤ 0 ∧ (0 : Int) ≤ 4294967295; omega, by show F64 0; unfold F64; omega⟩, fun i hi => by omega, fun i hi => by omega, by omega⟩

set_option maxRecDepth 100000 in
set_option maxHeartbeats 2000000 in
theorem parts14_walk (q : Int) (a : Option Addr) (n cap : Nat) (A Q : Nat → Int) (W : World) (hq : F64 q) (hb : ∀ i, (0 ≤ A i ∧ A i ≤ 4294967295) ∧ F64 (Q i)) (hA : Holds W a n A Q) (hz : a = none → n = 0 ∧ cap = 0) :
    Calls Try.prog 3 #[.int .i64 q, .slice a n cap] W fun e W' => e = .returned (.bool true) ∧ Below W.heap.size W W' := by
  have HA := Lib.hid hA
  have HB := Lib.hid hb
  have HQ := Lib.hid hq
  have HZ := Lib.hid hz
  clear hA hb hq hz
  by_cases hl : 200 < n
  · have hli : (200 : Int) < n := by omega
    go_enter Try.func3, Try.ntmps3
    go_wp2_with (first | (go_at_call 11; (with_reducible refine (known14 _).mono ?_); rintro e w5 ⟨rfl, hb5⟩))
    go_ret
    exact ⟨rfl, hb5⟩
  · have hli : ¬ (200 : Int) < n := by omega
    go_enter Try.func3, Try.ntmps3
    go_wp2_with (first
      | ((with_reducible refine at_append 22 ?_); refine wpList_append_rowsC rfl _ _ rfl Try.underlying22 info_hold (by omega) (by omega) W.heap.size (.slice (some ⟨W.heap.size, 0, none⟩) 0 0) rfl (own_emptyT W _ _) a n cap (fun i => hA (A i) (Q i)) (fun _ => rfl) (fun _ => hA_all _ _) rfl (HA.out.kept (below_new _ _)) HZ.out (by omega) (by simp) ?_; intro v1 w1 hown1 hgr1; replace hown1 := Lib.hid hown1; replace hgr1 := Lib.hid hgr1) | fail)
    have hbW : Below W.heap.size W w1 := (below_new W _).grown hgr1.out (by simp) (fun k hk => by cases hk; exact Nat.le_refl _)
    obtain ⟨a1, c1, rfl, hr1, _⟩ := own_rows (fun i => hA_size _ _) hown1.out
    have hl1 : Holds w1 a1 n A Q := rowsT_holds hr1 (fun _ _ => rfl)
    have cm := tparts_any a1 n c1 A Q q w1 HB.out hl1 HQ.out
    unfold TearC at cm
    refine cm.mono ?_
    clear cm hr1 hown1 hgr1
    rintro e2 w2 ⟨⟨v, rfl, hv⟩, hb2⟩
    go_wp2_with fail
    have cr := rtear_any a n cap A Q q w2 HB.out (HA.out.kept (below_then hbW hb2))
    unfold RTearC at cr
    refine cr.mono ?_
    clear cr
    rintro e3 w3 ⟨⟨v2, rfl, hv2⟩, hb3⟩
    obtain ⟨ax, ay, m, cx, cy, X, Y, rfl, rfl, hX, hx1, hx2, hm⟩ := tear_same HB.out hv hv2 hb3
    clear hv hv2
    have HX := Lib.hid (And.intro hX (And.intro hx1 hx2))
    have HI := Lib.hid (hl1.kept (below_then hb2 hb3))
    have hbA := below_then hbW (below_then hb2 hb3)
    clear hX hx1 hx2 hl1
    generalize tE q n A Q = te at *
    go_wp2_with fail
    refine (same14_any ax ay m cx cy X Y w3 (fun i _ => HX.out.1 i) HX.out.2.1 HX.out.2.2 (by omega)).mono ?_
    rintro e4 w4 ⟨rfl, hb4⟩
    go_wp2_with fail
    refine (same14_any a1 a n c1 cap A Q w4 (fun i _ => HB.out i) (HI.out.kept hb4) (HA.out.kept (below_then hbA hb4)) (by omega)).mono ?_
    rintro e5 w5 ⟨rfl, hb5⟩
    go_wp2_with (first | (go_at_call 11; (with_reducible refine (known14 _).mono ?_); rintro e w6 ⟨rfl, hb6⟩))
    go_ret
    exact ⟨rfl, below_then hbA (below_then hb4 (below_then hb5 hb6))⟩
theorem parts14_w (q : Int) (a : Option Addr) (n cap : Nat) (A Q : Nat → Int) (W : World) (hq : F64 q) (hb : ∀ i, (0 ≤ A i ∧ A i ≤ 4294967295) ∧ F64 (Q i)) (hA : Holds W a n A Q) (_ : n ≤ cap) (_ : cap ≤ 9223372036854775807) (hz : a = none → n = 0 ∧ cap = 0) :
    Calls Try.prog 3 #[.int .i64 q, .slice a n cap] W fun e W' => e = .returned (.bool true) ∧ Below W.heap.size W W' := parts14_walk q a n cap A Q W hq hb hA hz
end Go.Proofs.Yticdcdahehodkaa
