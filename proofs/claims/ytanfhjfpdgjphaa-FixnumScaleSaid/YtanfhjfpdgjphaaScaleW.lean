/- FixnumScale, walked: it returns true. Condition: the numbers fit their kinds. -/
import Derived.Test.YtanfhjfpdgjphaaSplitA
import Derived.Test.YtanfhjfpdgjphaaAll01
import Derived.BigQuiet
namespace Go.Proofs.Ytanfhjfpdgjphaa
set_option linter.unusedVariables false
set_option linter.unusedSimpArgs false
open Go.RowKit

theorem zl_snoc (Z : Nat → Int) (k : Nat) : zl Z k ++ zl (fun _ => Z k) 1 = zl Z (k + 1) := by
  rw [show zl (fun _ => Z k) 1 = [.int .i64 (Z k)] from rfl]
  unfold zl
  rw [List.range_succ, List.map_append]
  rfl
theorem scale_wts {Z : Nat → Int} {c : Int} (hc : 1 ≤ c) : wts (fun i => Z i * c) = fun i => c.toNat * wts Z i := by
  funext i
  unfold wts
  obtain ⟨m, rfl⟩ : ∃ m : Nat, c = (m : Int) := ⟨c.toNat, by omega⟩
  by_cases h : 0 ≤ Z i
  · obtain ⟨x, hx⟩ : ∃ x : Nat, Z i = (x : Int) := ⟨(Z i).toNat, by omega⟩
    show (Z i * (m : Int)).toNat = _
    rw [hx, show (x : Int) * (m : Int) = ((m * x : Nat) : Int) by rw [Int.natCast_mul, Int.mul_comm], Int.toNat_natCast, Int.toNat_natCast, Int.toNat_natCast]
  · have h1 : Z i * (m : Int) ≤ 0 := Int.mul_nonpos_of_nonpos_of_nonneg (by omega) (by omega)
    show (Z i * (m : Int)).toNat = _
    rw [show (Z i).toNat = 0 by omega, show (Z i * (m : Int)).toNat = 0 by omega]; simp
theorem sum_scale (Z : Nat → Int) (c : Int) : ∀ n, sumZ (fun i => Z i * c) n = sumZ Z n * c
  | 0 => by simp [sumZ]
  | n + 1 => by
    show sumZ (fun i => Z i * c) n + Z n * c = (sumZ Z n + Z n) * c
    rw [sum_scale Z c n, Int.add_mul]
theorem sum_most {Z : Nat → Int} {m : Int} : ∀ n, (∀ i, 0 ≤ Z i ∧ Z i ≤ m) → 0 ≤ sumZ Z n ∧ sumZ Z n ≤ n * m
  | 0, _ => by simp [sumZ]
  | n + 1, h => by
    have := sum_most n h
    have := h n
    show 0 ≤ sumZ Z n + Z n ∧ sumZ Z n + Z n ≤ ((n + 1 : Nat) : Int) * m
    rw [show ((n + 1 : Nat) : Int) * m = n * m + m by rw [show ((n + 1 : Nat) : Int) = (n : Int) + 1 by omega, Int.add_mul, Int.one_mul]]
    omega
theorem scale_same {Z : Nat → Int} {n : Nat} {T c : Int} (hn : n ≤ 200) (hZ : ∀ i, 0 ≤ Z i ∧ Z i ≤ 1099511627776) (hc : 1 ≤ c) (hc2 : c ≤ 1000) :
    splE (fun i => Z i * c) n T = splE Z n T ∧ ∀ i, i < n → splP (fun i => Z i * c) n T i = splP Z n T i := by
  have hZc : ∀ i, 0 ≤ Z i * c := fun i => Int.mul_nonneg (hZ i).1 (by omega)
  obtain ⟨s1, s2⟩ := sum_most n hZ
  have hs := sum_scale Z c n
  have s3 : sumZ Z n ≤ 219902325555200 := by omega
  have s4 : sumZ Z n * c ≤ 219902325555200 * 1000 := Int.mul_le_mul s3 hc2 (by omega) (by omega)
  have s5 : 0 ≤ sumZ Z n * c := Int.mul_nonneg s1 (by omega)
  constructor
  · unfold splE
    rw [if_neg (show ¬ 1000 < n by omega), if_neg (show ¬ 1000 < n by omega), hs, (fit_yes (v := sumZ Z n * c) (by omega)).1, (fit_yes (v := sumZ Z n) (by omega)).1]
    have e1 : (T < 0 ∨ ∃ i, i < n ∧ Z i * c < 0) ↔ (T < 0 ∨ ∃ i, i < n ∧ Z i < 0) := by
      constructor
      · rintro (h | ⟨i, _, h⟩)
        · exact .inl h
        · have := hZc i; omega
      · rintro (h | ⟨i, _, h⟩)
        · exact .inl h
        · have := (hZ i).1; omega
    have e2 : (sumZ Z n * c = 0) ↔ (sumZ Z n = 0) := by
      constructor
      · intro h
        rcases Int.mul_eq_zero.1 h with h | h <;> omega
      · intro h; rw [h]; simp
    simp only [e1, e2]
  · intro i hi
    unfold splP
    rw [scale_wts hc]
    exact prt_scale _ (by omega) i hi

set_option maxRecDepth 100000 in
set_option maxHeartbeats 4000000 in
theorem scale_walk (a : Option Addr) (n cap : Nat) (Z : Nat → Int) (T c : Int) (W : World) (hT : F64 T) (hc : F64 c) (hZ : ∀ i, F64 (Z i)) (hA : Ints W a n Z) (hz0 : ∀ i, n ≤ i → Z i = 0) (hnil : a = none → n = 0 ∧ cap = 0) :
    Calls Try.prog 12 #[.int .i64 T, .slice a n cap, .int .i64 c] W fun e W' => e = .returned (.bool true) ∧ Below W.heap.size W W' := by
  by_cases hlong : 200 < n
  · clear hT hZ hA hc
    go_enter Try.func12, Try.ntmps12
    go_wp2_with (first | (go_at_call 17; (with_reducible refine (known01 _).mono ?_); rintro e w5 ⟨rfl, hb5⟩))
    go_ret
    exact ⟨rfl, hb5⟩
  by_cases hc1 : c < 1
  · clear hT hZ hA hc
    go_enter Try.func12, Try.ntmps12
    go_wp2_with (first | (go_at_call 17; (with_reducible refine (known01 _).mono ?_); rintro e w5 ⟨rfl, hb5⟩))
    go_ret
    exact ⟨rfl, hb5⟩
  by_cases hc2 : 1000 < c
  · clear hT hZ hA hc
    go_enter Try.func12, Try.ntmps12
    go_wp2_with (first | (go_at_call 17; (with_reducible refine (known01 _).mono ?_); rintro e w5 ⟨rfl, hb5⟩))
    go_ret
    exact ⟨rfl, hb5⟩
  have HA := Lib.hid hA
  have HF := Lib.hid hZ
  have HT := Lib.hid hT
  have HZ0 := Lib.hid hz0
  have hln : ¬ (200 : Int) < n := by omega
  clear hA hZ hT hz0 hc
  go_enter Try.func12, Try.ntmps12
  go_wp2_with fail
  go_loopg [7, 28] n (fun gh v7 vi wr => ∃ k : Nat, k ≤ n ∧ gh = n - k ∧ vi = .int .i64 k ∧ (∀ i, i < k → 0 ≤ Z i ∧ Z i ≤ 1099511627776) ∧ wr.ownsRow W.heap.size 2 1 v7 k (zl (fun i => Z i * c) k) ∧ Below W.heap.size W wr)
  case atStart => exact ⟨0, by omega, by omega, rfl, fun i h => by omega, World.ownsRow_nil _ _ _ _, Below.refl _ _⟩
  case round =>
    obtain ⟨k, hk, rfl, rfl, hbd, hown, hb⟩ := hrel
    have HBD := Lib.hid hbd
    have HOWN := Lib.hid hown
    have HB := Lib.hid hb
    clear hbd hown hb
    by_cases hlt : k < n
    · obtain ⟨g, off, A, t, fr, rfl, hgA, hz⟩ := (HA.out.kept HB.out) k hlt
      have hcA := cellF hgA
      have hki : (k : Int) < n := by omega
      obtain ⟨z, hze⟩ : ∃ z, z = Z k := ⟨_, rfl⟩
      rw [← hze] at hz
      have HZE := Lib.hid hze
      clear hze
      by_cases h1 : z < 0
      · go_wp2_with (first | (go_at_call 17; (with_reducible refine (known01 _).mono ?_); rintro e w5 ⟨rfl, hb5⟩))
        go_ret
        exact ⟨rfl, below_then HB.out hb5⟩
      by_cases h2 : 1099511627776 < z
      · go_wp2_with (first | (go_at_call 17; (with_reducible refine (known01 _).mono ?_); rintro e w5 ⟨rfl, hb5⟩))
        go_ret
        exact ⟨rfl, below_then HB.out hb5⟩
      have hmb : 0 ≤ z * c ∧ z * c ≤ 1099511627776 * 1000 := ⟨Int.mul_nonneg (by omega) (by omega), Int.mul_le_mul (by omega) (by omega) (by omega) (by omega)⟩
      obtain ⟨m, hm⟩ : ∃ m, m = z * c := ⟨_, rfl⟩
      rw [← hm] at hmb
      have wm : IntKind.i64.wrap (z * c) = m := by rw [← hm, IntKind.wrap_i64]; omega
      have HM := Lib.hid (show m = Z k * c from by rw [hm, HZE.out])
      clear hm
      go_wp2_with (first
        | ((with_reducible refine at_append 30 ?_); refine wpList_append_ints rfl _ _ rfl W.heap.size u7 k (zl (fun i => Z i * c) k) rfl (HOWN.out.alloc _) (some ⟨wr.heap.size, 0, none⟩) 1 1 (fun _ => m) rfl (fun i hi => ⟨wr.heap.size, 0, #[.int .i64 m], _, _, rfl, heap_alloc_new _ _, by obtain rfl : i = 0 := (by omega); rfl⟩) (fun h => by cases h) (by omega) (by have := HB.out.size; simp; omega) ?_; intro v1 w1 hown1 hgr1) | fail)
      go_roundg (n - (k + 1))
      case measure => omega
      case rel =>
        refine ⟨k + 1, by omega, rfl, by go_num, fun i hi => ?_, ?_, ?_⟩
        · by_cases e : i = k
          · subst e; rw [← HZE.out]; omega
          · exact HBD.out i (by omega)
        · rw [HM.out] at hown1
          have e := zl_snoc (fun i => Z i * c) k
          rw [← e]; exact hown1
        · refine (below_alloc HB.out _).grown hgr1 (by have := HB.out.size; simp; omega) (fun q hq => ?_)
          exact (HOWN.out.lt q hq).1
    · obtain rfl : k = n := by omega
      have hbdn : ∀ i, 0 ≤ Z i ∧ Z i ≤ 1099511627776 := fun i => by
        by_cases hi : i < k
        · exact HBD.out i hi
        · rw [HZ0.out i (by omega)]; omega
      obtain ⟨SE, SP⟩ := scale_same (n := k) (T := T) (c := c) (by omega) hbdn (by omega) (by omega)
      obtain ⟨a7, c7, rfl, hI7⟩ := own_ints HOWN.out
      have hF2 : ∀ i, F64 (Z i * c) := fun i => by
        have h1 : 0 ≤ Z i * c := Int.mul_nonneg (hbdn i).1 (by omega)
        have h2 : Z i * c ≤ 1099511627776 * 1000 := Int.mul_le_mul (hbdn i).2 (by omega) (by omega) (by omega)
        unfold F64; omega
      have c1 := split_any a k cap Z T wr HF.out (HA.out.kept HB.out) HT.out
      have c2 := fun (w2 : World) (hb : Below wr.heap.size wr w2) => split_any a7 k c7 (fun i => Z i * c) T w2 hF2 (hI7.kept hb) HT.out
      unfold SplC at c1 c2
      rw [SE] at c2
      obtain ⟨ee, hee⟩ : ∃ ee, ee = splE Z k T := ⟨_, rfl⟩
      rw [← hee] at c1 c2
      have HEE := Lib.hid hee
      have HSE := Lib.hid SE
      have HSP := Lib.hid SP
      clear hbdn SE SP hI7 hF2 hee
      go_wp2_with fail
      refine c1.mono ?_
      rintro e w1 ⟨⟨v, rfl, hv⟩, hb1⟩
      have c2 := c2 w1 hb1
      have HV1 := Lib.hid hv
      have HB1 := Lib.hid hb1
      clear c1 hv hb1
      go_wp2_with fail
      refine c2.mono ?_
      rintro e w2 ⟨⟨v2, rfl, hv2⟩, hb2⟩
      clear c2
      by_cases hez : ee = 0
      · obtain ⟨g1, P1, rfl, hg1, hP1, hs1, hp1⟩ := HV1.out.1 (by rw [← HEE.out]; exact hez)
        obtain ⟨g2, P2, rfl, hg2, hP2, hs2, hp2⟩ := hv2.1 (by rw [HSE.out, ← HEE.out]; exact hez)
        have H1 := Lib.hid (And.intro hP1 hp1)
        have H2 := Lib.hid (And.intro hP2 hp2)
        have HB2 := Lib.hid hb2
        clear hP1 hs1 hp1 hP2 hs2 hp2 hv2 hb2 HV1
        go_wp2_with fail
        go_loopg [78] k (fun gh vi wx => ∃ j : Nat, j ≤ k ∧ gh = k - j ∧ vi = .int .i64 j ∧ Below w2.heap.size w2 wx)
        case atStart => exact ⟨0, by omega, by omega, rfl, Below.refl _ _⟩
        case round =>
          obtain ⟨j, hj, rfl, rfl, hbx⟩ := hrel
          by_cases hlt2 : j < k
          · have cA := cellF (Ytanfhjfpdgjphaa.kept hbx (Ytanfhjfpdgjphaa.kept HB2.out H1.out.1))
            have cB := cellF (Ytanfhjfpdgjphaa.kept hbx H2.out.1)
            have pa := H1.out.2 j hlt2
            have pb := H2.out.2 j hlt2
            rw [HSP.out j hlt2] at pb
            have hjk : (j : Int) < k := by omega
            have HBX := Lib.hid hbx
            clear hbx
            generalize splP Z k T j = p at *
            go_wp2_with fail
            go_quiet (fail)
            go_wp2_with fail
            go_roundg (k - (j + 1))
            case measure => omega
            case rel => exact ⟨j + 1, by omega, rfl, by go_num, below_drawn HBX.out⟩
          · obtain rfl : j = k := by omega
            go_wp2_with (first | (go_at_call 17; (with_reducible refine (known01 _).mono ?_); rintro e w5 ⟨rfl, hb5⟩))
            go_ret
            exact ⟨rfl, below_then HB.out (below_then HB1.out (below_then HB2.out (below_then hbx hb5)))⟩
      · obtain rfl := HV1.out.2 (by rw [← HEE.out]; exact hez)
        obtain rfl := hv2.2 (by rw [HSE.out, ← HEE.out]; exact hez)
        have HB2 := Lib.hid hb2
        clear hv2 hb2 HV1 hez
        go_wp2_with fail
        go_loopg [78] 0 (fun gh vi wx => vi = .int .i64 0 ∧ wx = w2)
        case atStart => exact ⟨rfl, rfl⟩
        case round =>
          obtain ⟨rfl, rfl⟩ := hrel
          go_wp2_with (first | (go_at_call 17; (with_reducible refine (known01 _).mono ?_); rintro e w5 ⟨rfl, hb5⟩))
          go_ret
          exact ⟨rfl, below_then HB.out (below_then HB1.out (below_then HB2.out hb5))⟩
theorem scale_w (T : Int) (a : Option Addr) (n cap : Nat) (Z : Nat → Int) (c : Int) (W : World) (hT : F64 T) (hZ : ∀ i, F64 (Z i)) (hA : Ints W a n Z) (_ : n ≤ cap) (_ : cap ≤ 9223372036854775807) (hz : a = none → n = 0 ∧ cap = 0) (hc : F64 c) :
    Calls Try.prog 12 #[.int .i64 T, .slice a n cap, .int .i64 c] W fun e W' => e = .returned (.bool true) ∧ Below W.heap.size W W' :=
  scale_walk a n cap (fun i => if i < n then Z i else 0) T c W hT hc (fun i => by
    split
    · exact hZ i
    · unfold F64; omega) (fun i hi => by
    obtain ⟨g, off, A, t, fr, h1, h2, h3⟩ := hA i hi
    exact ⟨g, off, A, t, fr, h1, h2, by simp only [hi, if_true]; exact h3⟩) (fun i hi => by rw [if_neg (by omega)]) hz
end Go.Proofs.Ytanfhjfpdgjphaa
