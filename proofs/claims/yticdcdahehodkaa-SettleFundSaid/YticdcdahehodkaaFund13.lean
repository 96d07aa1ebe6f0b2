/- SettleFund, walked: it returns true. Condition: the numbers fit their kinds. -/
import Derived.Test.YticdcdahehodkaaKeep13
namespace Go.Proofs.Yticdcdahehodkaa
set_option linter.unusedVariables false
set_option linter.unusedSimpArgs false
open Go.RowKit

theorem sE_fund {f1 f2 : Int} {n : Nat} {A C V : Nat → Int} (h1 : 0 ≤ f1 ∧ f1 ≤ 1000000000000000) (h2 : 0 ≤ f2 ∧ f2 ≤ 1000000000000000) : sE f1 n A C V = sE f2 n A C V := by
  unfold sE; rw [inB_iff.2 h1, inB_iff.2 h2]
set_option maxRecDepth 100000 in
set_option maxHeartbeats 8000000 in
theorem fund13_walk (fund more : Int) (a : Option Addr) (n cap : Nat) (A C V : Nat → Int) (W : World) (hf : F64 fund) (hmo : F64 more) (hb : ∀ i, (0 ≤ A i ∧ A i ≤ 4294967295) ∧ F64 (C i) ∧ F64 (V i)) (hA : Dues W a n A C V) :
    Calls Try.prog 9 #[.int .i64 fund, .int .i64 more, .slice a n cap] W fun e W' => e = .returned (.bool true) ∧ Below W.heap.size W W' := by
  by_cases h1 : more < 0
  · clear hf hmo hb hA
    go_enter Try.func9, Try.ntmps9
    go_wp2_with (first | (go_at_call 15; (with_reducible refine (known13 _).mono ?_); rintro e w5 ⟨rfl, hb5⟩))
    go_ret
    exact ⟨rfl, hb5⟩
  by_cases h2 : 1000000000000000 < more
  · clear hf hmo hb hA
    go_enter Try.func9, Try.ntmps9
    go_wp2_with (first | (go_at_call 15; (with_reducible refine (known13 _).mono ?_); rintro e w5 ⟨rfl, hb5⟩))
    go_ret
    exact ⟨rfl, hb5⟩
  by_cases h3 : fund < 0
  · clear hf hmo hb hA
    go_enter Try.func9, Try.ntmps9
    go_wp2_with (first | (go_at_call 15; (with_reducible refine (known13 _).mono ?_); rintro e w5 ⟨rfl, hb5⟩))
    go_ret
    exact ⟨rfl, hb5⟩
  have wmm : IntKind.i64.wrap (1000000000000000 - more) = 1000000000000000 - more := by rw [IntKind.wrap_i64]; omega
  by_cases h4 : 1000000000000000 - more < fund
  · clear hf hmo hb hA
    go_enter Try.func9, Try.ntmps9
    go_wp2_with (first | (go_at_call 15; (with_reducible refine (known13 _).mono ?_); rintro e w5 ⟨rfl, hb5⟩))
    go_ret
    exact ⟨rfl, hb5⟩
  obtain ⟨fm, hfm⟩ : ∃ fm, fm = fund + more := ⟨_, rfl⟩
  have wfm : IntKind.i64.wrap (fund + more) = fm := by rw [IntKind.wrap_i64]; omega
  have c1 := settle_any fund a n cap A C V W hb hA
  have c2 := fun (w2 : World) (hb2 : Below W.heap.size W w2) => settle_any fm a n cap A C V w2 hb (hA.kept hb2)
  unfold SetC at c1 c2
  have HEQ := Lib.hid (sE_fund (f1 := fm) (f2 := fund) (n := n) (A := A) (C := C) (V := V) (by omega) (by omega))
  rw [HEQ.out] at c2
  have HA := Lib.hid hA
  clear hA hb hf hmo
  by_cases hE : sE fund n A C V = 0
  · have hE2 : sE fm n A C V = 0 := by rw [HEQ.out]; exact hE
    obtain ⟨hn, hm, hfb, hs0⟩ := sE_ok hE
    have hmb := miss_bd hm n (Nat.le_refl _)
    obtain ⟨mi, hmi⟩ : ∃ mi, mi = miss C V n := ⟨_, rfl⟩
    have hsf : sF fund n A C V = fund - min fund mi := by unfold sF; rw [if_pos hE, hmi]
    have hsf2 : sF fm n A C V = fm - min fm mi := by unfold sF; rw [if_pos hE2, hmi]
    rw [← hmi] at hmb
    obtain ⟨f, hf⟩ : ∃ f, f = fund - min fund mi := ⟨_, rfl⟩
    obtain ⟨g9, hg9⟩ : ∃ g9, g9 = fm - min fm mi := ⟨_, rfl⟩
    rw [hE, hsf, ← hf] at c1
    rw [hE, hsf2, ← hg9] at c2
    have HC1 := Lib.hid (show ((sumN (cutN fund n C V) n : Nat) : Int) = mi - min fund mi from by rw [hmi]; exact cut_sum hE)
    have HC2 := Lib.hid (show ((sumN (cutN fm n C V) n : Nat) : Int) = mi - min fm mi from by rw [hmi]; exact cut_sum hE2)
    have HK := Lib.hid (show ∀ i, i < n → Kept fund n C V i from fun i hi => kept_of hE hi)
    have HE := Lib.hid hE
    have HE2 := Lib.hid hE2
    have HF := Lib.hid (And.intro hf (And.intro hg9 hfm))
    have hB1 : ∀ k, k ≤ n → (sumN (cutN fund n C V) k : Int) ≤ 6400000000000000000 := fun k hk => by
      have := sumN_mono (cutN fund n C V) n hk; have := HC1.out; omega
    have hB2 : ∀ k, k ≤ n → (sumN (cutN fm n C V) k : Int) ≤ 6400000000000000000 := fun k hk => by
      have := sumN_mono (cutN fm n C V) n hk; have := HC2.out; omega
    have HB12 := Lib.hid (And.intro hB1 hB2)
    clear hE hE2 hs0 hsf hsf2 hf hg9 hfm hmi hB1 hB2
    go_enter Try.func9, Try.ntmps9
    go_wp2_with fail
    refine c1.mono ?_
    rintro e w1 ⟨⟨v, rfl, hv⟩, hb1⟩
    obtain ⟨go1, rfl, hgo1, hO1⟩ := hv.1 HE.out
    have c2 := c2 w1 hb1
    have HO1a := Lib.hid hO1
    have HB1 := Lib.hid hb1
    clear hv hO1 hb1 c1
    go_wp2_with fail
    refine c2.mono ?_
    rintro e w2 ⟨⟨v, rfl, hv⟩, hb2⟩
    obtain ⟨go2, rfl, hgo2, hO2⟩ := hv.1 HE2.out
    have HO1 := Lib.hid (HO1a.out.kept hb2)
    have HO2 := Lib.hid hO2
    have HB2 := Lib.hid (below_then HB1.out hb2)
    clear hv hO2 hb2 c2 HO1a
    go_wp2_with fail
    go_loopg [13, 14, 75] n (fun gh v13 v14 vi wr => ∃ k : Nat, k ≤ n ∧ gh = n - k ∧ vi = .int .i64 k ∧ v13 = .int .i64 (sumN (cutN fund n C V) k : Nat) ∧ v14 = .int .i64 (sumN (cutN fm n C V) k : Nat) ∧ Below w2.heap.size w2 wr)
    case atStart => exact ⟨0, by omega, by omega, rfl, rfl, rfl, Below.refl _ _⟩
    case round =>
      obtain ⟨k, hk, rfl, rfl, rfl, rfl, hbx⟩ := hrel
      have HX := Lib.hid hbx
      clear hbx
      by_cases hlt : k < n
      · have hki : (k : Int) < n := by omega
        obtain ⟨g, off, B, t, fr, rfl, hg, hs, he, b0, b1, b2⟩ := (HA.out.kept (below_then HB2.out HX.out)).at hlt
        obtain ⟨G1, hG1, hGs1, hGx1⟩ := (HO1.out.kept HX.out).row
        obtain ⟨_, _, p2, p3⟩ := hGx1 k hlt
        obtain ⟨G2, hG2, hGs2, hGx2⟩ := (HO2.out.kept HX.out).row
        obtain ⟨_, _, r2, r3⟩ := hGx2 k hlt
        have hcb := (HK.out k hlt).cb
        have hvb := (HK.out k hlt).vb
        have hb1' := HB12.out.1 (k + 1) (by omega)
        have hb2' := HB12.out.2 (k + 1) (by omega)
        have hs1e : sumN (cutN fund n C V) (k + 1) = sumN (cutN fund n C V) k + cutN fund n C V k := rfl
        have hs2e : sumN (cutN fm n C V) (k + 1) = sumN (cutN fm n C V) k + cutN fm n C V k := rfl
        obtain ⟨s1, hs1⟩ : ∃ s1, s1 = sumN (cutN fund n C V) k := ⟨_, rfl⟩
        obtain ⟨s2, hs2⟩ : ∃ s2, s2 = sumN (cutN fm n C V) k := ⟨_, rfl⟩
        obtain ⟨u1, hu1⟩ : ∃ s1, s1 = cutN fund n C V k := ⟨_, rfl⟩
        obtain ⟨u2, hu2⟩ : ∃ s1, s1 = cutN fm n C V k := ⟨_, rfl⟩
        rw [← hs1, ← hu1] at hs1e
        rw [← hs2, ← hu2] at hs2e
        rw [← hu1] at p3
        rw [← hu2] at r3
        have HN1 := Lib.hid hs1e
        have HN2 := Lib.hid hs2e
        rw [← hs1, ← hs2]
        obtain ⟨c, hc⟩ : ∃ x, x = C k := ⟨_, rfl⟩
        obtain ⟨v, hv⟩ : ∃ x, x = V k := ⟨_, rfl⟩
        rw [← hc] at b1 hcb
        rw [← hv] at b2 hvb
        rw [← hc, ← hv] at p2 r2
        have ws1 : IntKind.i64.wrap ((s1 : Int) + (u1 : Int)) = ((s1 + u1 : Nat) : Int) := by rw [IntKind.wrap_i64]; omega
        have ws2 : IntKind.i64.wrap ((s2 : Int) + (u2 : Int)) = ((s2 + u2 : Nat) : Int) := by rw [IntKind.wrap_i64]; omega
        have wv : IntKind.i64.wrap (-v) = -v := by rw [IntKind.wrap_i64]; omega
        have cG1 := cellF hG1
        have cG2 := cellF hG2
        clear hs1e hs2e hs1 hs2 hu1 hu2 hc hv hs he b0 hGs1 hGx1 hGs2 hGx2 hb1' hb2'
        by_cases hd : c + v < 0
        · have hd1 : decide (c + v < 0) = true := decide_eq_true hd
          rw [hd1] at p2 r2
          have hcv : ¬ -v ≤ c := by omega
          clear hd1 hd
          go_upto_region 15 with fail
          clear cG1 cG2
          refine wp_region_below (by kernel_rfl) (by kernel_rfl) ?_
          repeat (first | ((with_reducible apply q_skip); (case hw => rfl); (try simp only [Act.put, List.setIfInBounds_toArray, List.set_cons_zero, List.set_cons_succ])) | ((with_reducible apply q_val); (case hw => rfl); (case hv => intro wq hbq; have hcq := cellF (Yticdcdahehodkaa.kept hbq hg); have hcr := cellF (Yticdcdahehodkaa.kept hbq hG1); have hcs := cellF (Yticdcdahehodkaa.kept hbq hG2); go_simp; try rfl); (try simp only [Act.put, List.setIfInBounds_toArray, List.set_cons_zero, List.set_cons_succ])))
          refine q_nil ?_
          intro w4 hb4
          go_wp2_with fail
          go_roundg (n - (k + 1))
          case measure => omega
          case rel => exact ⟨k + 1, by omega, rfl, by go_num, by rw [HN1.out, Int.natCast_add], by rw [HN2.out, Int.natCast_add], below_then HX.out hb4⟩
        · have hd1 : decide (c + v < 0) = false := decide_eq_false hd
          rw [hd1] at p2 r2
          clear hd1 hd
          go_upto_region 15 with fail
          clear cG1 cG2
          refine wp_region_below (by kernel_rfl) (by kernel_rfl) ?_
          repeat (first | ((with_reducible apply q_skip); (case hw => rfl); (try simp only [Act.put, List.setIfInBounds_toArray, List.set_cons_zero, List.set_cons_succ])) | ((with_reducible apply q_val); (case hw => rfl); (case hv => intro wq hbq; have hcq := cellF (Yticdcdahehodkaa.kept hbq hg); have hcr := cellF (Yticdcdahehodkaa.kept hbq hG1); have hcs := cellF (Yticdcdahehodkaa.kept hbq hG2); go_simp; try rfl); (try simp only [Act.put, List.setIfInBounds_toArray, List.set_cons_zero, List.set_cons_succ])))
          refine q_nil ?_
          intro w4 hb4
          go_wp2_with fail
          go_roundg (n - (k + 1))
          case measure => omega
          case rel => exact ⟨k + 1, by omega, rfl, by go_num, by rw [HN1.out, Int.natCast_add], by rw [HN2.out, Int.natCast_add], below_then HX.out hb4⟩
      · obtain rfl : k = n := by omega
        obtain ⟨hf, hg9, hfm⟩ := HF.out
        rw [HC1.out, HC2.out]
        obtain ⟨t1, ht1⟩ : ∃ t1, t1 = mi - min fund mi := ⟨_, rfl⟩
        obtain ⟨t2, ht2⟩ : ∃ t2, t2 = mi - min fm mi := ⟨_, rfl⟩
        rw [← ht1, ← ht2]
        have wt : IntKind.i64.wrap (t1 - more) = t1 - more := by rw [IntKind.wrap_i64]; omega
        have he : t2 = max 0 (t1 - more) := by omega
        have he2 : (t2 == max 0 (t1 - more)) = true := by rw [beq_iff_eq]; exact he
        have hle : f ≤ g9 := by omega
        by_cases ht0 : t2 = 0
        · have he3 : ((0 : Int) == max 0 (t1 - more)) = true := by rw [beq_iff_eq]; omega
          subst ht0
          clear hf hg9 hfm ht1 ht2 he he2
          go_wp2_with (first | (go_at_call 15; (with_reducible refine (known13 _).mono ?_); rintro e w5 ⟨rfl, hb5⟩))
          go_ret
          exact ⟨rfl, below_then HB2.out (below_then HX.out hb5)⟩
        · have htz : (t2 == 0) = false := by rw [beq_eq_false_iff_ne]; exact ht0
          have hg0 : g9 = 0 := by omega
          have hle0 : f ≤ 0 := by omega
          subst hg0
          clear hf hg9 hfm ht1 ht2 he
          go_wp2_with (first | (go_at_call 15; (with_reducible refine (known13 _).mono ?_); rintro e w5 ⟨rfl, hb5⟩))
          go_ret
          exact ⟨rfl, below_then HB2.out (below_then HX.out hb5)⟩
  · have HE := Lib.hid hE
    have hE2 : sE fm n A C V ≠ 0 := by rw [HEQ.out]; exact hE
    have HE2 := Lib.hid hE2
    have hsf : sF fund n A C V = 0 := by unfold sF; rw [if_neg hE]
    have hsf2 : sF fm n A C V = 0 := by unfold sF; rw [if_neg hE2]
    obtain ⟨te, hte⟩ : ∃ te, te = sE fund n A C V := ⟨_, rfl⟩
    have hez : ¬ te = 0 := by rw [hte]; exact hE
    rw [hsf, ← hte] at c1
    rw [hsf2, ← hte] at c2
    clear hE hte hsf hE2 hsf2 hfm
    go_enter Try.func9, Try.ntmps9
    go_wp2_with fail
    refine c1.mono ?_
    rintro e w1 ⟨⟨v, rfl, hv⟩, hb1⟩
    obtain rfl := hv.2 HE.out
    have c2 := c2 w1 hb1
    clear hv c1
    go_wp2_with fail
    refine c2.mono ?_
    rintro e w2 ⟨⟨v, rfl, hv⟩, hb2⟩
    obtain rfl := hv.2 HE2.out
    clear hv c2
    go_wp2_with (first | (go_at_call 15; (with_reducible refine (known13 _).mono ?_); rintro e w5 ⟨rfl, hb5⟩))
    go_ret
    exact ⟨rfl, below_then hb1 (below_then hb2 hb5)⟩
theorem fund13_w (fund more : Int) (a : Option Addr) (n cap : Nat) (A C V : Nat → Int) (W : World) (hf : F64 fund) (hmo : F64 more) (hb : ∀ i, (0 ≤ A i ∧ A i ≤ 4294967295) ∧ F64 (C i) ∧ F64 (V i)) (hA : Dues W a n A C V) (_ : n ≤ cap) (_ : cap ≤ 9223372036854775807) (_ : a = none → n = 0 ∧ cap = 0) :
    Calls Try.prog 9 #[.int .i64 fund, .int .i64 more, .slice a n cap] W fun e W' => e = .returned (.bool true) ∧ Below W.heap.size W W' := fund13_walk fund more a n cap A C V W hf hmo hb hA
end Go.Proofs.Yticdcdahehodkaa
