/- Texts that Settles13Law stands on, one behind the other, part 15. Conditions: each theorem names its own. -/
import Derived.Test.YticdcdahehodkaaMgSettles13Law14
import Derived.Deep.CutBlock
/-! The document's Split: the parts, where there are some. Condition: the numbers fit their kinds. -/
namespace Go.Proofs.Yticdcdahehodkaa
set_option linter.unusedVariables false
set_option linter.unusedSimpArgs false
open Go.RowKit

theorem ext_D {A D : Array Value} {x : Nat} (hD : D.size = 12) (h : A.extract (x * 13) (x * 13 + 13) = nm false D) : A.extract (x * 13 + 1) (x * 13 + 1 + 12) = D := by
  rw [← nm_ext (s := false) hD, ← h, Array.extract_extract]
  congr 1
  omega
set_option maxRecDepth 100000 in
set_option maxHeartbeats 8000000 in
theorem rspl_main (a : Option Addr) (n cap : Nat) (Z : Nat → Int) (T : Int) (w : World) (hn : n ≤ 1000) (hF : ∀ i, F64 (Z i)) (hA : Ints w a n Z) (hTF : F64 T) (hT : 0 < T) (hP : ∀ i, i < n → 0 ≤ Z i) (hS : 0 < sumZ Z n) (hfit : fitB (sumZ Z n) = true) : RSplC a n cap Z T w := by
  obtain ⟨hx1, hx2, _⟩ := xs_all hF n (by omega)
  have cm := rlist_any a n cap Z w hF hA (by omega)
  have ci := fun w => int_any (xs Z n).1 (xs Z n).2 w hx1
  have cz := fun w => zero_any (xs Z n).1 (xs Z n).2 w hx1
  have hzz : decide (lv (xs Z n).2 12 = 0) = false := by
    unfold sv at hx2
    rw [decide_eq_false_iff_not]
    split at hx2 <;> omega
  have hsb : sumZ Z n ≤ 9223372036854775807 := by
    have h : -9223372036854775808 ≤ sumZ Z n ∧ sumZ Z n ≤ 9223372036854775807 := by
      have h := hfit; unfold fitB at h; simpa using h
    exact h.2
  have hsn := wts_sum n hP
  have hSN : 0 < sumN (wts Z) n := by omega
  have hn0 : 0 < n := by
    rcases Nat.eq_zero_or_pos n with h | h
    · subst h; simp [sumZ] at hS
    · exact h
  have CV := Lib.hid (fun (i : Nat) (hi : i < n) w => (rover_dv (p := T * Z i) hF hP hn hS (dig_ex (v := T * Z i) (Int.mul_nonneg (by omega) (hP i hi)) (by
      have h1 := hF i; have h2 := hP i hi; unfold F64 at h1 hTF
      have hm : T * Z i ≤ 9223372036854775807 * 9223372036854775807 := Int.mul_le_mul hTF.2 h1.2 h2 (by omega)
      have := P16_12; omega)).choose_spec.1 (dig_ex (v := T * Z i) (Int.mul_nonneg (by omega) (hP i hi)) (by
      have h1 := hF i; have h2 := hP i hi; unfold F64 at h1 hTF
      have hm : T * Z i ≤ 9223372036854775807 * 9223372036854775807 := Int.mul_le_mul hTF.2 h1.2 h2 (by omega)
      have := P16_12; omega)).choose_spec.2 w))
  rw [hx2, hfit, show nm (xs Z n).1 (xs Z n).2 = xn Z n from rfl] at ci
  rw [hzz, show nm (xs Z n).1 (xs Z n).2 = xn Z n from rfl] at cz
  have hXs : (xn Z n).size = 13 := nm_size hx1.size
  have hXa : (xn Z n).all (·.oneCell') = true := nm_all hx1
  have HE := Lib.hid (show splE Z n T = 0 from by
    unfold splE
    rw [if_neg (by omega), if_neg (fun h => h.elim (by omega) (fun ⟨i, h1, h2⟩ => by have := hP i h1; omega)), if_neg (by rw [hfit]; simp), if_neg (by omega), if_neg (by omega)])
  have CO := Lib.hid (fun w => of_any' T w hTF)
  have CI := Lib.hid (fun (i : Nat) w => of_any' (Z i) w (hF i))
  have CT := Lib.hid (fun (i : Nat) (hi : i < n) w => rtimes_dv hTF (by omega) (hF i) (hP i hi) w)
  have hpb : ∀ v : Int, 0 ≤ v → v ≤ 9223372036854775807 → IsD (DV v) ∧ lv (DV v) 12 = v := fun v h0 h1 => DV_ok h0 (by have := P16_12; omega)
  have HPB := Lib.hid hpb
  have HFR := Lib.hid (fun (i : Nat) (hi : i < n) => flo_int (Z := Z) (k := i) (T := T) (by omega) hP hi)
  have hTFb := hTF
  unfold F64 at hTFb
  obtain ⟨t, rfl⟩ : ∃ t : Nat, T = (t : Int) := ⟨T.toNat, by omega⟩
  rw [Int.toNat_natCast] at HFR
  have HRB := Lib.hid (fun (i : Nat) => res_lt (T := t) hSN i)
  have HFB := Lib.hid (fun (k : Nat) (hk : k ≤ n) => flo_part (W := wts Z) (T := t) hSN hk)
  have HF := Lib.hid hF
  have HP := Lib.hid hP
  have HSN := Lib.hid hSN
  have HSB := Lib.hid (show sumN (wts Z) n ≤ 9223372036854775807 from by omega)
  have C0 := Lib.hid (fun w => of_any' 0 w (by unfold F64; omega))
  have HO0 := Lib.hid (oV_DV (v := 0) (by unfold F64; omega) (by omega))
  generalize hX : xn Z n = X at *
  have HXX := Lib.hid hX
  have HXS := Lib.hid hXs
  have HXE := Lib.hid (extract_all hXs)
  have HXA := Lib.hid hXa
  have HA := Lib.hid hA
  have HZs := Lib.hid (show (nm false z12).size = 13 from nm_size z12_D.size)
  clear hx1 hx2 hzz hX hXs hXa hA hP hF hTF hS hfit hsb hsn hSN hpb
  generalize fitN (sumZ Z n) = S1 at *
  generalize hZ0 : nm false z12 = Z0 at *
  have HZ0 := Lib.hid hZ0
  clear hZ0
  unfold RSplC
  rw [HE.out]
  have hni : ¬ (1000 : Int) < n := by omega
  have hTn : ¬ (t : Int) < 0 := by omega
  have hTz : ¬ (t : Int) = 0 := by omega
  have hTp : 0 < t := by omega
  go_enter Try.func24, Try.ntmps24
  go_wp2
  go_loopg [6] n (fun gh v6 wr => ∃ k : Nat, k ≤ n ∧ gh = n - k ∧ v6 = .int .i64 k ∧ w = wr)
  case atStart => exact ⟨0, by omega, by omega, rfl, rfl⟩
  case round =>
    obtain ⟨k, hk, rfl, rfl, rfl⟩ := hrel
    by_cases hlt : k < n
    · have hki : (k : Int) < n := by omega
      obtain ⟨g, off, B, t, fr, rfl, hg, hz⟩ := HA.out k hlt
      have cg := cellF hg
      have hz0 : ¬ Z k < 0 := by have := HP.out k hlt; omega
      generalize Z k = z at hz hz0
      clear cm ci cz
      go_wp2
      go_roundg (n - (k + 1))
      case measure => omega
      case rel => exact ⟨k + 1, by omega, rfl, by go_num, rfl⟩
    · obtain rfl : k = n := by omega
      go_wp2_with (first | (go_at_call 37; (with_reducible refine (cm).mono ?_); rintro e w1 ⟨rfl, hb1⟩) | ((with_reducible refine at_alloc 58 ?_); refine wpList_alloc_named rfl 58 rfl Z0 (by rw [← HZ0.out]; kernel_rfl) ?_) | ((with_reducible refine at_store 58 ?_); refine wpList_store_new rfl 58 _ _ rfl X _ _ _ rfl (by simp) rfl (by rw [HXS.out]; kernel_rfl) (by rw [HXS.out]; exact HZs.out) HXA.out ?_) | ((with_reducible refine at_load 58 ?_); refine wpList_load_part rfl 58 _ rfl (w1.heap.size) (0) rfl _ (X) _ _ 13 (heap_alloc_new _ _) Try.underlying58 rfl (by kernel_rfl) (by rw [HXS.out]; omega) (X) (HXE.out) ?_) | (go_at_call 38; (with_reducible refine (ci _).mono ?_); rintro e w2 ⟨rfl, hb2⟩))
      have HB := Lib.hid (below_then (below_alloc hb1 (.cells X 58)) hb2)
      obtain ⟨gX, hgXe⟩ : ∃ g, g = w1.heap.size := ⟨_, rfl⟩
      have hgX : w2.heap[gX]? = some (.cells X 58 (0, 0)) := by rw [hgXe]; exact Yticdcdahehodkaa.kept hb2 (heap_alloc_new w1 (.cells X 58))
      rw [← hgXe]
      have hgX2 := (Array.getElem?_eq_some_iff.1 hgX).1
      have HGX := Lib.hid hgX
      clear hb1 hb2 hgXe hgX cm ci
      go_loopg [10, 11, 12, 13] k (fun gh v10 v11 v12 v13 wr => ∃ j : Nat, j ≤ k ∧ gh = k - j ∧ v13 = .int .i64 j ∧ v12 = .int .i64 ((t : Int) - (sumN (flo (wts Z) k t) j : Nat)) ∧ Lp2 w2 wr v10 v11 j j (fun i => (flo (wts Z) k t i : Nat)) (fun i => nm false (DV (res (wts Z) k t i : Nat))))
      case atStart => exact ⟨0, by omega, by omega, rfl, by simp [sumN], ⟨Below.refl _ _, World.ownsRow_nil _ _ _ _, World.ownsRow_nil _ _ _ _⟩⟩
      case round =>
        obtain ⟨j, hj, rfl, rfl, rfl, hL⟩ := hrel
        have HL := Lib.hid hL
        clear hL
        have hgX := Yticdcdahehodkaa.kept HL.out.be HGX.out
        by_cases hlt : j < k
        · have hki : (j : Int) < k := by omega
          obtain ⟨g, off, B, tt, fr, rfl, hg, hz⟩ := (HA.out.kept (below_then HB.out HL.out.be)) j hlt
          obtain ⟨z, hze⟩ : ∃ z, z = Z j := ⟨_, rfl⟩
          obtain ⟨q, hqe⟩ : ∃ q, q = flo (wts Z) k t j := ⟨_, rfl⟩
          obtain ⟨r, hre⟩ : ∃ r, r = res (wts Z) k t j := ⟨_, rfl⟩
          have hfr := HFR.out j hlt
          rw [← hqe, ← hre, ← hze] at hfr
          have cO := CO.out
          have cI := CI.out j
          have cT := CT.out j hlt
          have cV := CV.out j hlt
          rw [← hze] at cI cT cV hz
          rw [← hfr.1, ← hfr.2] at cV
          have hrb := HRB.out j
          rw [← hre] at hrb
          have hfb := HFB.out (j + 1) (by omega)
          have hsu : sumN (flo (wts Z) k t) (j + 1) = sumN (flo (wts Z) k t) j + q := by rw [hqe]; rfl
          have hsB := HSB.out
          obtain ⟨qd, qv⟩ := HPB.out (q : Int) (by omega) (by omega)
          obtain ⟨rd, rv⟩ := HPB.out (r : Int) (by omega) (by omega)
          have cN := fun w => rint_dv qd qv (by omega) (by omega) w
          obtain ⟨T1, hT1⟩ : ∃ T1, T1 = nm (oS t) (oV t) := ⟨_, rfl⟩
          obtain ⟨Z1, hZ1⟩ : ∃ Z1, Z1 = nm (oS z) (oV z) := ⟨_, rfl⟩
          obtain ⟨P1, hP1⟩ : ∃ P1, P1 = nm false (DV ((t : Int) * z)) := ⟨_, rfl⟩
          obtain ⟨Q1, hQ1⟩ : ∃ Q1, Q1 = nm false (DV (q : Int)) := ⟨_, rfl⟩
          obtain ⟨R1, hR1⟩ : ∃ R1, R1 = nm false (DV (r : Int)) := ⟨_, rfl⟩
          have HQS := Lib.hid (show Q1.size = 13 from by rw [hQ1]; exact nm_size qd.size)
          have HRS := Lib.hid (show R1.size = 13 from by rw [hR1]; exact nm_size rd.size)
          have HQA := Lib.hid (show Q1.all (·.oneCell') = true from by rw [hQ1]; exact nm_all qd)
          have HRA := Lib.hid (show R1.all (·.oneCell') = true from by rw [hR1]; exact nm_all rd)
          have HQE := Lib.hid (extract_all HQS.out)
          have HRE := Lib.hid (extract_all HRS.out)
          have HR1 := Lib.hid (show R1 = nm false (DV (res (wts Z) k t j : Nat)) from by rw [hR1, hre])
          rw [← hT1] at cO cT
          rw [← hZ1] at cI cT
          rw [← hP1] at cT cV
          rw [← hQ1, ← hR1] at cV
          rw [← hQ1] at cN
          obtain ⟨l, hl⟩ : ∃ l, l = (t : Int) - (sumN (flo (wts Z) k t) j : Nat) := ⟨_, rfl⟩
          have HLQ := Lib.hid (show l - (q : Int) = (t : Int) - (sumN (flo (wts Z) k t) (j + 1) : Nat) from by rw [hsu]; omega)
          have wl : IntKind.i64.wrap (l - (q : Int)) = l - (q : Int) := by rw [IntKind.wrap_i64]; omega
          have HQQ := Lib.hid hqe
          rw [← hl]
          have hgl := (Array.getElem?_eq_some_iff.1 hg).1
          clear hze hqe hre hfr hrb hfb hsu hsB qd qv rd rv hT1 hZ1 hP1 hQ1 hR1 hl
          go_upto_region 24 with (first | ((with_reducible refine at_load 58 ?_); refine wpList_load_part rfl 58 _ rfl (gX) (0) rfl _ (X) _ _ 13 (hgX) Try.underlying58 rfl (by kernel_rfl) (by rw [HXS.out]; omega) (X) (HXE.out) ?_) | (go_at_call 29; (with_reducible refine (cz _).mono ?_); rintro e w3 ⟨rfl, hb3⟩))
          have hg3 := Yticdcdahehodkaa.kept hb3 hg
          have hgX3 := Yticdcdahehodkaa.kept hb3 hgX
          have HL3 := Lib.hid (HL.out.after hb3)
          have hgl3 := (Array.getElem?_eq_some_iff.1 hg3).1
          have hgX4 := (Array.getElem?_eq_some_iff.1 hgX3).1
          clear hg hgX hb3 hgl hgX2
          go_cut [14, 15] from 59 to 72 (fun v14 v15 wx => ∃ g4 g5 : Nat, v14 = .pointer (some ⟨g4, 0, none⟩) ∧ v15 = .pointer (some ⟨g5, 0, none⟩) ∧ wx.heap[g4]? = some (.cells Q1 58 (0, 0)) ∧ wx.heap[g5]? = some (.cells R1 58 (0, 0)) ∧ Below w3.heap.size w3 wx)
          case first =>
            refine wp_region_R (S := fun wt => wt.heap[g]? = some (.cells B tt fr) ∧ wt.heap[gX]? = some (.cells X 58 (0, 0))) (by kernel_rfl) ⟨hg3, hgX3⟩ ?_
            obtain ⟨wq, hwq⟩ : ∃ wq, wq = w3.drew := ⟨_, rfl⟩
            have HBQ : Below w3.heap.size w3 wq := by rw [hwq]; exact Below.drew (Below.refl _ _)
            rw [← hwq]
            clear hwq hg3 hgX3
            have HST : ∀ wt wt' : World, (wt.heap[g]? = some (.cells B tt fr) ∧ wt.heap[gX]? = some (.cells X 58 (0, 0))) → Below wt.heap.size wt wt' → (wt'.heap[g]? = some (.cells B tt fr) ∧ wt'.heap[gX]? = some (.cells X 58 (0, 0))) := fun _ _ h hb => ⟨Yticdcdahehodkaa.kept hb h.1, Yticdcdahehodkaa.kept hb h.2⟩
            (refine wpAnyR_take (i := 0) (v := ?_) rfl (by kernel_rfl) (by kernel_rfl) (by kernel_rfl) (fun _ _ _ h => h) (give_val (by rfl) ?rt_0) ?_); (case rt_0 => (intro wt hS; go_simp; try with_reducible rfl)); (try simp only [Act.put, List.getElem_toArray, List.getElem_cons_zero, List.getElem_cons_succ, List.setIfInBounds_toArray, List.set_cons_zero, List.set_cons_succ])
            (refine wpAnyR_take (i := 1) rfl (by kernel_rfl) (by kernel_rfl) (by kernel_rfl) (fun _ _ _ h => h) (give_call 27 _ (by rfl) (fun wt hS => by go_simp) (fun wt hS => cO wt) HST) ?_); (try simp only [Act.put, List.getElem_toArray, List.getElem_cons_zero, List.getElem_cons_succ, List.setIfInBounds_toArray, List.set_cons_zero, List.set_cons_succ])
            (refine wpAnyR_take (i := 2) (v := ?_) rfl (by kernel_rfl) (by kernel_rfl) (by kernel_rfl) (fun _ _ _ h => h) (give_val (by rfl) ?rt_2) ?_); (case rt_2 => (intro wt hS; go_simp; try with_reducible rfl)); (try simp only [Act.put, List.getElem_toArray, List.getElem_cons_zero, List.getElem_cons_succ, List.setIfInBounds_toArray, List.set_cons_zero, List.set_cons_succ]); (refine wpAnyR_take (i := 3) (v := ?_) rfl (by kernel_rfl) (by kernel_rfl) (by kernel_rfl) (fun _ _ _ h => h) (give_val (by rfl) ?rt_3) ?_); (case rt_3 => (intro wt hS; go_simp; try with_reducible rfl)); (try simp only [Act.put, List.getElem_toArray, List.getElem_cons_zero, List.getElem_cons_succ, List.setIfInBounds_toArray, List.set_cons_zero, List.set_cons_succ]); (refine wpAnyR_take (i := 4) (v := ?_) rfl (by kernel_rfl) (by kernel_rfl) (by kernel_rfl) (fun _ _ _ h => h) (give_val (by rfl) ?rt_4) ?_); (case rt_4 => (intro wt hS; go_simp; try with_reducible rfl)); (try simp only [Act.put, List.getElem_toArray, List.getElem_cons_zero, List.getElem_cons_succ, List.setIfInBounds_toArray, List.set_cons_zero, List.set_cons_succ])
            (refine wpAnyR_take (i := 5) (v := .int .i64 z) rfl (by kernel_rfl) (by kernel_rfl) (by kernel_rfl) (fun _ _ _ h => h) (give_val (by rfl) ?rt_5) ?_); (case rt_5 => (intro wt hS; (have hcq := cellF hS.1); go_simp; try with_reducible rfl)); (try simp only [Act.put, List.getElem_toArray, List.getElem_cons_zero, List.getElem_cons_succ, List.setIfInBounds_toArray, List.set_cons_zero, List.set_cons_succ])
            (refine wpAnyR_take (i := 6) rfl (by kernel_rfl) (by kernel_rfl) (by kernel_rfl) (fun _ _ _ h => h) (give_call 27 _ (by rfl) (fun wt hS => by go_simp) (fun wt hS => cI wt) HST) ?_); (try simp only [Act.put, List.getElem_toArray, List.getElem_cons_zero, List.getElem_cons_succ, List.setIfInBounds_toArray, List.set_cons_zero, List.set_cons_succ])
            (refine wpAnyR_take (i := 7) rfl (by kernel_rfl) (by kernel_rfl) (by kernel_rfl) (fun _ _ _ h => h) (give_call 39 _ (by rfl) (fun wt hS => by go_simp) (fun wt hS => cT wt) HST) ?_); (try simp only [Act.put, List.getElem_toArray, List.getElem_cons_zero, List.getElem_cons_succ, List.setIfInBounds_toArray, List.set_cons_zero, List.set_cons_succ])
            (refine wpAnyR_take (i := 8) (v := .agg X) rfl (by kernel_rfl) (by kernel_rfl) (by kernel_rfl) (fun _ _ _ h => h) (give_val (by rfl) ?rt_8) ?_); (case rt_8 => (intro wt hS; exact exec_load_part 58 _ rfl gX 0 (by rfl) _ X _ _ 13 hS.2 Try.underlying58 rfl (by kernel_rfl) (by rw [HXS.out]; omega) _ HXE.out)); (try simp only [Act.put, List.getElem_toArray, List.getElem_cons_zero, List.getElem_cons_succ, List.setIfInBounds_toArray, List.set_cons_zero, List.set_cons_succ])
            (refine wpAnyR_take (i := 9) rfl (by kernel_rfl) (by kernel_rfl) (by kernel_rfl) (fun _ _ _ h => h) (give_call 40 _ (by rfl) (fun wt hS => by go_simp) (fun wt hS => cV wt) HST) ?_); (try simp only [Act.put, List.getElem_toArray, List.getElem_cons_zero, List.getElem_cons_succ, List.setIfInBounds_toArray, List.set_cons_zero, List.set_cons_succ])
            (refine wpAnyR_take (i := 10) (v := ?_) rfl (by kernel_rfl) (by kernel_rfl) (by kernel_rfl) (fun _ _ _ h => h) (give_val (by rfl) ?rt_10) ?_); (case rt_10 => (intro wt hS; go_simp; try with_reducible rfl)); (try simp only [Act.put, List.getElem_toArray, List.getElem_cons_zero, List.getElem_cons_succ, List.setIfInBounds_toArray, List.set_cons_zero, List.set_cons_succ]); (refine wpAnyR_take (i := 11) (v := ?_) rfl (by kernel_rfl) (by kernel_rfl) (by kernel_rfl) (fun _ _ _ h => h) (give_val (by rfl) ?rt_11) ?_); (case rt_11 => (intro wt hS; go_simp; try with_reducible rfl)); (try simp only [Act.put, List.getElem_toArray, List.getElem_cons_zero, List.getElem_cons_succ, List.setIfInBounds_toArray, List.set_cons_zero, List.set_cons_succ]); (refine wpAnyR_take (i := 12) (v := ?_) rfl (by kernel_rfl) (by kernel_rfl) (by kernel_rfl) (fun _ _ _ h => h) (give_val (by rfl) ?rt_12) ?_); (case rt_12 => (intro wt hS; go_simp; try with_reducible rfl)); (try simp only [Act.put, List.getElem_toArray, List.getElem_cons_zero, List.getElem_cons_succ, List.setIfInBounds_toArray, List.set_cons_zero, List.set_cons_succ])
            (refine wpAnyR_ready (rs := [13, 14]) (by kernel_rfl) (by decide) (fun wa hba HS => ?_)); refine (AllR.cons rfl (fun K' hK => ?_) (AllR.cons rfl (fun K' hK => ?_) AllR.nil))
            · rw [if_pos (by rfl)]
              refine op_alloc_named 58 rfl Z0 (by rw [← HZ0.out]; kernel_rfl) (hK.out _ _ ⟨heap_up HS.1, heap_up HS.2⟩ ?_)
              clear hK K'
              (try simp only [Act.put, List.getElem_toArray, List.getElem_cons_zero, List.getElem_cons_succ, List.setIfInBounds_toArray, List.set_cons_zero, List.set_cons_succ])
              (refine wpAnyR_ready (rs := [14]) (by kernel_rfl) (by decide) (fun wb hbb HS => ?_)); refine (AllR.cons rfl (fun K' hK => ?_) AllR.nil)
              rw [if_pos (by rfl)]
              refine op_alloc_named 58 rfl Z0 (by rw [← HZ0.out]; kernel_rfl) (hK.out _ _ ⟨heap_up HS.1, heap_up HS.2⟩ ?_)
              clear hK K'
              (try simp only [Act.put, List.getElem_toArray, List.getElem_cons_zero, List.getElem_cons_succ, List.setIfInBounds_toArray, List.set_cons_zero, List.set_cons_succ])
              have h4 : (wb.alloc (.cells Z0 58)).heap[wa.heap.size]? = some (.cells Z0 58 (0, 0)) := heap_up (Yticdcdahehodkaa.kept hbb (heap_alloc_new wa _))
              have h5 : (wb.alloc (.cells Z0 58)).heap[wb.heap.size]? = some (.cells Z0 58 (0, 0)) := heap_alloc_new wb _
              have hBc : Below w3.heap.size w3 (wb.alloc (.cells Z0 58)) := below_alloc (below_then (below_alloc (below_then HBQ hba) _) hbb) _
              have hs1 := (below_then HBQ hba).size
              have hs2 : wa.heap.size < wb.heap.size := by have := hbb.size; simp at this; omega
              have hne : wa.heap.size ≠ wb.heap.size := by omega
              have hlt4 : w3.heap.size ≤ wa.heap.size := by omega
              have hlt5 : w3.heap.size ≤ wb.heap.size := by omega
              obtain ⟨wc, hwc⟩ : ∃ wc, wc = wb.alloc (.cells Z0 58) := ⟨_, rfl⟩
              rw [← hwc] at h4 h5 hBc
              change wpAnyR _ _ _ _ _ _ _ _ (wb.alloc (.cells Z0 58))
              rw [← hwc]
              clear hwc hs1 hs2 hba hbb
              generalize wa.heap.size = g4 at *
              generalize wb.heap.size = g5 at *
              (refine wpAnyR_ready (rs := [15]) (by kernel_rfl) (by decide) (fun wd hbd HS => ?_)); refine (AllR.cons rfl (fun K' hK => ?_) AllR.nil)
              rw [if_pos (by rfl)]
              refine op_store_over' 58 _ _ rfl g4 Q1 rfl rfl _ Z0 (Yticdcdahehodkaa.kept hbd h4) (by rw [HQS.out]; kernel_rfl) (by rw [HQS.out]; exact HZs.out) HQA.out (fun w5 hc5 ho5 hb5 => hK.out _ _ ⟨(ho5 g (by omega)).trans HS.1, (ho5 gX (by omega)).trans HS.2⟩ ?_)
              clear hK K'
              (try simp only [Act.put, List.getElem_toArray, List.getElem_cons_zero, List.getElem_cons_succ, List.setIfInBounds_toArray, List.set_cons_zero, List.set_cons_succ])
              have h5d := (ho5 g5 (Ne.symm hne)).trans (Yticdcdahehodkaa.kept hbd h5)
              have hBd := (below_then hBc hbd).trans (hb5 _ hlt4)
              (refine wpAnyR_ready (rs := [16]) (by kernel_rfl) (by decide) (fun we hbe HS => ?_)); refine (AllR.cons rfl (fun K' hK => ?_) AllR.nil)
              rw [if_pos (by rfl)]
              refine op_store_over' 58 _ _ rfl g5 R1 rfl rfl _ Z0 (Yticdcdahehodkaa.kept hbe h5d) (by rw [HRS.out]; kernel_rfl) (by rw [HRS.out]; exact HZs.out) HRA.out (fun w6 hc6 ho6 hb6 => hK.out _ _ ⟨(ho6 g (by omega)).trans HS.1, (ho6 gX (by omega)).trans HS.2⟩ ?_)
              clear hK K'
              (try simp only [Act.put, List.getElem_toArray, List.getElem_cons_zero, List.getElem_cons_succ, List.setIfInBounds_toArray, List.set_cons_zero, List.set_cons_succ])
              have h4e := (ho6 g4 hne).trans (Yticdcdahehodkaa.kept hbe hc5)
              have hBe := (below_then hBd hbe).trans (hb6 _ hlt5)
              refine wpAnyR_done (by kernel_rfl) (fun wz hbz HS => ?_) _
              have e4 := Yticdcdahehodkaa.kept hbz h4e
              have e5 := Yticdcdahehodkaa.kept hbz hc6
              have e6 := below_then hBe hbz
              go_wp2_with fail
              go_meet
              exact ⟨g4, g5, rfl, rfl, e4, e5, e6⟩
            · rw [if_pos (by rfl)]
              refine op_alloc_named 58 rfl Z0 (by rw [← HZ0.out]; kernel_rfl) (hK.out _ _ ⟨heap_up HS.1, heap_up HS.2⟩ ?_)
              clear hK K'
              (try simp only [Act.put, List.getElem_toArray, List.getElem_cons_zero, List.getElem_cons_succ, List.setIfInBounds_toArray, List.set_cons_zero, List.set_cons_succ])
              (refine wpAnyR_ready (rs := [13]) (by kernel_rfl) (by decide) (fun wb hbb HS => ?_)); refine (AllR.cons rfl (fun K' hK => ?_) AllR.nil)
              rw [if_pos (by rfl)]
              refine op_alloc_named 58 rfl Z0 (by rw [← HZ0.out]; kernel_rfl) (hK.out _ _ ⟨heap_up HS.1, heap_up HS.2⟩ ?_)
              clear hK K'
              (try simp only [Act.put, List.getElem_toArray, List.getElem_cons_zero, List.getElem_cons_succ, List.setIfInBounds_toArray, List.set_cons_zero, List.set_cons_succ])
              have h5 : (wb.alloc (.cells Z0 58)).heap[wa.heap.size]? = some (.cells Z0 58 (0, 0)) := heap_up (Yticdcdahehodkaa.kept hbb (heap_alloc_new wa _))
              have h4 : (wb.alloc (.cells Z0 58)).heap[wb.heap.size]? = some (.cells Z0 58 (0, 0)) := heap_alloc_new wb _
              have hBc : Below w3.heap.size w3 (wb.alloc (.cells Z0 58)) := below_alloc (below_then (below_alloc (below_then HBQ hba) _) hbb) _
              have hs1 := (below_then HBQ hba).size
              have hs2 : wa.heap.size < wb.heap.size := by have := hbb.size; simp at this; omega
              have hne : wb.heap.size ≠ wa.heap.size := by omega
              have hlt5 : w3.heap.size ≤ wa.heap.size := by omega
              have hlt4 : w3.heap.size ≤ wb.heap.size := by omega
              obtain ⟨wc, hwc⟩ : ∃ wc, wc = wb.alloc (.cells Z0 58) := ⟨_, rfl⟩
              rw [← hwc] at h4 h5 hBc
              change wpAnyR _ _ _ _ _ _ _ _ (wb.alloc (.cells Z0 58))
              rw [← hwc]
              clear hwc hs1 hs2 hba hbb
              generalize wa.heap.size = g5 at *
              generalize wb.heap.size = g4 at *
              (refine wpAnyR_ready (rs := [15]) (by kernel_rfl) (by decide) (fun wd hbd HS => ?_)); refine (AllR.cons rfl (fun K' hK => ?_) AllR.nil)
              rw [if_pos (by rfl)]
              refine op_store_over' 58 _ _ rfl g4 Q1 rfl rfl _ Z0 (Yticdcdahehodkaa.kept hbd h4) (by rw [HQS.out]; kernel_rfl) (by rw [HQS.out]; exact HZs.out) HQA.out (fun w5 hc5 ho5 hb5 => hK.out _ _ ⟨(ho5 g (by omega)).trans HS.1, (ho5 gX (by omega)).trans HS.2⟩ ?_)
              clear hK K'
              (try simp only [Act.put, List.getElem_toArray, List.getElem_cons_zero, List.getElem_cons_succ, List.setIfInBounds_toArray, List.set_cons_zero, List.set_cons_succ])
              have h5d := (ho5 g5 (Ne.symm hne)).trans (Yticdcdahehodkaa.kept hbd h5)
              have hBd := (below_then hBc hbd).trans (hb5 _ hlt4)
              (refine wpAnyR_ready (rs := [16]) (by kernel_rfl) (by decide) (fun we hbe HS => ?_)); refine (AllR.cons rfl (fun K' hK => ?_) AllR.nil)
              rw [if_pos (by rfl)]
              refine op_store_over' 58 _ _ rfl g5 R1 rfl rfl _ Z0 (Yticdcdahehodkaa.kept hbe h5d) (by rw [HRS.out]; kernel_rfl) (by rw [HRS.out]; exact HZs.out) HRA.out (fun w6 hc6 ho6 hb6 => hK.out _ _ ⟨(ho6 g (by omega)).trans HS.1, (ho6 gX (by omega)).trans HS.2⟩ ?_)
              clear hK K'
              (try simp only [Act.put, List.getElem_toArray, List.getElem_cons_zero, List.getElem_cons_succ, List.setIfInBounds_toArray, List.set_cons_zero, List.set_cons_succ])
              have h4e := (ho6 g4 hne).trans (Yticdcdahehodkaa.kept hbe hc5)
              have hBe := (below_then hBd hbe).trans (hb6 _ hlt5)
              refine wpAnyR_done (by kernel_rfl) (fun wz hbz HS => ?_) _
              have e4 := Yticdcdahehodkaa.kept hbz h4e
              have e5 := Yticdcdahehodkaa.kept hbz hc6
              have e6 := below_then hBe hbz
              go_wp2_with fail
              go_meet
              exact ⟨g4, g5, rfl, rfl, e4, e5, e6⟩
          case rest =>
            obtain ⟨g4, g5, rfl, rfl, h4, h5, hbx⟩ := hcut
            have HL4 := Lib.hid (HL3.out.after hbx)
            clear hbx hg3 hgX3 hgl3 hgX4 cO cI cT cV HL3
            go_wp2_with (first | ((with_reducible refine at_load 58 ?_); refine wpList_load_part rfl 58 _ rfl (g4) (0) rfl _ (Q1) _ _ 13 (h4) Try.underlying58 rfl (by kernel_rfl) (by rw [HQS.out]; omega) (Q1) (HQE.out) ?_) | (go_at_call 38; (with_reducible refine (cN _).mono ?_); rintro e w5 ⟨rfl, hb5⟩; have h55 := Yticdcdahehodkaa.kept hb5 h5; have HL5 := Lib.hid (HL4.out.after hb5); clear hb5) | ((with_reducible refine at_append 48 ?_); refine wpList_append_ints rfl _ _ rfl w2.heap.size u10 j _ rfl (HL5.out.p.alloc _) (some ⟨w5.heap.size, 0, none⟩) 1 1 (fun _ => (q : Int)) rfl (fun i hi => ⟨w5.heap.size, 0, #[.int .i64 (q : Int)], _, _, rfl, heap_alloc_new _ _, by obtain rfl : i = 0 := (by omega); rfl⟩) (fun h => by cases h) (by omega) (by have := HL5.out.be.size; simp; omega) ?_; intro v1 w6 hown6 hgr6; (have hap := HL5.out.app1 (v := v1) (by rw [← HQQ.out]; exact hown6) hgr6); (have HL6 := Lib.hid hap.1); (have h56 := hap.2 _ _ h55); clear hap hown6 hgr6) | ((with_reducible refine at_load 58 ?_); refine wpList_load_part rfl 58 _ rfl (g5) (0) rfl _ (R1) _ _ 13 (h56) Try.underlying58 rfl (by kernel_rfl) (by rw [HRS.out]; omega) (R1) (HRE.out) ?_) | ((with_reducible refine at_slice1 74 ?_); obtain ⟨ip, zp, ip1, ip2, ip3, ip4, ip5⟩ := info_num; refine wpList_slice1c rfl 74 58 _ rfl R1 13 rfl HRS.out ip zp Try.underlying74 ip1 ip2 ip3 ip5 (by omega) (by omega) ?_; clear ip1 ip2 ip3 ip4 ip5) | ((with_reducible refine at_append 74 ?_); refine wpList_append_row1 rfl _ _ rfl Try.underlying74 info_num (by omega) HRS.out HRA.out w2.heap.size u11 j _ rfl HL6.out.r rfl (by omega) HL6.out.be.size ?_; intro v2 w7 ho7 hg7 hq7; (have HL7 := Lib.hid (HL6.out.app2 (by rw [← HR1.out]; exact ho7) hg7)); clear ho7 hg7 hq7))
            go_roundg (k - (j + 1))
            case measure => omega
            case rel => exact ⟨j + 1, by omega, rfl, by go_num, by rw [HLQ.out], HL7.out⟩
        · obtain rfl : j = k := by omega
          have hsz : ∀ i, (nm false (DV (res (wts Z) j t i : Nat))).size = 13 := fun i => by
            have h1 := HRB.out i
            have h2 := HSB.out
            exact nm_size (HPB.out (res (wts Z) j t i : Nat) (by omega) (by omega)).1.size
          obtain ⟨gp, gr, cp, cr, rfl, rfl, hcr, hS3⟩ := Sp3.start hn0 HL.out.be HL.out.p hsz HL.out.r
          have HS3 := Lib.hid hS3
          clear hS3 hcr
          go_wp2_with (first | ((with_reducible refine at_load 58 ?_); refine wpList_load_part rfl 58 _ rfl (gX) (0) rfl _ (X) _ _ 13 (hgX) Try.underlying58 rfl (by kernel_rfl) (by rw [HXS.out]; omega) (X) (HXE.out) ?_) | (go_at_call 29; (with_reducible refine (cz _).mono ?_); rintro e w3 ⟨rfl, hb3⟩))
          have HS4 := Lib.hid (HS3.out.after hb3)
          obtain ⟨lf, hlf⟩ : ∃ lf, lf = lef (wts Z) j t := ⟨_, rfl⟩
          have HLF := Lib.hid hlf
          have HL0 := Lib.hid (show (t : Int) - (sumN (flo (wts Z) j t) j : Nat) = (lf : Int) from by
            have := HFB.out j (by omega)
            rw [hlf]; unfold lef; omega)
          have hlfj : lf ≤ j := by rw [hlf]; exact lef_le HSN.out
          clear hb3 hgX HS3 HL cz hlf
          go_loopg [12] lf (fun gh v12 wr => ∃ (m : Nat) (tk : Nat → Bool), m ≤ lf ∧ m = gh ∧ v12 = .int .i64 m ∧ Clo (rkey (wts Z) j t) j tk ∧ cnt tk j = lf - m ∧ Sp3 w2 wr gp gr j cp (fun i => flo (wts Z) j t i + b01 (tk i)) (rst (wts Z) j t tk))
          case atStart => exact ⟨lf, fun _ => false, Nat.le_refl _, rfl, by rw [HL0.out], (fun i j _ _ h _ => by cases h), by rw [cnt_none]; omega, HS4.out⟩
          case round =>
            clear HS4
            obtain ⟨m, tk, hm, rfl, rfl, hclo, hcnt, hS5⟩ := hrel
            have HCL := Lib.hid (And.intro hclo hcnt)
            have HS5 := Lib.hid hS5
            clear hclo hcnt hS5
            by_cases hm0 : 0 < m
            · have hmi : (0 : Int) < m := by omega
              go_wp2
              go_loopg [18, 19] (j - 1) (fun gh v18 v19 wx => ∃ x k : Nat, 1 ≤ k ∧ k ≤ j ∧ x < k ∧ gh = j - k ∧ v18 = .int .i64 x ∧ v19 = .int .i64 k ∧ Grt (wts Z) j t tk x k ∧ Sp3 w2 wx gp gr j cp (fun i => flo (wts Z) j t i + b01 (tk i)) (rst (wts Z) j t tk))
              case atStart => exact ⟨0, 1, by omega, by omega, by omega, rfl, rfl, rfl, grt_one, HS5.out⟩
              case round =>
                clear HS5
                obtain ⟨x, k, hk1, hkj, hxk, rfl, rfl, rfl, hgr, hS6⟩ := hrel
                have HG := Lib.hid hgr
                have HS6 := Lib.hid hS6
                clear hgr hS6
                by_cases hlt : k < j
                · have hki : (k : Int) < j := by omega
                  have hxi : (x : Int) < j := by omega
                  obtain ⟨A, hA, hAs, hAe⟩ := HS6.out.r
                  have hrs : ∀ i, rst (wts Z) j t tk i ≤ 9223372036854775807 := fun i => by
                    have h1 := HRB.out i
                    have h2 := HSB.out
                    unfold rst; split <;> omega
                  obtain ⟨u, hu⟩ : ∃ u, u = rst (wts Z) j t tk x := ⟨_, rfl⟩
                  obtain ⟨v, hv⟩ : ∃ v, v = rst (wts Z) j t tk k := ⟨_, rfl⟩
                  have hub := hrs x
                  have hvb := hrs k
                  have hex := hAe x (by omega)
                  have hek := hAe k hlt
                  rw [← hu] at hub hex
                  rw [← hv] at hvb hek
                  obtain ⟨ud, uv⟩ := HPB.out (u : Int) (by omega) (by omega)
                  obtain ⟨vd, vv⟩ := HPB.out (v : Int) (by omega) (by omega)
                  have cL := fun w => rless_dv ud uv vd vv w
                  have hx1 := ext_D ud.size hex
                  have hk1' := ext_D vd.size hek
                  have hxs : x * 13 + 1 + 12 ≤ A.size := by
                    have := Nat.mul_le_mul_right 13 (show x + 1 ≤ j by omega)
                    omega
                  have hks : k * 13 + 1 + 12 ≤ A.size := by
                    have := Nat.mul_le_mul_right 13 (show k + 1 ≤ j by omega)
                    omega
                  have HUV := Lib.hid (And.intro hu hv)
                  obtain ⟨U, hU⟩ : ∃ U, U = DV (u : Int) := ⟨_, rfl⟩
                  obtain ⟨V, hV⟩ : ∃ V, V = DV (v : Int) := ⟨_, rfl⟩
                  rw [← hU, ← hV] at cL
                  rw [← hU] at hx1
                  rw [← hV] at hk1'
                  clear hrs hub hvb hex hek ud uv vd vv hu hv hU hV hAe hAs
                  by_cases huv : u < v
                  · have hd : decide ((u : Int) < v) = true := decide_eq_true (by omega)
                    rw [hd] at cL
                    clear hd
                    go_upto_region 36 with fail
                    refine wp_region_below (by kernel_rfl) (by kernel_rfl) ?_
                    repeat (first | ((with_reducible apply q_skip); (case hw => rfl); (try simp only [Act.put, List.setIfInBounds_toArray, List.set_cons_zero, List.set_cons_succ])) | ((with_reducible refine at_qload 56 ?_); refine q_load_part (by rfl) 56 _ rfl (gr) (x * 13 + 1) rfl 58 (A) _ 12 (hA) Try.underlying56 rfl (by kernel_rfl) (hxs) (U) (hx1) ?_; try simp only [Act.put, List.setIfInBounds_toArray, List.set_cons_zero, List.set_cons_succ]) | ((with_reducible refine at_qload 56 ?_); refine q_load_part (by rfl) 56 _ rfl (gr) (k * 13 + 1) rfl 58 (A) _ 12 (hA) Try.underlying56 rfl (by kernel_rfl) (hks) (V) (hk1') ?_; try simp only [Act.put, List.setIfInBounds_toArray, List.set_cons_zero, List.set_cons_succ]) | ((with_reducible refine at_qcall 41 ?_); refine q_call_below _ 41 _ (by rfl) (cL) (fun wq hbq => by go_simp) ?_; try simp only [Act.put, List.setIfInBounds_toArray, List.set_cons_zero, List.set_cons_succ]) | ((with_reducible apply q_val); (case hw => rfl); (case hv => intro wq hbq; go_simp; try rfl); (try simp only [Act.put, List.setIfInBounds_toArray, List.set_cons_zero, List.set_cons_succ])))
                    refine q_nil ?_
                    intro wq hbq
                    go_wp2
                    go_roundg (j - (k + 1))
                    case measure => omega
                    case rel => exact ⟨k, k + 1, by omega, by omega, by omega, rfl, rfl, by go_num, grt_new HG.out hxk (by rw [← HUV.out.1, ← HUV.out.2]; exact huv), HS6.out.after hbq⟩
                  · have hd : decide ((u : Int) < v) = false := decide_eq_false (by omega)
                    rw [hd] at cL
                    clear hd
                    go_upto_region 36 with fail
                    refine wp_region_below (by kernel_rfl) (by kernel_rfl) ?_
                    repeat (first | ((with_reducible apply q_skip); (case hw => rfl); (try simp only [Act.put, List.setIfInBounds_toArray, List.set_cons_zero, List.set_cons_succ])) | ((with_reducible refine at_qload 56 ?_); refine q_load_part (by rfl) 56 _ rfl (gr) (x * 13 + 1) rfl 58 (A) _ 12 (hA) Try.underlying56 rfl (by kernel_rfl) (hxs) (U) (hx1) ?_; try simp only [Act.put, List.setIfInBounds_toArray, List.set_cons_zero, List.set_cons_succ]) | ((with_reducible refine at_qload 56 ?_); refine q_load_part (by rfl) 56 _ rfl (gr) (k * 13 + 1) rfl 58 (A) _ 12 (hA) Try.underlying56 rfl (by kernel_rfl) (hks) (V) (hk1') ?_; try simp only [Act.put, List.setIfInBounds_toArray, List.set_cons_zero, List.set_cons_succ]) | ((with_reducible refine at_qcall 41 ?_); refine q_call_below _ 41 _ (by rfl) (cL) (fun wq hbq => by go_simp) ?_; try simp only [Act.put, List.setIfInBounds_toArray, List.set_cons_zero, List.set_cons_succ]) | ((with_reducible apply q_val); (case hw => rfl); (case hv => intro wq hbq; go_simp; try rfl); (try simp only [Act.put, List.setIfInBounds_toArray, List.set_cons_zero, List.set_cons_succ])))
                    refine q_nil ?_
                    intro wq hbq
                    go_wp2
                    go_roundg (j - (k + 1))
                    case measure => omega
                    case rel => exact ⟨x, k + 1, by omega, by omega, by omega, rfl, rfl, by go_num, grt_keep HG.out hxk (by rw [← HUV.out.1, ← HUV.out.2]; exact huv), HS6.out.after hbq⟩
                · obtain rfl : k = j := by omega
                  have hst := stp_of HSN.out HCL.out.1 HCL.out.2 (by rw [← HLF.out]; omega) hxk HG.out
                  obtain ⟨P, hp1, hp2, hp3⟩ := HS6.out.p
                  obtain ⟨q, hq⟩ : ∃ q, q = flo (wts Z) k t x := ⟨_, rfl⟩
                  have c1 := ((cells_of hp1).1 x).trans (hp3 x hxk)
                  have f1 := (cells_of hp1).2.1 x
                  rw [hst.no, ← hq, show b01 false = 0 from rfl, Nat.add_zero] at c1
                  have hq1 := hst.le
                  rw [← hq] at hq1
                  have wq : IntKind.i64.wrap ((q : Int) + 1) = ((q + 1 : Nat) : Int) := by rw [IntKind.wrap_i64]; omega
                  have hxi : (x : Int) < k := by omega
                  have HS7 := Lib.hid (HS6.out.inc (v := .int .i64 ((q + 1 : Nat) : Int)) hxk (by rw [hst.no, hq]; rfl))
                  have HST := Lib.hid hst
                  have cO := C0.out
                  rw [HO0.out] at cO
                  obtain ⟨d0, e0⟩ := HPB.out 0 (by omega) (by omega)
                  have HZS := Lib.hid (show (nm false (DV 0)).size = 13 from nm_size d0.size)
                  have HZA := Lib.hid (nm_all (s := false) d0)
                  obtain ⟨O0, hO0⟩ : ∃ O0, O0 = nm false (DV 0) := ⟨_, rfl⟩
                  rw [← hO0] at cO HZS HZA
                  have HO := Lib.hid hO0
                  have HQ := Lib.hid hq
                  clear hst hp1 hp2 hp3 hq1 hO0 d0 e0 hq
                  go_wp2_with (first | (go_at_call 27; (with_reducible refine (cO _).mono ?_); rintro e w5 ⟨rfl, hb5⟩; have HS8 := Lib.hid (HS7.out.after hb5); clear hb5; obtain ⟨A, hA, hAs, hAe⟩ := HS8.out.r; have hxn : x * 13 + 13 ≤ A.size := (by have := Nat.mul_le_mul_right 13 (show x + 1 ≤ k by omega); omega)) | ((with_reducible refine at_store 58 ?_); refine wpList_store_part rfl 58 _ _ rfl (gr) (x * 13) (O0) rfl rfl _ _ (hA) (by rw [HZS.out]; kernel_rfl) (by rw [HZS.out]; exact hxn) (HZA.out) ?_; intro w6 hc6 hz6 ho6 hb6))
                  rw [HO.out] at hc6 HZS
                  have HS9 := Lib.hid (HS8.out.zero hxk hA hc6 HZS.out ho6 hb6)
                  go_roundg (m - 1)
                  case measure => omega
                  case rel =>
                    have hst := HST.out
                    have h9 := HS9.out.congr (F' := fun i => flo (wts Z) k t i + b01 (decide (i = x) || tk i)) (R' := rst (wts Z) k t (fun i => decide (i = x) || tk i)) (fun i hi => by
                      by_cases e : i = x
                      · subst e; rw [if_pos rfl, hst.no]; simp [b01]
                      · rw [if_neg e]; simp [e]) (fun i hi => by rw [rst_put])
                    exact ⟨m - 1, fun i => decide (i = x) || tk i, by omega, rfl, by go_num, hst.clo, by rw [hst.cnt]; omega, h9⟩
            · obtain rfl : m = 0 := by omega
              go_wp2
              go_ret2
              exact ⟨⟨_, rfl, fun _ => own_weak (by
                have h := HS5.out.fin (G := fun i => splP Z j (t : Int) i) (fun i hi => by
                  rw [show splP Z j (t : Int) i = prt (wts Z) j t i from by unfold splP; rw [Int.toNat_natCast]]
                  exact rst_done HCL.out.1 (by rw [HCL.out.2, HLF.out]; rfl) hi)
                exact h) HB.out.size, fun h => absurd HE.out h⟩, HB.out.trans (HS5.out.below.mono HB.out.size)⟩
end Go.Proofs.Yticdcdahehodkaa
/-! The document's Split of any total by any weights. Condition: the numbers fit their kinds. -/
namespace Go.Proofs.Yticdcdahehodkaa
set_option linter.unusedVariables false
set_option linter.unusedSimpArgs false
open Go.RowKit

theorem rspl_any (a : Option Addr) (n cap : Nat) (Z : Nat → Int) (T : Int) (w : World) (hF : ∀ i, F64 (Z i)) (hA : Ints w a n Z) (hT : F64 T) : RSplC a n cap Z T w := by
  by_cases h1 : 1000 < n
  · exact rspl_long a n cap Z T w h1
  · by_cases h2 : T < 0 ∨ ∃ i, i < n ∧ Z i < 0
    · exact rspl_neg a n cap Z T w (by omega) hA h2
    · have hT0 : 0 ≤ T := by
        apply Classical.byContradiction; intro h; exact h2 (.inl (by omega))
      have hP : ∀ i, i < n → 0 ≤ Z i := fun i hi => by
        apply Classical.byContradiction; intro h; exact h2 (.inr ⟨i, hi, by omega⟩)
      cases h3 : fitB (sumZ Z n)
      · exact rspl_few a n cap Z T w (by omega) hF hA hT0 hP (.inl h3)
      · by_cases h4 : T = 0
        · exact rspl_few a n cap Z T w (by omega) hF hA hT0 hP (.inr (.inl h4))
        · by_cases h5 : sumZ Z n = 0
          · exact rspl_few a n cap Z T w (by omega) hF hA hT0 hP (.inr (.inr h5))
          · have hs := wts_sum n hP
            exact rspl_main a n cap Z T w (by omega) hF hA hT (by omega) hP (by omega) h3
end Go.Proofs.Yticdcdahehodkaa
/-! Rows of whatever width appended behind an empty row of one's own. No condition. -/
namespace Go.Proofs.Yticdcdahehodkaa
set_option linter.unusedVariables false
set_option linter.unusedSimpArgs false
open Go.RowKit

theorem own_emptyT (W : World) (e : TypeId) (c : Nat) : (W.alloc (.cells #[] e)).ownsRow W.heap.size e c (.slice (some ⟨W.heap.size, 0, none⟩) 0 0) 0 [] :=
  ⟨by simp, .inr ⟨W.heap.size, 0, #[], rfl, Nat.le_refl _, heap_alloc_new _ _, Nat.le_refl _, by unfold maxLen; omega, by simp, by simp⟩⟩
/-- 'append(own, rows...)', the own one empty -/
theorem wpList_append_rowsC {ops : Array Oper} {rest : List Oper} {o : Oper} {a : Act} {w : World} {Q : Exit → Act → World → Prop} {E S : TypeId} {c : Nat} (hgd : o.guard = none) (s x : Operand)
    (ho : o.op = .call { callee := .builtin .append, args := #[s, x], argTypes := #[S, S] }) (hS : Try.prog.underlying S = some (.slice E))
    (hi : ∃ i z, Try.prog.info? E = some i ∧ i.zero = some z ∧ i.size = c ∧ i.bytes ≤ 1000 ∧ z.cells.size = c) (hc : 0 < c) (hc2 : c ≤ 1000)
    (base : Nat) (v : Value) (hs : a.eval s = v) (hown : w.ownsRow base E c v 0 [])
    (ad : Option Addr) (m cp : Nat) (L : Nat → Array Value) (hL : ∀ i, (L i).size = c) (hLa : ∀ i, (L i).all (·.oneCell') = true) (hx : a.eval x = .slice ad m cp) (hl : RowsC w c ad m L) (hnil : ad = none → m = 0 ∧ cp = 0)
    (hm : m ≤ 100000) (hbase : base ≤ w.heap.size)
    (h : ∀ v' w', w'.ownsRow base E c v' m (flat L m) → w.grownBy w' v.ownBlock → wpList Try.prog ops Q rest (a.put o.dst v') w') : wpList Try.prog ops Q (o :: rest) a w := by
  obtain ⟨i, z, h1, h2, h3, h4, h5⟩ := hi
  cases ad with
  | none =>
    obtain ⟨rfl, rfl⟩ := hnil rfl
    refine wpList_append_own_none hgd s x _ ho base _ i c hS h1 v 0 [] hs hown hx ?_
    exact h v w hown ⟨rfl, rfl, rfl, Nat.le_refl _, fun _ _ _ => rfl⟩
  | some ad =>
    have hmc : m * c ≤ 100000 * 1000 := Nat.mul_le_mul hm hc2
    refine wpList_append_own w hgd s x _ ho base _ i z c i.bytes hS h1 h2 h3 rfl h5 hc v 0 [] hs hown ad m cp (flat L m) hx (flatc_len hL m) (rows_at hc hL (fun i hi => by obtain ⟨g, off, A, t, fr, r⟩ := hl i hi; exact ⟨g, off, A, t, fr, r⟩)) (flatc_one hLa m) (by unfold maxLen; omega) ?_ hbase ?_
    · have := Nat.mul_le_mul (show 0 + m ≤ 100000 by omega) h4
      omega
    · intro v' w' h6 h7 _
      rw [Nat.zero_add, List.nil_append] at h6
      exact h v' w' h6 h7
end Go.Proofs.Yticdcdahehodkaa
/-! The document's Settle, plainly; rows side by side. No condition. -/
namespace Go.Proofs.Yticdcdahehodkaa
set_option linter.unusedVariables false
set_option linter.unusedSimpArgs false
open Go.RowKit

/-- what was won, or nothing -/
def mxV (V : Nat → Int) : Nat → Int := fun i => max (V i) 0
theorem wts_mx (V : Nat → Int) : wts (mxV V) = wts V := by
  funext i; unfold wts mxV; omega
theorem mx_split {A C V : Nat → Int} {n : Nat} {T : Int} (h : dmay A C V n = true) (hn : n ≤ 64) (hs : sumZ V n = 0) (hT : 0 ≤ T) (hT2 : T ≤ miss C V n) : splE (mxV V) n T = 0 := by
  have h1 := miss_won h n (Nat.le_refl _)
  have h2 := wts_sum (Z := mxV V) n (fun i _ => by unfold mxV; omega)
  rw [wts_mx] at h2
  unfold splE
  rw [if_neg (by omega), if_neg (fun h3 => ?_), (fit_yes (v := sumZ (mxV V) n) (by omega)).1, if_neg (by simp)]
  · by_cases h0 : T = 0
    · rw [if_pos h0]
    · rw [if_neg h0, if_neg (by omega)]
  · rcases h3 with h3 | ⟨i, _, h3⟩
    · omega
    · unfold mxV at h3; omega
theorem mx_part (V : Nat → Int) (n : Nat) (T : Int) (i : Nat) : splP (mxV V) n T i = prt (wts V) n T.toNat i := by
  unfold splP; rw [wts_mx]
/-- two rows of one's own, of two types -/
structure O2 (w wr : World) (e1 : TypeId) (c1 : Nat) (v1 : Value) (n1 : Nat) (l1 : List Value) (e2 : TypeId) (c2 : Nat) (v2 : Value) (n2 : Nat) (l2 : List Value) : Prop where
  be : Below w.heap.size w wr
  p : wr.ownsRow w.heap.size e1 c1 v1 n1 l1
  r : wr.ownsRow w.heap.size e2 c2 v2 n2 l2
section
variable {w wr w' : World} {e1 e2 : TypeId} {c1 c2 n1 n2 m : Nat} {v1 v2 v : Value} {l1 l2 l : List Value} {X : Obj}
theorem O2.after (h : O2 w wr e1 c1 v1 n1 l1 e2 c2 v2 n2 l2) (hb : Below wr.heap.size wr w') : O2 w w' e1 c1 v1 n1 l1 e2 c2 v2 n2 l2 := ⟨below_then h.be hb, own_below hb h.p, own_below hb h.r⟩
theorem O2.app1 (h : O2 w wr e1 c1 v1 n1 l1 e2 c2 v2 n2 l2) (hne : e1 ≠ e2) (ho : w'.ownsRow w.heap.size e1 c1 v m l) (hg : (wr.alloc X).grownBy w' v1.ownBlock) :
    O2 w w' e1 c1 v m l e2 c2 v2 n2 l2 ∧ ∀ (g : Nat) (A : Array Value) (e : TypeId), e ≠ e1 → wr.heap[g]? = some (.cells A e (0, 0)) → w'.heap[g]? = some (.cells A e (0, 0)) := by
  have hz := h.be.size
  refine ⟨⟨(below_alloc h.be X).grown hg (by simp; omega) (fun q hq => (h.p.lt q hq).1), ho, (h.r.alloc X).kept hg (own_diff h.r h.p (Ne.symm hne))⟩, fun g A e hee hA => ?_⟩
  have hlt := (Array.getElem?_eq_some_iff.1 hA).1
  rw [hg.block g (by simp; omega) (fun e => ?_)]
  · exact heap_up hA
  · obtain ⟨B, f, hb⟩ := own_tag h.p g e.symm
    rw [hA] at hb
    injection hb with hb
    injection hb with _ hb
    exact absurd hb hee
theorem O2.app2 (h : O2 w wr e1 c1 v1 n1 l1 e2 c2 v2 n2 l2) (hne : e1 ≠ e2) (ho : w'.ownsRow w.heap.size e2 c2 v m l) (hg : (wr.alloc X).grownBy w' v2.ownBlock) :
    O2 w w' e1 c1 v1 n1 l1 e2 c2 v m l := by
  have hz := h.be.size
  exact ⟨(below_alloc h.be X).grown hg (by simp; omega) (fun q hq => (h.r.lt q hq).1), (h.p.alloc X).kept hg (own_diff h.p h.r hne), ho⟩
end
theorem info_set : ∃ i z, Try.prog.info? 43 = some i ∧ i.zero = some z ∧ i.size = 4 ∧ i.bytes ≤ 1000 ∧ z.cells.size = 4 := by
  have h : (Try.prog.info? 43).map (fun i => (i.size, decide (i.bytes ≤ 1000), i.zero.map (·.cells.size))) = some (4, true, some 4) := by kernel_rfl
  cases hi : Try.prog.info? 43 with
  | none => simp [hi] at h
  | some i =>
    simp [hi] at h
    obtain ⟨h1, h2, z, h3, h4⟩ := h
    exact ⟨i, z, rfl, h3, h1, h2, h4⟩
/-- the row of those settled, written in place -/
structure OR (w wr : World) (g n : Nat) (a c : Nat → Int) (d : Nat → Bool) (u : Nat → Int) : Prop where
  be : Below w.heap.size w wr
  lo : w.heap.size ≤ g
  row : ∃ G, wr.heap[g]? = some (.cells G 43 (0, 0)) ∧ n * 4 ≤ G.size ∧ ∀ i, i < n → G[i * 4]? = some (.int .u32 (a i)) ∧ G[i * 4 + 1]? = some (.int .i64 (c i)) ∧ G[i * 4 + 2]? = some (.bool (d i)) ∧ G[i * 4 + 3]? = some (.int .i64 (u i))
section
variable {w wr w' : World} {g n i : Nat} {a c : Nat → Int} {d : Nat → Bool} {u : Nat → Int}
theorem OR.after (h : OR w wr g n a c d u) (hb : Below wr.heap.size wr w') : OR w w' g n a c d u := by
  obtain ⟨G, h1, h2⟩ := h.row; exact ⟨below_then h.be hb, h.lo, G, Yticdcdahehodkaa.kept hb h1, h2⟩
theorem OR.setc (h : OR w wr g n a c d u) (hi : i < n) (x : Int) : OR w (wr.setCell ⟨g, i * 4 + 1, none⟩ (.int .i64 x)) g n a (put c i x) d u := by
  obtain ⟨G, h1, h2, h3⟩ := h.row
  refine ⟨below_set h.be h.lo, h.lo, _, heap_set h1, by simpa using h2, fun k hk => ?_⟩
  obtain ⟨e0, e1, e2, e3⟩ := h3 k hk
  refine ⟨by rw [Array.getElem?_setIfInBounds_ne (by omega)]; exact e0, ?_, by rw [Array.getElem?_setIfInBounds_ne (by omega)]; exact e2, by rw [Array.getElem?_setIfInBounds_ne (by omega)]; exact e3⟩
  by_cases e : k = i
  · subst e; rw [Array.getElem?_setIfInBounds_self_of_lt (by omega), put_at]
  · rw [Array.getElem?_setIfInBounds_ne (by omega), put_ne _ _ e]; exact e1
theorem OR.setu (h : OR w wr g n a c d u) (hi : i < n) (x : Int) : OR w (wr.setCell ⟨g, i * 4 + 3, none⟩ (.int .i64 x)) g n a c d (put u i x) := by
  obtain ⟨G, h1, h2, h3⟩ := h.row
  refine ⟨below_set h.be h.lo, h.lo, _, heap_set h1, by simpa using h2, fun k hk => ?_⟩
  obtain ⟨e0, e1, e2, e3⟩ := h3 k hk
  refine ⟨by rw [Array.getElem?_setIfInBounds_ne (by omega)]; exact e0, by rw [Array.getElem?_setIfInBounds_ne (by omega)]; exact e1, by rw [Array.getElem?_setIfInBounds_ne (by omega)]; exact e2, ?_⟩
  by_cases e : k = i
  · subst e; rw [Array.getElem?_setIfInBounds_self_of_lt (by omega), put_at]
  · rw [Array.getElem?_setIfInBounds_ne (by omega), put_ne _ _ e]; exact e3
theorem OR.congr {a' c' : Nat → Int} {d' : Nat → Bool} {u' : Nat → Int} (h : OR w wr g n a c d u) (ea : ∀ i, i < n → a' i = a i) (ec : ∀ i, i < n → c' i = c i) (ed : ∀ i, i < n → d' i = d i) (eu : ∀ i, i < n → u' i = u i) : OR w wr g n a' c' d' u' := by
  obtain ⟨G, h1, h2, h3⟩ := h.row
  exact ⟨h.be, h.lo, G, h1, h2, fun i hi => by rw [ea i hi, ec i hi, ed i hi, eu i hi]; exact h3 i hi⟩
theorem rows_sA {G : Array Value} {t : TypeId} {fr : Nat × Nat} (h1 : wr.heap[g]? = some (.cells G t fr)) (h2 : n * 4 ≤ G.size) (h3 : ∀ i, i < n → G[i * 4]? = some (.int .u32 (a i)) ∧ G[i * 4 + 1]? = some (.int .i64 (c i)) ∧ G[i * 4 + 2]? = some (.bool (d i)) ∧ G[i * 4 + 3]? = some (.int .i64 (u i))) :
    RowsC wr 4 (some ⟨g, 0, none⟩) n (fun i => sA (a i) (c i) (d i) (u i)) := fun i hi => by
  obtain ⟨e0, e1, e2, e3⟩ := h3 i hi
  refine ⟨g, 0, G, t, fr, rfl, h1, by omega, ?_⟩
  apply Array.ext_getElem?
  intro j
  rw [Array.getElem?_extract]
  by_cases hj : j < 4
  · rw [if_pos (by omega), Nat.zero_add]
    have : j = 0 ∨ j = 1 ∨ j = 2 ∨ j = 3 := by omega
    rcases this with rfl | rfl | rfl | rfl
    · rw [Nat.add_zero, e0]; rfl
    · rw [e1]; rfl
    · rw [e2]; rfl
    · rw [e3]; rfl
  · rw [if_neg (by omega), Array.getElem?_eq_none_iff.2 (by rw [sA_size]; omega)]
theorem OR.rows (h : OR w wr g n a c d u) : RowsC wr 4 (some ⟨g, 0, none⟩) n (fun i => sA (a i) (c i) (d i) (u i)) := by
  obtain ⟨G, h1, h2, h3⟩ := h.row
  exact rows_sA h1 h2 h3
theorem OW.rows (h : OW wr g n a c d u) : RowsC wr 4 (some ⟨g, 0, none⟩) n (fun i => sA (a i) (c i) (d i) (u i)) := by
  obtain ⟨G, h1, h2, h3⟩ := h.row
  exact rows_sA h1 (by omega) h3
theorem OR.start {v : Value} (hn : 0 < n) (hb : Below w.heap.size w wr) (h : wr.ownsRow w.heap.size 43 4 v n (flat (fun i => sA (a i) (c i) (d i) (u i)) n)) : ∃ g cap, v = .slice (some ⟨g, 0, none⟩) n cap ∧ n ≤ cap ∧ OR w wr g n a c d u := by
  obtain ⟨g, cap, G, h1, h2, h3, h4, h5, h6⟩ := own_flat (L := fun i => sA (a i) (c i) (d i) (u i)) (c := 4) (fun i => rfl) hn h
  refine ⟨g, cap, h1, h4, hb, h2, G, h3, h5, fun i hi => ?_⟩
  have e := h6 i hi
  have hle : i * 4 + 4 ≤ n * 4 := by omega
  have q : ∀ j, j < 4 → G[i * 4 + j]? = (sA (a i) (c i) (d i) (u i))[j]? := fun j hj => by
    rw [← e, Array.getElem?_extract, if_pos (by omega)]
  exact ⟨q 0 (by omega), q 1 (by omega), q 2 (by omega), q 3 (by omega)⟩
end

set_option maxRecDepth 100000 in
set_option maxHeartbeats 2000000 in
/-- two rows of those settled alike, wherever they lie -/
theorem same13_x (a1 a2 : Option Addr) (n ca cb : Nat) (a c : Nat → Int) (d : Nat → Bool) (u : Nat → Int) (w : World) (hb : ∀ i, i < n → (0 ≤ a i ∧ a i ≤ 4294967295) ∧ F64 (c i) ∧ F64 (u i)) (hA : RowsC w 4 a1 n (fun i => sA (a i) (c i) (d i) (u i))) (hB : RowsC w 4 a2 n (fun i => sA (a i) (c i) (d i) (u i))) (hn : n ≤ 100000) :
    Calls Try.prog 18 #[.slice a1 n ca, .slice a2 n cb] w fun e w' => e = .returned (.bool true) ∧ Below w.heap.size w w' := by
  have HA := Lib.hid hA
  have HB := Lib.hid hB
  have HD := Lib.hid hb
  clear hA hB hb
  go_enter Try.func18, Try.ntmps18
  go_wp2
  go_loopg [5] n (fun gh i wr => ∃ k : Nat, k ≤ n ∧ gh = n - k ∧ i = .int .i64 k ∧ Below w.heap.size w wr)
  case atStart => exact ⟨0, by omega, by omega, rfl, Below.refl _ _⟩
  case round =>
    obtain ⟨k, hk, rfl, rfl, hb⟩ := hrel
    by_cases hlt : k < n
    · obtain ⟨g, off, B, t, fr, rfl, hg, hs, he⟩ := (HA.out.kept hb) k hlt
      obtain ⟨g2, off2, B2, t2, fr2, rfl, hg2, hs2, he2⟩ := (HB.out.kept hb) k hlt
      have hki : (k : Int) < n := by omega
      have hne := neq_set (a k) (c k) (d k) (u k) (HD.out k hlt).1 (HD.out k hlt).2.1 (HD.out k hlt).2.2
      change _ = sA (a k) (c k) (d k) (u k) at he
      change _ = sA (a k) (c k) (d k) (u k) at he2
      generalize sA (a k) (c k) (d k) (u k) = X at *
      go_wp2
      refine wp_region_below (by kernel_rfl) (by kernel_rfl) ?_
      repeat (first | ((with_reducible apply q_skip); (case hw => rfl); (try simp only [Act.put, List.setIfInBounds_toArray, List.set_cons_zero, List.set_cons_succ])) | ((with_reducible refine at_qload 43 ?_); refine q_load_fr (by rfl) 43 _ rfl (g) (off + k * 4) rfl _ (B) _ _ 4 (hg) Try.underlying43 rfl (by kernel_rfl) (hs) (X) (he) ?_; try simp only [Act.put, List.setIfInBounds_toArray, List.set_cons_zero, List.set_cons_succ]) | ((with_reducible refine at_qload 43 ?_); refine q_load_fr (by rfl) 43 _ rfl (g2) (off2 + k * 4) rfl _ (B2) _ _ 4 (hg2) Try.underlying43 rfl (by kernel_rfl) (hs2) (X) (he2) ?_; try simp only [Act.put, List.setIfInBounds_toArray, List.set_cons_zero, List.set_cons_succ]) | ((with_reducible apply q_val); (case hw => rfl); (case hv => intro wq hbq; go_simp; try rfl); (try simp only [Act.put, List.setIfInBounds_toArray, List.set_cons_zero, List.set_cons_succ])))
      refine q_nil ?_
      intro w4 hb4
      go_wp2
      go_roundg (n - (k + 1))
      case measure => omega
      case rel => exact ⟨k + 1, by omega, rfl, by go_num, below_then hb hb4⟩
    · obtain rfl : k = n := by omega
      go_wp2
      go_ret
      exact ⟨rfl, hb⟩
/-- the document's answer: nothing, and why; or rows -/
def RSetV (fund : Int) (n : Nat) (A C V : Nat → Int) (w' : World) (v : Value) : Prop :=
  (sE fund n A C V = 0 → ∃ a cap, v = .slice a n cap ∧ RowsC w' 4 a n (fun i => sA (A i) (max (C i + V i) 0 - (cutN fund n C V i : Nat)) (decide (C i + V i < 0)) (cutN fund n C V i : Nat))) ∧ (sE fund n A C V ≠ 0 → v = .slice none 0 0)
def RSetC (fund : Int) (a : Option Addr) (n cap : Nat) (A C V : Nat → Int) (w : World) : Prop :=
  Calls Try.prog 17 #[.int .i64 fund, .slice a n cap] w fun e w' => (∃ v, e = .returned (.tuple #[v, .int .i64 (sF fund n A C V), .int .i64 (sE fund n A C V)]) ∧ RSetV fund n A C V w' v) ∧ Below w.heap.size w w'
end Go.Proofs.Yticdcdahehodkaa
