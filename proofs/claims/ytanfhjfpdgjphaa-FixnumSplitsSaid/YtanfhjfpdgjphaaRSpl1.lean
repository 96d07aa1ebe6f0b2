/- The document's Split: no total, no weights, too great a sum. Condition: the numbers fit their kinds. -/
import Derived.Test.YtanfhjfpdgjphaaRSpl0
namespace Go.Proofs.Ytanfhjfpdgjphaa
set_option linter.unusedVariables false
set_option linter.unusedSimpArgs false
open Go.RowKit

set_option maxRecDepth 100000 in
set_option maxHeartbeats 4000000 in
theorem rspl_few (a : Option Addr) (n cap : Nat) (Z : Nat → Int) (T : Int) (w : World) (hn : n ≤ 1000) (hF : ∀ i, F64 (Z i)) (hA : Ints w a n Z) (hT : 0 ≤ T) (hP : ∀ i, i < n → 0 ≤ Z i) (h : fitB (sumZ Z n) = false ∨ T = 0 ∨ sumZ Z n = 0) : RSplC a n cap Z T w := by
  obtain ⟨hx1, hx2, _⟩ := xs_all hF n (by omega)
  have cm := rlist_any a n cap Z w hF hA (by omega)
  have ci := fun w => int_any (xs Z n).1 (xs Z n).2 w hx1
  have cz := fun w => zero_any (xs Z n).1 (xs Z n).2 w hx1
  have hzz : decide (lv (xs Z n).2 12 = 0) = decide (sumZ Z n = 0) := by
    unfold sv at hx2
    rw [decide_eq_decide]
    split at hx2 <;> omega
  rw [hx2, show nm (xs Z n).1 (xs Z n).2 = xn Z n from rfl] at ci
  rw [hzz, show nm (xs Z n).1 (xs Z n).2 = xn Z n from rfl] at cz
  have hXs : (xn Z n).size = 13 := nm_size hx1.size
  have hXa : (xn Z n).all (·.oneCell') = true := nm_all hx1
  have HNO := Lib.hid (show ¬ (T < 0 ∨ ∃ i, i < n ∧ Z i < 0) from fun h => h.elim (by omega) (fun ⟨i, h1, h2⟩ => by have := hP i h1; omega))
  have HE6 := Lib.hid (show fitB (sumZ Z n) = false → splE Z n T = 6 from fun hb => by unfold splE; rw [if_neg (by omega), if_neg HNO.out, if_pos hb])
  have HE0 := Lib.hid (show fitB (sumZ Z n) = true → T = 0 → splE Z n T = 0 from fun hb h0 => by unfold splE; rw [if_neg (by omega), if_neg HNO.out, if_neg (by rw [hb]; simp), if_pos h0])
  have HE10 := Lib.hid (show fitB (sumZ Z n) = true → T ≠ 0 → sumZ Z n = 0 → splE Z n T = 10 from fun hb h0 hs => by unfold splE; rw [if_neg (by omega), if_neg HNO.out, if_neg (by rw [hb]; simp), if_neg h0, if_pos hs])
  generalize xn Z n = X at *
  generalize sumZ Z n = S at *
  have HXS := Lib.hid hXs
  have HXE := Lib.hid (extract_all hXs)
  have HXA := Lib.hid hXa
  have HH := Lib.hid h
  have HA := Lib.hid hA
  have HP := Lib.hid hP
  have HZs := Lib.hid (show (nm false z12).size = 13 from nm_size z12_D.size)
  clear hx1 hx2 hzz hXs hXa h hA hP hF
  generalize hZ0 : nm false z12 = Z0 at *
  have HZ0 := Lib.hid hZ0
  clear hZ0
  unfold RSplC
  have hni : ¬ (1000 : Int) < n := by omega
  have hTn : ¬ T < 0 := by omega
  go_enter Try.func30, Try.ntmps30
  go_wp2
  go_loopg [6] n (fun gh v6 wr => ∃ k : Nat, k ≤ n ∧ gh = n - k ∧ v6 = .int .i64 k ∧ w = wr)
  case atStart => exact ⟨0, by omega, by omega, rfl, rfl⟩
  case round =>
    obtain ⟨k, hk, rfl, rfl, rfl⟩ := hrel
    by_cases hlt : k < n
    · have hki : (k : Int) < n := by omega
      obtain ⟨g, off, B, t, fr, rfl, hg, hz⟩ := HA.out k hlt
      have cg := cellF hg
      have hz0 : ¬ Z k < 0 := by have := HP.out k hlt; omega
      generalize Z k = z at *
      clear cm ci cz
      go_wp2
      go_roundg (n - (k + 1))
      case measure => omega
      case rel => exact ⟨k + 1, by omega, rfl, by go_num, rfl⟩
    · obtain rfl : k = n := by omega
      cases hfit : fitB S
      · have H6 := Lib.hid (HE6.out hfit)
        rw [hfit] at ci
        clear hfit cz
        go_wp2_with (first | (go_at_call 41; (with_reducible refine (cm).mono ?_); rintro e w1 ⟨rfl, hb1⟩) | ((with_reducible refine at_alloc 47 ?_); refine wpList_alloc_named rfl 47 rfl Z0 (by rw [← HZ0.out]; kernel_rfl) ?_) | ((with_reducible refine at_store 47 ?_); refine wpList_store_new rfl 47 _ _ rfl X _ _ _ rfl (by simp) rfl (by rw [HXS.out]; kernel_rfl) (by rw [HXS.out]; exact HZs.out) HXA.out ?_) | ((with_reducible refine at_load 47 ?_); refine wpList_load_part rfl 47 _ rfl (w1.heap.size) (0) rfl _ (X) _ _ 13 (heap_alloc_new _ _) Try.underlying47 rfl (by kernel_rfl) (by rw [HXS.out]; omega) (X) (HXE.out) ?_) | (go_at_call 46; (with_reducible refine (ci _).mono ?_); rintro e w2 ⟨rfl, hb2⟩))
        go_ret2
        exact ⟨⟨.slice none 0 0, by rw [H6.out]; rfl, fun h => by rw [H6.out] at h; omega, fun _ => rfl⟩, below_then (below_alloc hb1 _) hb2⟩
      · have HFT := Lib.hid hfit
        rw [hfit] at ci
        clear hfit
        by_cases hT0 : T = 0
        · have H0 := Lib.hid (HE0.out HFT.out hT0)
          subst hT0
          clear cz
          go_wp2_with (first | (go_at_call 41; (with_reducible refine (cm).mono ?_); rintro e w1 ⟨rfl, hb1⟩) | ((with_reducible refine at_alloc 47 ?_); refine wpList_alloc_named rfl 47 rfl Z0 (by rw [← HZ0.out]; kernel_rfl) ?_) | ((with_reducible refine at_store 47 ?_); refine wpList_store_new rfl 47 _ _ rfl X _ _ _ rfl (by simp) rfl (by rw [HXS.out]; kernel_rfl) (by rw [HXS.out]; exact HZs.out) HXA.out ?_) | ((with_reducible refine at_load 47 ?_); refine wpList_load_part rfl 47 _ rfl (w1.heap.size) (0) rfl _ (X) _ _ 13 (heap_alloc_new _ _) Try.underlying47 rfl (by kernel_rfl) (by rw [HXS.out]; omega) (X) (HXE.out) ?_) | (go_at_call 46; (with_reducible refine (ci _).mono ?_); rintro e w2 ⟨rfl, hb2⟩))
          have HB := Lib.hid (below_then (below_alloc hb1 (.cells X 47)) hb2)
          clear hb1 hb2 cm ci
          go_loopg [10, 12, 13] k (fun gh v10 v12 v13 wr => ∃ j : Nat, j ≤ k ∧ gh = k - j ∧ v13 = .int .i64 j ∧ v12 = .int .i64 0 ∧ wr.ownsRow w.heap.size 2 1 v10 j (zl (fun _ => 0) j) ∧ Below w.heap.size w wr)
          case atStart => exact ⟨0, by omega, by omega, rfl, rfl, World.ownsRow_nil _ _ _ _, HB.out⟩
          case round =>
            obtain ⟨j, hj, rfl, rfl, rfl, hown, hbx⟩ := hrel
            have HO := Lib.hid hown
            have HX := Lib.hid hbx
            clear hown hbx
            by_cases hlt : j < k
            · have hki : (j : Int) < k := by omega
              have HSN := Lib.hid (zl_snoc (fun _ => 0) j)
              go_wp2_with (first | ((with_reducible refine at_append 30 ?_); refine wpList_append_ints rfl _ _ rfl w.heap.size u10 j (zl (fun _ => 0) j) rfl (HO.out.alloc _) (some ⟨wr.heap.size, 0, none⟩) 1 1 (fun _ => 0) rfl (fun i hi => ⟨wr.heap.size, 0, #[.int .i64 0], _, _, rfl, heap_alloc_new _ _, by obtain rfl : i = 0 := (by omega); rfl⟩) (fun h => by cases h) (by omega) (by have := HX.out.size; simp; omega) ?_; intro v1 w3 hown3 hgr3; have HB3 := Lib.hid ((below_alloc HX.out _).grown hgr3 (by have := HX.out.size; simp; omega) (fun p hp => (HO.out.lt p hp).1)); replace hown3 := Lib.hid hown3; clear hgr3))
              go_roundg (k - (j + 1))
              case measure => omega
              case rel => exact ⟨j + 1, by omega, rfl, by go_num, rfl, by rw [← HSN.out]; exact hown3.out, HB3.out⟩
            · obtain rfl : j = k := by omega
              go_wp2
              go_loopg [12] 0 (fun gh v12 wx => v12 = .int .i64 0 ∧ wx = wr)
              case atStart => exact ⟨rfl, rfl⟩
              case round =>
                obtain ⟨rfl, rfl⟩ := hrel
                go_wp2
                go_ret2
                exact ⟨⟨u10, by rw [H0.out]; rfl, fun _ => by
                  rw [show (fun i => ((splP Z j 0 i : Nat) : Int)) = fun _ => 0 from funext fun i => by rw [show splP Z j 0 i = 0 from prt_zero _ _ _]; rfl]
                  exact HO.out, fun h => absurd H0.out h⟩, HX.out⟩
        · have hS0 : S = 0 := by
            rcases HH.out with h | h | h
            · rw [HFT.out] at h; cases h
            · exact absurd h hT0
            · exact h
          have H10 := Lib.hid (HE10.out HFT.out hT0 hS0)
          rw [decide_eq_true hS0] at cz
          subst hS0
          have hTp : 0 < T := by omega
          go_wp2_with (first | (go_at_call 41; (with_reducible refine (cm).mono ?_); rintro e w1 ⟨rfl, hb1⟩) | ((with_reducible refine at_alloc 47 ?_); refine wpList_alloc_named rfl 47 rfl Z0 (by rw [← HZ0.out]; kernel_rfl) ?_) | ((with_reducible refine at_store 47 ?_); refine wpList_store_new rfl 47 _ _ rfl X _ _ _ rfl (by simp) rfl (by rw [HXS.out]; kernel_rfl) (by rw [HXS.out]; exact HZs.out) HXA.out ?_) | ((with_reducible refine at_load 47 ?_); refine wpList_load_part rfl 47 _ rfl (w1.heap.size) (0) rfl _ (X) _ _ 13 (heap_alloc_new _ _) Try.underlying47 rfl (by kernel_rfl) (by rw [HXS.out]; omega) (X) (HXE.out) ?_) | (go_at_call 46; (with_reducible refine (ci _).mono ?_); rintro e w2 ⟨rfl, hb2⟩))
          have HB := Lib.hid (below_then (below_alloc hb1 (.cells X 47)) hb2)
          have hgX := Ytanfhjfpdgjphaa.kept hb2 (heap_alloc_new w1 (.cells X 47))
          clear hb1 hb2 cm ci
          go_loopg [13] 0 (fun gh v13 wr => v13 = .int .i64 0 ∧ wr = w2)
          case atStart => exact ⟨rfl, rfl⟩
          case round =>
            obtain ⟨rfl, rfl⟩ := hrel
            by_cases hlt : 0 < k
            · have hki : (0 : Int) < k := by omega
              go_wp2_with (first | ((with_reducible refine at_load 47 ?_); refine wpList_load_part rfl 47 _ rfl (w1.heap.size) (0) rfl _ (X) _ _ 13 (hgX) Try.underlying47 rfl (by kernel_rfl) (by rw [HXS.out]; omega) (X) (HXE.out) ?_) | (go_at_call 47; (with_reducible refine (cz _).mono ?_); rintro e w3 ⟨rfl, hb3⟩))
              go_ret2
              exact ⟨⟨.slice none 0 0, by rw [H10.out]; rfl, fun h => by rw [H10.out] at h; omega, fun _ => rfl⟩, below_then HB.out hb3⟩
            · obtain rfl : k = 0 := by omega
              go_wp2_with (first | ((with_reducible refine at_load 47 ?_); refine wpList_load_part rfl 47 _ rfl (w1.heap.size) (0) rfl _ (X) _ _ 13 (hgX) Try.underlying47 rfl (by kernel_rfl) (by rw [HXS.out]; omega) (X) (HXE.out) ?_) | (go_at_call 47; (with_reducible refine (cz _).mono ?_); rintro e w3 ⟨rfl, hb3⟩))
              go_ret2
              exact ⟨⟨.slice none 0 0, by rw [H10.out]; rfl, fun h => by rw [H10.out] at h; omega, fun _ => rfl⟩, below_then HB.out hb3⟩
end Go.Proofs.Ytanfhjfpdgjphaa
