/- Texts that Settles13Law stands on, one behind the other, part 12. Conditions: each theorem names its own. -/
import Derived.Test.YticdcdahehodkaaMgSettles13Law11
/-! The document's Split: no total, no weights, too great a sum. Condition: the numbers fit their kinds. -/
namespace Go.Proofs.Yticdcdahehodkaa
set_option linter.unusedVariables false
set_option linter.unusedSimpArgs false
open Go.RowKit

set_option maxRecDepth 100000 in
set_option maxHeartbeats 4000000 in
theorem rspl_few (a : Option Addr) (n cap : Nat) (Z : Nat → Int) (T : Int) (w : World) (hn : n ≤ 1000) (hF : ∀ i, F64 (Z i)) (hA : Ints w a n Z) (hT : 0 ≤ T) (hP : ∀ i, i < n → 0 ≤ Z i) (h : fitB (sumZ Z n) = false ∨ T = 0 ∨ sumZ Z n = 0) : RSplC a n cap Z T w := by
  obtain ⟨hx1, hx2, _⟩ := xs_all hF n (by omega)
  have cm := rlist_any a n cap Z w hF hA (by omega)
  have ci := fun w => int_any (xs Z n).1 (xs Z n).2 w hx1
  have cz := fun w => zero_any (xs Z n).1 (xs Z n).2 w hx1
  have hzz : decide (lv (xs Z n).2 12 = 0) = decide (sumZ Z n = 0) := by
    unfold sv at hx2
    rw [decide_eq_decide]
    split at hx2 <;> omega
  rw [hx2, show nm (xs Z n).1 (xs Z n).2 = xn Z n from rfl] at ci
  rw [hzz, show nm (xs Z n).1 (xs Z n).2 = xn Z n from rfl] at cz
  have hXs : (xn Z n).size = 13 := nm_size hx1.size
  have hXa : (xn Z n).all (·.oneCell') = true := nm_all hx1
  have HNO := Lib.hid (show ¬ (T < 0 ∨ ∃ i, i < n ∧ Z i < 0) from fun h => h.elim (by omega) (fun ⟨i, h1, h2⟩ => by have := hP i h1; omega))
  have HE6 := Lib.hid (show fitB (sumZ Z n) = false → splE Z n T = 6 from fun hb => by unfold splE; rw [if_neg (by omega), if_neg HNO.out, if_pos hb])
  have HE0 := Lib.hid (show fitB (sumZ Z n) = true → T = 0 → splE Z n T = 0 from fun hb h0 => by unfold splE; rw [if_neg (by omega), if_neg HNO.out, if_neg (by rw [hb]; simp), if_pos h0])
  have HE10 := Lib.hid (show fitB (sumZ Z n) = true → T ≠ 0 → sumZ Z n = 0 → splE Z n T = 10 from fun hb h0 hs => by unfold splE; rw [if_neg (by omega), if_neg HNO.out, if_neg (by rw [hb]; simp), if_neg h0, if_pos hs])
  generalize xn Z n = X at *
  generalize sumZ Z n = S at *
  have HXS := Lib.hid hXs
  have HXE := Lib.hid (extract_all hXs)
  have HXA := Lib.hid hXa
  have HH := Lib.hid h
  have HA := Lib.hid hA
  have HP := Lib.hid hP
  have HZs := Lib.hid (show (nm false z12).size = 13 from nm_size z12_D.size)
  clear hx1 hx2 hzz hXs hXa h hA hP hF
  generalize hZ0 : nm false z12 = Z0 at *
  have HZ0 := Lib.hid hZ0
  clear hZ0
  unfold RSplC
  have hni : ¬ (1000 : Int) < n := by omega
  have hTn : ¬ T < 0 := by omega
  go_enter Try.func24, Try.ntmps24
  go_wp2
  go_loopg [6] n (fun gh v6 wr => ∃ k : Nat, k ≤ n ∧ gh = n - k ∧ v6 = .int .i64 k ∧ w = wr)
  case atStart => exact ⟨0, by omega, by omega, rfl, rfl⟩
  case round =>
    obtain ⟨k, hk, rfl, rfl, rfl⟩ := hrel
    by_cases hlt : k < n
    · have hki : (k : Int) < n := by omega
      obtain ⟨g, off, B, t, fr, rfl, hg, hz⟩ := HA.out k hlt
      have cg := cellF hg
      have hz0 : ¬ Z k < 0 := by have := HP.out k hlt; omega
      generalize Z k = z at *
      clear cm ci cz
      go_wp2
      go_roundg (n - (k + 1))
      case measure => omega
      case rel => exact ⟨k + 1, by omega, rfl, by go_num, rfl⟩
    · obtain rfl : k = n := by omega
      cases hfit : fitB S
      · have H6 := Lib.hid (HE6.out hfit)
        rw [hfit] at ci
        clear hfit cz
        go_wp2_with (first | (go_at_call 37; (with_reducible refine (cm).mono ?_); rintro e w1 ⟨rfl, hb1⟩) | ((with_reducible refine at_alloc 58 ?_); refine wpList_alloc_named rfl 58 rfl Z0 (by rw [← HZ0.out]; kernel_rfl) ?_) | ((with_reducible refine at_store 58 ?_); refine wpList_store_new rfl 58 _ _ rfl X _ _ _ rfl (by simp) rfl (by rw [HXS.out]; kernel_rfl) (by rw [HXS.out]; exact HZs.out) HXA.out ?_) | ((with_reducible refine at_load 58 ?_); refine wpList_load_part rfl 58 _ rfl (w1.heap.size) (0) rfl _ (X) _ _ 13 (heap_alloc_new _ _) Try.underlying58 rfl (by kernel_rfl) (by rw [HXS.out]; omega) (X) (HXE.out) ?_) | (go_at_call 38; (with_reducible refine (ci _).mono ?_); rintro e w2 ⟨rfl, hb2⟩))
        go_ret2
        exact ⟨⟨.slice none 0 0, by rw [H6.out]; rfl, fun h => by rw [H6.out] at h; omega, fun _ => rfl⟩, below_then (below_alloc hb1 _) hb2⟩
      · have HFT := Lib.hid hfit
        rw [hfit] at ci
        clear hfit
        by_cases hT0 : T = 0
        · have H0 := Lib.hid (HE0.out HFT.out hT0)
          subst hT0
          clear cz
          go_wp2_with (first | (go_at_call 37; (with_reducible refine (cm).mono ?_); rintro e w1 ⟨rfl, hb1⟩) | ((with_reducible refine at_alloc 58 ?_); refine wpList_alloc_named rfl 58 rfl Z0 (by rw [← HZ0.out]; kernel_rfl) ?_) | ((with_reducible refine at_store 58 ?_); refine wpList_store_new rfl 58 _ _ rfl X _ _ _ rfl (by simp) rfl (by rw [HXS.out]; kernel_rfl) (by rw [HXS.out]; exact HZs.out) HXA.out ?_) | ((with_reducible refine at_load 58 ?_); refine wpList_load_part rfl 58 _ rfl (w1.heap.size) (0) rfl _ (X) _ _ 13 (heap_alloc_new _ _) Try.underlying58 rfl (by kernel_rfl) (by rw [HXS.out]; omega) (X) (HXE.out) ?_) | (go_at_call 38; (with_reducible refine (ci _).mono ?_); rintro e w2 ⟨rfl, hb2⟩))
          have HB := Lib.hid (below_then (below_alloc hb1 (.cells X 58)) hb2)
          clear hb1 hb2 cm ci
          go_loopg [10, 12, 13] k (fun gh v10 v12 v13 wr => ∃ j : Nat, j ≤ k ∧ gh = k - j ∧ v13 = .int .i64 j ∧ v12 = .int .i64 0 ∧ wr.ownsRow w.heap.size 2 1 v10 j (zl (fun _ => 0) j) ∧ Below w.heap.size w wr)
          case atStart => exact ⟨0, by omega, by omega, rfl, rfl, World.ownsRow_nil _ _ _ _, HB.out⟩
          case round =>
            obtain ⟨j, hj, rfl, rfl, rfl, hown, hbx⟩ := hrel
            have HO := Lib.hid hown
            have HX := Lib.hid hbx
            clear hown hbx
            by_cases hlt : j < k
            · have hki : (j : Int) < k := by omega
              have HSN := Lib.hid (zl_snoc (fun _ => 0) j)
              go_wp2_with (first | ((with_reducible refine at_append 48 ?_); refine wpList_append_ints rfl _ _ rfl w.heap.size u10 j (zl (fun _ => 0) j) rfl (HO.out.alloc _) (some ⟨wr.heap.size, 0, none⟩) 1 1 (fun _ => 0) rfl (fun i hi => ⟨wr.heap.size, 0, #[.int .i64 0], _, _, rfl, heap_alloc_new _ _, by obtain rfl : i = 0 := (by omega); rfl⟩) (fun h => by cases h) (by omega) (by have := HX.out.size; simp; omega) ?_; intro v1 w3 hown3 hgr3; have HB3 := Lib.hid ((below_alloc HX.out _).grown hgr3 (by have := HX.out.size; simp; omega) (fun p hp => (HO.out.lt p hp).1)); replace hown3 := Lib.hid hown3; clear hgr3))
              go_roundg (k - (j + 1))
              case measure => omega
              case rel => exact ⟨j + 1, by omega, rfl, by go_num, rfl, by rw [← HSN.out]; exact hown3.out, HB3.out⟩
            · obtain rfl : j = k := by omega
              go_wp2
              go_loopg [12] 0 (fun gh v12 wx => v12 = .int .i64 0 ∧ wx = wr)
              case atStart => exact ⟨rfl, rfl⟩
              case round =>
                obtain ⟨rfl, rfl⟩ := hrel
                go_wp2
                go_ret2
                exact ⟨⟨u10, by rw [H0.out]; rfl, fun _ => by
                  rw [show (fun i => ((splP Z j 0 i : Nat) : Int)) = fun _ => 0 from funext fun i => by rw [show splP Z j 0 i = 0 from prt_zero _ _ _]; rfl]
                  exact HO.out, fun h => absurd H0.out h⟩, HX.out⟩
        · have hS0 : S = 0 := by
            rcases HH.out with h | h | h
            · rw [HFT.out] at h; cases h
            · exact absurd h hT0
            · exact h
          have H10 := Lib.hid (HE10.out HFT.out hT0 hS0)
          rw [decide_eq_true hS0] at cz
          subst hS0
          have hTp : 0 < T := by omega
          go_wp2_with (first | (go_at_call 37; (with_reducible refine (cm).mono ?_); rintro e w1 ⟨rfl, hb1⟩) | ((with_reducible refine at_alloc 58 ?_); refine wpList_alloc_named rfl 58 rfl Z0 (by rw [← HZ0.out]; kernel_rfl) ?_) | ((with_reducible refine at_store 58 ?_); refine wpList_store_new rfl 58 _ _ rfl X _ _ _ rfl (by simp) rfl (by rw [HXS.out]; kernel_rfl) (by rw [HXS.out]; exact HZs.out) HXA.out ?_) | ((with_reducible refine at_load 58 ?_); refine wpList_load_part rfl 58 _ rfl (w1.heap.size) (0) rfl _ (X) _ _ 13 (heap_alloc_new _ _) Try.underlying58 rfl (by kernel_rfl) (by rw [HXS.out]; omega) (X) (HXE.out) ?_) | (go_at_call 38; (with_reducible refine (ci _).mono ?_); rintro e w2 ⟨rfl, hb2⟩))
          have HB := Lib.hid (below_then (below_alloc hb1 (.cells X 58)) hb2)
          have hgX := Yticdcdahehodkaa.kept hb2 (heap_alloc_new w1 (.cells X 58))
          clear hb1 hb2 cm ci
          go_loopg [13] 0 (fun gh v13 wr => v13 = .int .i64 0 ∧ wr = w2)
          case atStart => exact ⟨rfl, rfl⟩
          case round =>
            obtain ⟨rfl, rfl⟩ := hrel
            by_cases hlt : 0 < k
            · have hki : (0 : Int) < k := by omega
              go_wp2_with (first | ((with_reducible refine at_load 58 ?_); refine wpList_load_part rfl 58 _ rfl (w1.heap.size) (0) rfl _ (X) _ _ 13 (hgX) Try.underlying58 rfl (by kernel_rfl) (by rw [HXS.out]; omega) (X) (HXE.out) ?_) | (go_at_call 29; (with_reducible refine (cz _).mono ?_); rintro e w3 ⟨rfl, hb3⟩))
              go_ret2
              exact ⟨⟨.slice none 0 0, by rw [H10.out]; rfl, fun h => by rw [H10.out] at h; omega, fun _ => rfl⟩, below_then HB.out hb3⟩
            · obtain rfl : k = 0 := by omega
              go_wp2_with (first | ((with_reducible refine at_load 58 ?_); refine wpList_load_part rfl 58 _ rfl (w1.heap.size) (0) rfl _ (X) _ _ 13 (hgX) Try.underlying58 rfl (by kernel_rfl) (by rw [HXS.out]; omega) (X) (HXE.out) ?_) | (go_at_call 29; (with_reducible refine (cz _).mono ?_); rintro e w3 ⟨rfl, hb3⟩))
              go_ret2
              exact ⟨⟨.slice none 0 0, by rw [H10.out]; rfl, fun h => by rw [H10.out] at h; omega, fun _ => rfl⟩, below_then HB.out hb3⟩
end Go.Proofs.Yticdcdahehodkaa
/-! The document's numbers: a size times 2 and a bit; the product digit by digit. Condition: each digit is one. -/
namespace Go.Proofs.Yticdcdahehodkaa
set_option linter.unusedVariables false
set_option linter.unusedSimpArgs false
open Go.RowKit

theorem P16_add (a b : Nat) : P16 (a + b) = P16 a * P16 b := by
  unfold P16
  rw [Nat.pow_add]
  simp
theorem lv_upd {D : Array Value} (hD : IsD D) {j : Nat} {v : Int} (hj : j < 12) : ∀ n, n ≤ 12 → lv (D.setIfInBounds j (.int .u64 v)) n = lv D n + (if j < n then (v - N D j) * P16 j else 0)
  | 0, _ => by simp [lv]
  | n + 1, hn => by
    rw [lv, lv, lv_upd hD hj n (by omega)]
    by_cases e : j = n
    · subst e
      rw [if_neg (by omega), if_pos (by omega), N_seti (by rw [hD.size]; omega)]
      grind
    · rw [N_setj e]
      by_cases h : j < n
      · rw [if_pos h, if_pos (by omega)]; omega
      · rw [if_neg h, if_neg (by omega)]; omega
theorem lv_split (D : Array Value) (m : Nat) : ∀ d, ∃ u : Int, lv D (m + d) = lv D m + P16 m * u
  | 0 => ⟨0, by simp⟩
  | d + 1 => by
    obtain ⟨u, hu⟩ := lv_split D m d
    refine ⟨u + N D (m + d) * P16 d, ?_⟩
    rw [← Nat.add_assoc, lv, hu, P16_add]
    grind

/-! twice a size, and a bit -/
def bc (A : Array Value) (b : Int) : Nat → Int
  | 0 => b
  | k + 1 => (bc A b k + 2 * N A k) / 65536
theorem bc_bd {A : Array Value} (hA : IsD A) {b : Int} (hb : 0 ≤ b ∧ b ≤ 1) : ∀ k, k ≤ 12 → 0 ≤ bc A b k ∧ bc A b k ≤ 1
  | 0, _ => hb
  | k + 1, hk => by
    have ih := bc_bd hA hb k (by omega)
    obtain ⟨_, a1, a2⟩ := hA.c k (by omega)
    rw [bc]
    omega
def sh (A : Array Value) (b : Int) : Nat → Array Value
  | 0 => A
  | k + 1 => (sh A b k).setIfInBounds k (.int .u64 ((bc A b k + 2 * N A k) % 65536))
theorem sh_later (A : Array Value) (b : Int) (i : Nat) : ∀ k, k ≤ i → (sh A b k)[i]? = A[i]?
  | 0, _ => rfl
  | k + 1, hk => by unfold sh; rw [Array.getElem?_setIfInBounds_ne (by omega)]; exact sh_later A b i k (by omega)
theorem sh_Dk {A : Array Value} {b : Int} (hA : IsD A) : ∀ k, IsD (sh A b k)
  | 0 => hA
  | k + 1 => (sh_Dk hA k).set (by omega)
theorem sh_low {A : Array Value} {b : Int} (hA : IsD A) : ∀ k, k ≤ 12 → lv (sh A b k) 12 + bc A b k * P16 k = lv A 12 + lv A k + b
  | 0, _ => by simp [sh, lv, bc, P16]
  | k + 1, hk => by
    have ih := sh_low hA (b := b) k (by omega)
    have e0 : N (sh A b k) k = N A k := by unfold N; rw [sh_later A b k k (Nat.le_refl _)]
    unfold sh
    rw [lv_upd (sh_Dk hA k) (by omega) 12 (by omega), if_pos (by omega), e0, bc, show lv A (k + 1) = lv A k + N A k * P16 k from rfl, P16_s]
    have e : bc A b k + 2 * N A k = (bc A b k + 2 * N A k) % 65536 + 65536 * ((bc A b k + 2 * N A k) / 65536) := by omega
    generalize (bc A b k + 2 * N A k) % 65536 = r at *
    generalize (bc A b k + 2 * N A k) / 65536 = q at *
    grind
theorem sh_val {A : Array Value} {b : Int} (hA : IsD A) (hb : 0 ≤ b ∧ b ≤ 1) (h : 2 * lv A 12 + b < P16 12) : lv (sh A b 12) 12 = 2 * lv A 12 + b := by
  have h1 := sh_low hA (b := b) 12 (by omega)
  have h2 := (lv_bd (sh_Dk (b := b) hA 12) 12 (by omega)).1
  have h3 := bc_bd hA hb 12 (by omega)
  have h4 := P16_pos 12
  have h5 : bc A b 12 = 0 ∨ bc A b 12 = 1 := by omega
  rcases h5 with h5 | h5
  · rw [h5] at h1; omega
  · rw [h5, Int.one_mul] at h1; omega

set_option maxHeartbeats 1000000 in
theorem shifted_any (A : Array Value) (b : Int) (w : World) (hA : IsD A) (hb : 0 ≤ b ∧ b ≤ 1) :
    Calls Try.prog 49 #[.agg A, .int .u64 b] w fun e w' => e = .returned (.agg (sh A b 12)) ∧ Below w.heap.size w w' := by
  have HA := Lib.hid hA
  have HB := Lib.hid hb
  clear hA hb
  go_enter Try.func49, Try.ntmps49
  go_wp2_with (first | ((with_reducible refine at_alloc 56 ?_); refine wpList_alloc_named rfl 56 rfl (z12) (by kernel_rfl) ?_))
  go_loopg [1, 5] 12 (fun gh c i wr => ∃ k : Nat, k ≤ 12 ∧ gh = 12 - k ∧ c = .int .u64 (bc A b k) ∧ i = .int .i64 k ∧ wr.heap[w.heap.size]? = some (.cells (sh A b k) 56 (0, 0)) ∧
    wr.heap[w.heap.size + 1]? = some (.cells z12 56 (0, 0)) ∧ Below w.heap.size w wr)
  case atStart => exact ⟨0, by omega, by omega, rfl, rfl, by repeat (first | exact heap_new (by simp; done) | refine heap_up ?_), by repeat (first | exact heap_new (by simp; done) | refine heap_up ?_), below_alloc (below_new _ _) _⟩
  case round =>
    obtain ⟨k, hk, rfl, rfl, rfl, hgA, hgZ, hb⟩ := hrel
    by_cases hlt : k < 12
    · obtain ⟨a0, a1, a2⟩ := HA.out.c k hlt
      have hcd := bc_bd HA.out HB.out k hk
      have ap := sh_later A b k k (Nat.le_refl _)
      rw [a0] at ap
      have HP := Lib.hid (show sh A b (k + 1) = (sh A b k).setIfInBounds k (.int .u64 ((bc A b k + 2 * N A k) % 65536)) from rfl)
      have HC := Lib.hid (show bc A b (k + 1) = (bc A b k + 2 * N A k) / 65536 from rfl)
      clear a0
      obtain ⟨c4, f4, _⟩ := cells_of hgA
      generalize bc A b k = c at *
      generalize N A k = x at *
      go_wp2
      go_roundg (12 - (k + 1))
      case measure => omega
      case rel => exact ⟨k + 1, by omega, rfl, by rw [HC.out], by go_num, by rw [HP.out]; exact heap_set hgA, heap_set_other hgZ (by omega), set_below hb (Nat.le_refl _)⟩
    · obtain rfl : k = 12 := by omega
      have hD := sh_Dk HA.out (b := b) 12
      have HE := Lib.hid (extract_all hD.size)
      go_wp2_with (first | ((with_reducible refine at_load 56 ?_); refine wpList_load_part rfl 56 _ rfl (w.heap.size) (0) rfl _ (sh A b 12) _ _ 12 (hgA) Try.underlying56 rfl (by kernel_rfl) (by rw [hD.size]; omega) (sh A b 12) (HE.out) ?_) | ((with_reducible refine at_store 56 ?_); refine wpList_store_over rfl 56 _ _ rfl (w.heap.size + 1) (sh A b 12) rfl rfl _ _ (hgZ) (by rw [hD.size]; kernel_rfl) (by rw [hD.size]; rfl) (hD.all) ?_; intro w1 hg1 hs1 ho1 hb1))
      exact bodyPost_ret (results_cell_any rfl _ _ _ _ _ _ rfl hg1 Try.underlying56 rfl (by rw [hD.size]; kernel_rfl)) rfl ⟨rfl, hb.trans (hb1 _ (by omega))⟩

/-! the product -/
theorem times_step {E cv x y m k lb nE D : Int} (h : E + cv * (k * m) = D + x * k * lb) : E + ((cv + nE + x * y) % 65536 - nE) * (k * m) + (cv + nE + x * y) / 65536 * (65536 * (k * m)) = D + x * k * (lb + y * m) := by
  have e : cv + nE + x * y = (cv + nE + x * y) % 65536 + 65536 * ((cv + nE + x * y) / 65536) := by omega
  generalize (cv + nE + x * y) % 65536 = r at *
  generalize (cv + nE + x * y) / 65536 = q at *
  grind
theorem prod_bd {x y : Int} (hx : 0 ≤ x ∧ x < 65536) (hy : 0 ≤ y ∧ y < 65536) : 0 ≤ x * y ∧ x * y ≤ 4294836225 := by
  refine ⟨Int.mul_nonneg hx.1 hy.1, ?_⟩
  have h1 : x * y ≤ 65535 * y := Int.mul_le_mul_of_nonneg_right (by omega) hy.1
  omega

set_option maxRecDepth 100000 in
set_option maxHeartbeats 2000000 in
theorem times_any (s t : Bool) (A B : Array Value) (w : World) (hA : IsD A) (hB : IsD B) :
    Calls Try.prog 39 #[.agg (nm s A), .agg (nm t B)] w fun e w' => (∃ (D : Array Value) (u : Int), e = .returned (.agg (nm (s != t) D)) ∧ IsD D ∧ lv D 12 + u * P16 12 = lv A 12 * lv B 12) ∧ Below w.heap.size w w' := by
  have HA := Lib.hid hA
  have HB := Lib.hid hB
  have n0 := nm_0 s A
  have m0 := nm_0 t B
  have HNX := Lib.hid (fun i => nm_at s A i)
  have HNY := Lib.hid (fun i => nm_at t B i)
  have HZs := Lib.hid (show (nm false z12).size = 13 from nm_size z12_D.size)
  clear hA hB
  generalize hX : nm s A = X at *
  generalize hY : nm t B = Y at *
  generalize hZ0 : nm false z12 = Z0 at *
  clear hX hY hZ0
  go_enter Try.func39, Try.ntmps39
  go_wp2_with (first | ((with_reducible refine at_alloc 58 ?_); refine wpList_alloc_named rfl 58 rfl (Z0) (by kernel_rfl) ?_) | ((with_reducible refine at_alloc 56 ?_); refine wpList_alloc_named rfl 56 rfl (z12) (by kernel_rfl) ?_))
  go_loopg [6] 12 (fun gh i wr => ∃ (k : Nat) (D : Array Value) (u : Int), k ≤ 12 ∧ gh = 12 - k ∧ i = .int .i64 k ∧ IsD D ∧ lv D 12 + u * P16 12 = lv A k * lv B 12 ∧ wr.heap[w.heap.size]? = some (.cells X 58 (0, 0)) ∧
    wr.heap[w.heap.size + 1]? = some (.cells Y 58 (0, 0)) ∧ wr.heap[w.heap.size + 2]? = some (.cells Z0 58 (0, 0)) ∧ wr.heap[w.heap.size + 3]? = some (.cells D 56 (0, 0)) ∧ Below w.heap.size w wr)
  case atStart => exact ⟨0, z12, 0, by omega, by omega, rfl, z12_D, by rw [lv_top (A := z12) (k := 0) (by omega) (fun j _ _ => z12_N j)]; simp [lv], by repeat (first | exact heap_new (by simp; done) | refine heap_up ?_), by repeat (first | exact heap_new (by simp; done) | refine heap_up ?_), by repeat (first | exact heap_new (by simp; done) | refine heap_up ?_), by repeat (first | exact heap_new (by simp; done) | refine heap_up ?_), below_alloc (below_alloc (below_alloc (below_new _ _) _) _) _⟩
  case round =>
    obtain ⟨k, D, u, hk, rfl, rfl, hD, hval, hgX, hgY, hgZ, hgD, hb⟩ := hrel
    by_cases hlt : k < 12
    · have HD := Lib.hid hD
      have HV := Lib.hid hval
      clear hD hval
      obtain ⟨hAk, ax1, ax2⟩ := HA.out.c k hlt
      have hxk : X[1 + k]? = some (.int .u64 (N A k)) := by rw [HNX.out]; exact hAk
      clear hAk
      go_wp2
      go_loopg [7, 8] (12 - k) (fun gh c j wr => ∃ (m : Nat) (E : Array Value) (cv : Int), m ≤ 12 - k ∧ gh = 12 - k - m ∧ j = .int .i64 m ∧ c = .int .u64 cv ∧ 0 ≤ cv ∧ cv < 65536 ∧ IsD E ∧ lv E 12 + cv * (P16 k * P16 m) = lv D 12 + N A k * P16 k * lv B m ∧ wr.heap[w.heap.size]? = some (.cells X 58 (0, 0)) ∧
        wr.heap[w.heap.size + 1]? = some (.cells Y 58 (0, 0)) ∧ wr.heap[w.heap.size + 2]? = some (.cells Z0 58 (0, 0)) ∧ wr.heap[w.heap.size + 3]? = some (.cells E 56 (0, 0)) ∧ Below w.heap.size w wr)
      case atStart => exact ⟨0, D, 0, by omega, by omega, rfl, rfl, by omega, by omega, HD.out, by simp [lv], hgX, hgY, hgZ, hgD, hb⟩
      case round =>
        clear hgX hgY hgZ hgD hb
        obtain ⟨m, E, cv, hm, rfl, rfl, rfl, hc0, hc1, hE, hval, hgX, hgY, hgZ, hgD, hb⟩ := hrel
        have HE := Lib.hid hE
        have HW := Lib.hid hval
        clear hE hval
        by_cases hlm : k + m < 12
        · obtain ⟨hBm, by1, by2⟩ := HB.out.c m (by omega)
          have hym : Y[1 + m]? = some (.int .u64 (N B m)) := by rw [HNY.out]; exact hBm
          obtain ⟨hEk, ez1, ez2⟩ := HE.out.c (k + m) hlm
          clear hBm
          have HS := Lib.hid (fun v => lv_upd HE.out (j := k + m) (v := v) hlm 12 (by omega))
          have HQ := Lib.hid (fun v (hv : 0 ≤ v ∧ v < 65536) => HE.out.set (k := k + m) hv)
          obtain ⟨p1, p2⟩ := prod_bd ⟨ax1, ax2⟩ ⟨by1, by2⟩
          have HST := Lib.hid (times_step (nE := N E (k + m)) (y := N B m) HW.out)
          have HMS := Lib.hid (show 12 - k - (m + 1) < 12 - k - m ∧ m + 1 ≤ 12 - k by omega)
          have HB1 := Lib.hid (show lv B (m + 1) = lv B m + N B m * P16 m from rfl)
          generalize N E (k + m) = z at *
          generalize N A k = x at *
          generalize N B m = y at *
          have hmi : (m : Int) < 12 := by omega
          have hji0 : (((k + m : Nat) : Int)) < 12 := by omega
          have hwr : wrap64 ((k : Int) + (m : Int)) = ((k + m : Nat) : Int) := by unfold wrap64; omega
          have hwr2 : IntKind.i64.wrap ((k : Int) + (m : Int)) = ((k + m : Nat) : Int) := by rw [IntKind.wrap_i64]; omega
          have HKM := Lib.hid (show P16 (k + m) = P16 k * P16 m from P16_add k m)
          obtain ⟨j, hj⟩ : ∃ j, j = k + m := ⟨_, rfl⟩
          rw [← hj] at hwr hwr2 HS HQ HKM hEk hlm hji0
          have HJ := Lib.hid hj
          clear hj
          go_wp2
          have hu1 : IntKind.u64.wrap (cv + z) = cv + z := by rw [IntKind.wrap_u64]; omega
          have hu2 : IntKind.u64.wrap (x * y) = x * y := by rw [IntKind.wrap_u64]; generalize x * y = p at *; omega
          have hu3 : IntKind.u64.wrap (cv + z + x * y) = cv + z + x * y := by rw [IntKind.wrap_u64]; generalize x * y = p at *; omega
          have hcq := cellF hgX
          have hcr := cellF hgY
          have hcd := cellF hgD
          have hz0 : 0 ≤ z := ez1
          refine wp_region_below (by kernel_rfl) (by kernel_rfl) ?_
          repeat (first | ((with_reducible apply q_skip); (case hw => rfl); (try simp only [Act.put, List.setIfInBounds_toArray, List.set_cons_zero, List.set_cons_succ])) | ((with_reducible apply q_val); (case hw => rfl); (case hv => intro wq hbq; have hcq := cellF (Yticdcdahehodkaa.kept hbq hgX); have hcr := cellF (Yticdcdahehodkaa.kept hbq hgY); have hcd := cellF (Yticdcdahehodkaa.kept hbq hgD); go_simp; try rfl); (try simp only [Act.put, List.setIfInBounds_toArray, List.set_cons_zero, List.set_cons_succ])))
          refine q_nil ?_
          intro w4 hb4
          clear hcq hcr hcd
          have hgX4 := Yticdcdahehodkaa.kept hb4 hgX
          have hgY4 := Yticdcdahehodkaa.kept hb4 hgY
          have hgZ4 := Yticdcdahehodkaa.kept hb4 hgZ
          have hgD4 := Yticdcdahehodkaa.kept hb4 hgD
          clear hgX hgY hgZ hgD
          obtain ⟨c4, f4, _⟩ := cells_of hgD4
          have hv0 : 0 ≤ cv + z + x * y := by generalize x * y = p at *; omega
          have HSB := Lib.hid (show (cv + z + x * y) / 65536 < 65536 by generalize x * y = p at *; omega)
          generalize hS : cv + z + x * y = S at *
          go_wp2
          clear hwr hwr2 hu1 hu2 hu3 p1 p2
          go_roundg (12 - k - (m + 1))
          case measure => exact HMS.out.1
          case rel =>
            refine ⟨m + 1, E.setIfInBounds j (.int .u64 (S % 65536)), S / 65536, HMS.out.2, rfl, by go_num, rfl, by omega, HSB.out, HQ.out _ (by omega), ?_, heap_set_other hgX4 (by omega), heap_set_other hgY4 (by omega), heap_set_other hgZ4 (by omega), heap_set hgD4, set_below (below_then hb hb4) (by omega)⟩
            have h1 := HST.out
            have h2 := HS.out (S % 65536)
            rw [if_pos hlm, HKM.out] at h2
            rw [h2, HB1.out, P16_s, ← h1]
            grind
        · obtain ⟨d, hd⟩ : ∃ d, d = 12 - m := ⟨_, rfl⟩
          obtain ⟨v, hv⟩ := lv_split B m (12 - m)
          rw [show m + (12 - m) = 12 by omega] at hv
          have hkm : m = 12 - k := by omega
          have hP : P16 12 = P16 k * P16 m := by rw [← P16_add]; congr 1; omega
          have HR := Lib.hid (show lv E 12 + (cv + u + N A k * v) * P16 12 = lv A (k + 1) * lv B 12 by
            have h1 := HW.out
            have h2 := HV.out
            rw [show lv A (k + 1) = lv A k + N A k * P16 k from rfl]
            rw [hP] at h2 ⊢
            rw [hv] at h2 ⊢
            grind)
          have hni : ¬ ((k : Int) + (m : Int)) < 12 := by omega
          have hwr : wrap64 ((k : Int) + (m : Int)) = 12 := by unfold wrap64; omega
          clear hv hP hd
          go_wp2
          go_roundg (12 - (k + 1))
          case measure => omega
          case rel => exact ⟨k + 1, E, _, by omega, rfl, by go_num, HE.out, HR.out, hgX, hgY, hgZ, hgD, hb⟩
    · obtain rfl : k = 12 := by omega
      have hDD := Lib.hid (extract_all hD.size)
      have HDs := Lib.hid hD.size
      have HNs := Lib.hid (nm_size (s := s != t) hD.size)
      have HNa := Lib.hid (nm_all (s := s != t) hD)
      have HR := Lib.hid (show IsD D ∧ lv D 12 + u * P16 12 = lv A 12 * lv B 12 from ⟨hD, hval⟩)
      clear hD hval
      have hc0 := cellF hgX
      have hc1 := cellF hgY
      go_wp2_with (first | ((with_reducible refine at_load 56 ?_); refine wpList_load_part rfl 56 _ rfl (w.heap.size + 3) (0) rfl _ (D) _ _ 12 (hgD) Try.underlying56 rfl (by kernel_rfl) (by rw [HDs.out]; omega) (D) (hDD.out) ?_) | ((with_reducible refine at_buildP 58 ?_); refine wpList_build_num rfl _ _ rfl (s != t) D rfl rfl HDs.out ?_) | ((with_reducible refine at_store 58 ?_); refine wpList_store_over rfl 58 _ _ rfl (w.heap.size + 2) (nm (s != t) D) rfl rfl _ _ (hgZ) (by rw [HNs.out]; kernel_rfl) (by rw [HNs.out]; exact HZs.out) (HNa.out) ?_; intro w1 hg1 hs1 ho1 hb1))
      exact bodyPost_ret (results_cell_any rfl _ _ _ _ _ _ rfl hg1 Try.underlying58 rfl (by rw [HNs.out]; kernel_rfl)) rfl ⟨⟨D, u, rfl, HR.out.1, HR.out.2⟩, hb.trans (hb1 _ (by omega))⟩
end Go.Proofs.Yticdcdahehodkaa
