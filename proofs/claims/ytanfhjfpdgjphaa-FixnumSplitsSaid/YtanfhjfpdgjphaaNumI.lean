/- The document's numbers read back: Int, told. Condition: each digit is one. -/
import Derived.Test.YtanfhjfpdgjphaaNumV
namespace Go.Proofs.Ytanfhjfpdgjphaa
set_option linter.unusedVariables false
set_option linter.unusedSimpArgs false
open Go.RowKit

def fitB (v : Int) : Bool := decide (-9223372036854775808 ≤ v ∧ v ≤ 9223372036854775807)
def fitN (v : Int) : Int := if -9223372036854775808 ≤ v ∧ v ≤ 9223372036854775807 then v else 0
def fitE (v : Int) : Int := if -9223372036854775808 ≤ v ∧ v ≤ 9223372036854775807 then 0 else 6
theorem fit_yes {v : Int} (h : -9223372036854775808 ≤ v ∧ v ≤ 9223372036854775807) : fitB v = true ∧ fitN v = v ∧ fitE v = 0 := by unfold fitB fitN fitE; simp [h]
theorem fit_no {v : Int} (h : ¬ (-9223372036854775808 ≤ v ∧ v ≤ 9223372036854775807)) : fitB v = false ∧ fitN v = 0 ∧ fitE v = 6 := by unfold fitB fitN fitE; rw [if_neg h, if_neg h]; exact ⟨decide_eq_false h, rfl, rfl⟩

/-- the digits 3, 2, .. read from the top, j of them -/
def hz (D : Array Value) : Nat → Int
  | 0 => 0
  | j + 1 => hz D j * 65536 + N D (3 - j)
theorem hz_low (D : Array Value) : ∀ j, j ≤ 4 → hz D j * P16 (4 - j) + lv D (4 - j) = lv D 4
  | 0, _ => by simp [hz]
  | j + 1, hj => by
    have ih := hz_low D j (by omega)
    obtain ⟨m, hm⟩ : ∃ m, m = 3 - j := ⟨_, rfl⟩
    rw [show 4 - j = m + 1 by omega, P16_s, lv] at ih
    rw [show 4 - (j + 1) = m by omega, hz, show 3 - j = m by omega, Int.add_mul, Int.mul_assoc]
    omega
theorem hz_bd {D : Array Value} (h : IsD D) : ∀ j, j ≤ 4 → 0 ≤ hz D j ∧ hz D j < P16 j
  | 0, _ => ⟨Int.le_refl _, P16_pos 0⟩
  | j + 1, hj => by
    obtain ⟨h1, h2⟩ := hz_bd h j (by omega)
    obtain ⟨_, h3, h4⟩ := h.c (3 - j) (by omega)
    rw [hz, P16_s]
    omega
theorem hz_4 (D : Array Value) : hz D 4 = lv D 4 := by
  have := hz_low D 4 (by omega)
  simpa [P16, lv] using this
theorem P16_3 : P16 3 = 281474976710656 := by decide
theorem P16_4 : P16 4 = 18446744073709551616 := by decide
theorem P16_mono {i j : Nat} (h : i ≤ j) : P16 i ≤ P16 j := by
  induction j with
  | zero => have : i = 0 := by omega
            subst this; exact Int.le_refl _
  | succ j ih =>
    by_cases e : i = j + 1
    · subst e; exact Int.le_refl _
    · have h1 := ih (by omega)
      have h2 := P16_pos j
      rw [P16_s]; omega
theorem lv_mono {D : Array Value} (h : IsD D) {i : Nat} : ∀ j, i ≤ j → j ≤ 12 → lv D i ≤ lv D j
  | 0, hi, _ => by
    have : i = 0 := by omega
    subst this; exact Int.le_refl _
  | j + 1, hi, hj => by
    by_cases e : i = j + 1
    · subst e; exact Int.le_refl _
    · have h1 := lv_mono h (i := i) j (by omega) (by omega)
      have h2 : 0 ≤ N D j * P16 j := Int.mul_nonneg (h.c j (by omega)).2.1 (by have := P16_pos j; omega)
      rw [lv]; omega
theorem lv_big {D : Array Value} (h : IsD D) {m : Nat} (h4 : 4 ≤ m) (hm : m < 12) (hn : N D m ≠ 0) : 18446744073709551616 ≤ lv D 12 := by
  have h1 := lv_mono h (i := m + 1) 12 (by omega) (by omega)
  have h2 := (lv_bd h m (by omega)).1
  have h3 := P16_mono h4
  have h5 := (h.c m hm).2.1
  have h6 : P16 m ≤ N D m * P16 m := by
    have := Int.mul_le_mul_of_nonneg_right (show 1 ≤ N D m by omega) (show 0 ≤ P16 m by have := P16_pos m; omega)
    rwa [Int.one_mul] at this
  rw [lv] at h1
  rw [P16_4] at h3
  omega

set_option maxRecDepth 100000 in
set_option maxHeartbeats 2000000 in
theorem int_any (s : Bool) (D : Array Value) (w : World) (hD : IsD D) :
    Calls Try.prog 46 #[.agg (nm s D)] w fun e w' => e = .returned (.tuple #[.int .i64 (fitN (sv s D)), .bool (fitB (sv s D))]) ∧ Below w.heap.size w w' := by
  have HD := Lib.hid hD
  have HE := Lib.hid (extract_all (nm_size (s := s) hD.size))
  have HS := Lib.hid (nm_size (s := s) hD.size)
  have n0 := nm_0 s D
  have HN := Lib.hid (fun i => nm_at s D i)
  have cz := fun w => zero_any s D w hD
  have h0 := (lv_bd hD 12 (by omega)).1
  clear hD
  generalize hX : nm s D = X at *
  clear hX
  go_enter Try.func46, Try.ntmps46
  go_wp2
  go_loopg [4, 5] 12 (fun gh c i wr => ∃ (k : Nat) (v : Int), k ≤ 12 ∧ k = gh ∧ i = .int .i64 v ∧ v = (k : Int) - 1 ∧ c = .int .u64 (hz D (4 - k)) ∧ (∀ j, k ≤ j → 4 ≤ j → j < 12 → N D j = 0) ∧ wr = w.alloc (.cells X 47))
  case atStart => exact ⟨12, 11, by omega, by omega, rfl, by omega, rfl, fun j h1 h2 h3 => by omega, rfl⟩
  case round =>
    obtain ⟨k, v, hk, rfl, rfl, hv, rfl, he, rfl⟩ := hrel
    have HZ := Lib.hid he
    clear he
    cases k with
    | zero =>
      obtain rfl : v = -1 := by omega
      clear hv
      have hV : lv D 12 = lv D 4 := lv_top (by omega) (fun j h1 h2 => HZ.out j (by omega) h1 h2)
      have hb4 := (lv_bd HD.out 4 (by omega)).2
      rw [P16_4, ← hV] at hb4
      have h4 : hz D (4 - 0) = lv D 12 := by rw [hV]; exact hz_4 D
      rw [h4]
      have hsv : sv s D = if s then -(lv D 12) else lv D 12 := rfl
      have HSV := Lib.hid hsv
      clear hsv hV h4
      generalize lv D 12 = V at *
      clear HZ
      by_cases hv0 : V = 0
      · have HZZ := Lib.hid (show decide (V = 0) = true from decide_eq_true hv0)
        have HF := Lib.hid (show fitB (sv s D) = true ∧ fitN (sv s D) = 0 ∧ fitE (sv s D) = 0 from by
          have e : sv s D = 0 := by rw [HSV.out, hv0]; cases s <;> rfl
          rw [e]; exact fit_yes (by omega))
        subst hv0
        go_wp2_with (first | ((with_reducible refine at_load 47 ?_); refine wpList_load_part rfl 47 _ rfl (w.heap.size) (0) rfl _ (X) _ _ 13 (heap_alloc_new _ _) Try.underlying47 rfl (by kernel_rfl) (by rw [HS.out]; omega) (X) (HE.out) ?_) | (go_at_call 47; (with_reducible refine (cz _).mono ?_); rintro e w3 ⟨rfl, hb3⟩; rw [HZZ.out]; have hg3 := kept hb3 (heap_alloc_new _ _); have hc3 := (cells_of hg3).1))
        go_ret2
        exact ⟨by rw [HF.out.1, HF.out.2.1]; rfl, below_then (below_new _ _) hb3⟩
      · have HZZ := Lib.hid (show decide (V = 0) = false from decide_eq_false hv0)
        cases s
        · by_cases hbig : 9223372036854775808 ≤ V
          · have HF := Lib.hid (show fitB (sv false D) = false ∧ fitN (sv false D) = 0 ∧ fitE (sv false D) = 6 from by
              rw [HSV.out]; exact fit_no (by simp; omega))
            go_wp2_with (first | ((with_reducible refine at_load 47 ?_); refine wpList_load_part rfl 47 _ rfl (w.heap.size) (0) rfl _ (X) _ _ 13 (heap_alloc_new _ _) Try.underlying47 rfl (by kernel_rfl) (by rw [HS.out]; omega) (X) (HE.out) ?_) | (go_at_call 47; (with_reducible refine (cz _).mono ?_); rintro e w3 ⟨rfl, hb3⟩; rw [HZZ.out]; have hg3 := kept hb3 (heap_alloc_new _ _); have hc3 := (cells_of hg3).1))
            go_ret2
            exact ⟨by rw [HF.out.1, HF.out.2.1]; rfl, below_then (below_new _ _) hb3⟩
          · have HF := Lib.hid (show fitB (sv false D) = true ∧ fitN (sv false D) = V ∧ fitE (sv false D) = 0 from by
              have e : sv false D = V := by rw [HSV.out]; rfl
              rw [e]; exact fit_yes (by omega))
            go_wp2_with (first | ((with_reducible refine at_load 47 ?_); refine wpList_load_part rfl 47 _ rfl (w.heap.size) (0) rfl _ (X) _ _ 13 (heap_alloc_new _ _) Try.underlying47 rfl (by kernel_rfl) (by rw [HS.out]; omega) (X) (HE.out) ?_) | (go_at_call 47; (with_reducible refine (cz _).mono ?_); rintro e w3 ⟨rfl, hb3⟩; rw [HZZ.out]; have hg3 := kept hb3 (heap_alloc_new _ _); have hc3 := (cells_of hg3).1))
            go_ret2
            exact ⟨by rw [HF.out.1, HF.out.2.1]; rfl, below_then (below_new _ _) hb3⟩
        · by_cases hbig : 9223372036854775808 < V
          · have HF := Lib.hid (show fitB (sv true D) = false ∧ fitN (sv true D) = 0 ∧ fitE (sv true D) = 6 from by
              rw [HSV.out]; exact fit_no (by simp; omega))
            go_wp2_with (first | ((with_reducible refine at_load 47 ?_); refine wpList_load_part rfl 47 _ rfl (w.heap.size) (0) rfl _ (X) _ _ 13 (heap_alloc_new _ _) Try.underlying47 rfl (by kernel_rfl) (by rw [HS.out]; omega) (X) (HE.out) ?_) | (go_at_call 47; (with_reducible refine (cz _).mono ?_); rintro e w3 ⟨rfl, hb3⟩; rw [HZZ.out]; have hg3 := kept hb3 (heap_alloc_new _ _); have hc3 := (cells_of hg3).1))
            go_ret2
            exact ⟨by rw [HF.out.1, HF.out.2.1]; rfl, below_then (below_new _ _) hb3⟩
          · have HF := Lib.hid (show fitB (sv true D) = true ∧ fitN (sv true D) = -(V - 1) - 1 ∧ fitE (sv true D) = 0 from by
              have e : sv true D = -(V - 1) - 1 := by rw [HSV.out]; simp; omega
              rw [e]; exact fit_yes (by omega))
            go_wp2_with (first | ((with_reducible refine at_load 47 ?_); refine wpList_load_part rfl 47 _ rfl (w.heap.size) (0) rfl _ (X) _ _ 13 (heap_alloc_new _ _) Try.underlying47 rfl (by kernel_rfl) (by rw [HS.out]; omega) (X) (HE.out) ?_) | (go_at_call 47; (with_reducible refine (cz _).mono ?_); rintro e w3 ⟨rfl, hb3⟩; rw [HZZ.out]; have hg3 := kept hb3 (heap_alloc_new _ _); have hc3 := (cells_of hg3).1))
            go_ret2
            exact ⟨by rw [HF.out.1, HF.out.2.1]; rfl, below_then (below_new _ _) hb3⟩
    | succ m =>
      obtain rfl : v = (m : Int) := by omega
      clear hv
      have hm12 : m < 12 := by omega
      have hmi : (m : Int) < 12 := by omega
      obtain ⟨a0, a1, a2⟩ := HD.out.c m hm12
      have ax := HN.out m
      rw [a0] at ax
      by_cases h3 : 3 < m
      · have h3i : 3 < (m : Int) := by omega
        rw [show 4 - (m + 1) = 0 by omega]
        have HC := Lib.hid (show hz D (4 - m) = 0 by rw [show 4 - m = 0 by omega]; rfl)
        have hz0 : hz D 0 = 0 := rfl
        rw [hz0]
        by_cases hx : N D m = 0
        · have HX := Lib.hid (show ∀ j, m ≤ j → 4 ≤ j → j < 12 → N D j = 0 from fun j h1 h2 h3 => by
            by_cases e : j = m
            · subst e; exact hx
            · exact HZ.out j (by omega) h2 h3)
          rw [hx] at ax a0 a1 a2
          clear hx a0 a1 a2 hz0
          go_wp2
          go_roundg m
          case measure => omega
          case rel => exact ⟨m, (m : Int) - 1, by omega, rfl, by go_num, by omega, by rw [HC.out], HX.out, rfl⟩
        · have hbig := lv_big HD.out (by omega) hm12 hx
          have hno : fitB (sv s D) = false ∧ fitN (sv s D) = 0 ∧ fitE (sv s D) = 6 := fit_no (by unfold sv; cases s <;> simp <;> omega)
          have HF := Lib.hid hno
          have hx' : (N D m == 0) = false := by simpa using hx
          clear hbig hno hz0
          generalize N D m = x at *
          go_wp2
          go_ret2
          exact ⟨by rw [HF.out.1, HF.out.2.1]; rfl, below_new _ _⟩
      · have h3i : ¬ 3 < (m : Int) := by omega
        obtain ⟨j, hj⟩ : ∃ j, j = 4 - (m + 1) := ⟨_, rfl⟩
        have hb := hz_bd HD.out j (by omega)
        have hb3 := P16_mono (show j ≤ 3 by omega)
        rw [P16_3] at hb3
        have HC := Lib.hid (show hz D (4 - m) = hz D j * 65536 + N D m by rw [show 4 - m = j + 1 by omega, hz, show 3 - j = m by omega])
        have HX := Lib.hid (show ∀ j, m ≤ j → 4 ≤ j → j < 12 → N D j = 0 from fun j h1 h2 h3 => HZ.out j (by omega) h2 h3)
        rw [← hj]
        clear hj a0
        generalize hz D j = c at *
        generalize N D m = x at *
        go_wp2
        go_roundg m
        case measure => omega
        case rel => exact ⟨m, (m : Int) - 1, by omega, rfl, by go_num, by omega, by rw [HC.out], HX.out, rfl⟩

set_option maxHeartbeats 1000000 in
theorem told_any (s : Bool) (D : Array Value) (w : World) (hD : IsD D) :
    Calls Try.prog 34 #[.agg (nm s D)] w fun e w' => e = .returned (.tuple #[.int .i64 (fitN (sv s D)), .int .i64 (fitE (sv s D))]) ∧ Below w.heap.size w w' := by
  have HE := Lib.hid (extract_all (nm_size (s := s) hD.size))
  have HS := Lib.hid (nm_size (s := s) hD.size)
  have ci := fun w => int_any s D w hD
  clear hD
  by_cases h : -9223372036854775808 ≤ sv s D ∧ sv s D ≤ 9223372036854775807
  · obtain ⟨f1, f2, f3⟩ := fit_yes h
    rw [f1, f2] at ci
    have HF := Lib.hid (And.intro f2 f3)
    clear f1 f2 f3 h
    generalize hX : nm s D = X at *
    clear hX
    go_enter Try.func34, Try.ntmps34
    go_wp2_with (first | ((with_reducible refine at_load 47 ?_); refine wpList_load_part rfl 47 _ rfl (w.heap.size) (0) rfl _ (X) _ _ 13 (heap_alloc_new _ _) Try.underlying47 rfl (by kernel_rfl) (by rw [HS.out]; omega) (X) (HE.out) ?_) | (go_at_call 46; (with_reducible refine (ci _).mono ?_); rintro e w3 ⟨rfl, hb3⟩))
    go_ret2
    exact ⟨by rw [HF.out.1, HF.out.2]; rfl, below_then (below_new _ _) hb3⟩
  · obtain ⟨f1, f2, f3⟩ := fit_no h
    rw [f1, f2] at ci
    have HF := Lib.hid (And.intro f2 f3)
    clear f1 f2 f3 h
    generalize hX : nm s D = X at *
    clear hX
    go_enter Try.func34, Try.ntmps34
    go_wp2_with (first | ((with_reducible refine at_load 47 ?_); refine wpList_load_part rfl 47 _ rfl (w.heap.size) (0) rfl _ (X) _ _ 13 (heap_alloc_new _ _) Try.underlying47 rfl (by kernel_rfl) (by rw [HS.out]; omega) (X) (HE.out) ?_) | (go_at_call 46; (with_reducible refine (ci _).mono ?_); rintro e w3 ⟨rfl, hb3⟩))
    go_ret2
    exact ⟨by rw [HF.out.1, HF.out.2]; rfl, below_then (below_new _ _) hb3⟩
end Go.Proofs.Ytanfhjfpdgjphaa
