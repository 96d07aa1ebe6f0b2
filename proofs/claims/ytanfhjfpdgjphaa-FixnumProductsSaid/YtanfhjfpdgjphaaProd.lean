/- Products and products divided: fixnum's and the document's; the statement FixnumProducts returns true. Condition: the numbers fit their kinds. -/
import Derived.Test.YtanfhjfpdgjphaaOver
import Derived.Test.YtanfhjfpdgjphaaMd
namespace Go.Proofs.Ytanfhjfpdgjphaa
set_option linter.unusedVariables false
set_option linter.unusedSimpArgs false
open Go.RowKit

theorem o_abs {x : Int} (h : F64 x) : lv (oV x) 12 = (x.natAbs : Int) := by
  have h1 := (o_val h).1
  have h2 := (lv_bd (oV_D x) 12 (by omega)).1
  unfold sv oS at h1
  by_cases h0 : x < 0
  · rw [if_pos (by simpa using h0)] at h1; omega
  · rw [if_neg (by simpa using h0)] at h1; omega
/-- the product of two sizes fits twelve digits -/
theorem prod_lv {a b : Int} (ha : F64 a) (hb : F64 b) {D : Array Value} {u : Int} (hD : IsD D) (h : lv D 12 + u * P16 12 = lv (oV a) 12 * lv (oV b) 12) : lv D 12 = ((a.natAbs * b.natAbs : Nat) : Int) := by
  rw [o_abs ha, o_abs hb] at h
  have hp : a.natAbs * b.natAbs ≤ 9223372036854775808 * 9223372036854775808 := Nat.mul_le_mul (natAbs_bd ha) (natAbs_bd hb)
  have h12 := P16_12
  have hb2 := lv_bd hD 12 (by omega)
  have e : (a.natAbs : Int) * (b.natAbs : Int) = ((a.natAbs * b.natAbs : Nat) : Int) := by simp
  rw [e] at h
  generalize a.natAbs * b.natAbs = P at *
  generalize P16 12 = M at *
  have hu : u = 0 := by
    rcases Int.lt_trichotomy u 0 with hu | hu | hu
    · have : u * M ≤ -1 * M := Int.mul_le_mul_of_nonneg_right (by omega) (by omega)
      omega
    · exact hu
    · have : 1 * M ≤ u * M := Int.mul_le_mul_of_nonneg_right (by omega) (by omega)
      omega
  subst hu
  omega
theorem sv_mv {s : Bool} {D : Array Value} {P : Nat} (h : lv D 12 = (P : Int)) : sv s D = mv s P 1 := by
  unfold sv mv
  rw [h, Nat.div_one, Nat.mod_one]
  cases s <;> simp
theorem over_mv {s t : Bool} {A B : Array Value} {P z : Nat} {S : Bool} {C Q R : Array Value} (hA : lv A 12 = (P : Int)) (hB : lv B 12 = (z : Int)) (hz : 0 < z) (hP : P ≤ 85070591730234615865843651857942052864) (hov : Ov A B Q R 0)
    (h : (S, C) = (if (s != t) = true ∧ lv R 12 ≠ 0 then (psS true Q (oS (-1)) (oV (-1)), psD true Q (oS (-1)) (oV (-1))) else (s != t, Q))) : sv S C = mv (s != t) P z := by
  have h1 := hov.v
  have h2 := hov.l
  rw [up_0, hA, hB] at h1
  rw [hB] at h2
  have hq := (lv_bd hov.q 12 (by omega)).1
  have hr := (lv_bd hov.r 12 (by omega)).1
  obtain ⟨q, hq0⟩ : ∃ q : Nat, lv Q 12 = q := ⟨(lv Q 12).toNat, by omega⟩
  obtain ⟨r, hr0⟩ : ∃ r : Nat, lv R 12 = r := ⟨(lv R 12).toNat, by omega⟩
  rw [hq0, hr0] at h1
  rw [hr0] at h2
  have h3 : q * z + r = P := by
    have e : ((q * z + r : Nat) : Int) = (P : Int) := by rw [← h1]; simp
    exact_mod_cast e
  have hrz : r < z := by omega
  have hdiv : P / z = q := by
    rw [← h3, Nat.add_comm, Nat.mul_comm, Nat.add_mul_div_left _ _ hz, Nat.div_eq_of_lt hrz, Nat.zero_add]
  have hmod : P % z = r := by
    rw [← h3, Nat.add_comm, Nat.mul_comm, Nat.add_mul_mod_self_left, Nat.mod_eq_of_lt hrz]
  have hqP : q ≤ P := by rw [← hdiv]; exact Nat.div_le_self _ _
  unfold mv
  rw [hdiv, hmod]
  have h12 := P16_12
  have hov1 := o_val (x := -1) (by unfold F64; omega)
  have hpv := (ps_val (s := true) (t := oS (-1)) hov.q (oV_D (-1)) (by omega)).1
  rw [hov1.1] at hpv
  generalize psS true Q (oS (-1)) (oV (-1)) = PS at *
  generalize psD true Q (oS (-1)) (oV (-1)) = PD at *
  by_cases hc : (s != t) = true ∧ lv R 12 ≠ 0
  · rw [if_pos hc] at h
    have h' := Prod.mk.inj h
    rw [h'.1, h'.2, hpv, hc.1, if_pos rfl, if_neg (by have := hc.2; omega)]
    unfold sv
    rw [if_pos rfl, hq0]
    omega
  · rw [if_neg hc] at h
    have h' := Prod.mk.inj h
    rw [h'.1, h'.2]
    unfold sv
    rw [hq0]
    by_cases hn : (s != t) = true
    · have hr00 : r = 0 := by
        by_cases e : r = 0
        · exact e
        · exact absurd ⟨hn, by omega⟩ hc
      rw [hn, if_pos rfl, if_pos rfl, if_pos hr00]
      omega
    · rw [if_neg hn, if_neg hn]

set_option maxHeartbeats 1000000 in
theorem fmd_zero (a b : Int) (w : World) (ha : F64 a) (hb : F64 b) :
    Calls Try.prog 14 #[.int .i64 a, .int .i64 b, .int .i64 0] w fun e w' => e = .returned (.tuple #[.int .i64 0, .int .i64 10]) ∧ w = w' := by
  go_enter Try.func14, Try.ntmps14
  go_wp2
  go_ret2
  exact ⟨rfl, rfl⟩
set_option maxHeartbeats 1000000 in
theorem fmul_any (a b : Int) (w : World) (ha : F64 a) (hb : F64 b) :
    Calls Try.prog 13 #[.int .i64 a, .int .i64 b] w fun e w' =>
      e = .returned (.tuple #[.int .i64 (fitN (mv (decide (a < 0) != decide (b < 0)) (a.natAbs * b.natAbs) 1)), .int .i64 (fitE (mv (decide (a < 0) != decide (b < 0)) (a.natAbs * b.natAbs) 1))]) ∧ Below w.heap.size w w' := by
  have cm := fun w => fmd_any a b 1 w ha hb (by unfold F64; omega) (by omega)
  rw [show ((decide (a < 0) != decide (b < 0)) != decide ((1 : Int) < 0)) = (decide (a < 0) != decide (b < 0)) by cases (decide (a < 0) != decide (b < 0)) <;> rfl, show (1 : Int).natAbs = 1 from rfl] at cm
  generalize fitN (mv (decide (a < 0) != decide (b < 0)) (a.natAbs * b.natAbs) 1) = n at *
  generalize fitE (mv (decide (a < 0) != decide (b < 0)) (a.natAbs * b.natAbs) 1) = ee at *
  go_enter Try.func13, Try.ntmps13
  go_wp2_with (first | (go_at_call 14; (with_reducible refine (cm _).mono ?_); rintro e w1 ⟨rfl, hb1⟩))
  go_ret2
  exact ⟨rfl, hb1⟩
set_option maxHeartbeats 1000000 in
theorem rmul_any (a b : Int) (w : World) (ha : F64 a) (hb : F64 b) :
    Calls Try.prog 15 #[.int .i64 a, .int .i64 b] w fun e w' =>
      e = .returned (.tuple #[.int .i64 (fitN (mv (decide (a < 0) != decide (b < 0)) (a.natAbs * b.natAbs) 1)), .int .i64 (fitE (mv (decide (a < 0) != decide (b < 0)) (a.natAbs * b.natAbs) 1))]) ∧ Below w.heap.size w w' := by
  have c1 := fun w => of_any' a w ha
  have c2 := fun w => of_any' b w hb
  have c3 := fun w => times_any (oS a) (oS b) (oV a) (oV b) w (oV_D a) (oV_D b)
  have HT := Lib.hid (fun D u (hD : IsD D) h => prod_lv ha hb hD (D := D) (u := u) h)
  have C4 := Lib.hid (fun (D : Array Value) (hD : IsD D) w => told_any (oS a != oS b) D w hD)
  have HSV := Lib.hid (fun (D : Array Value) (h : lv D 12 = ((a.natAbs * b.natAbs : Nat) : Int)) => show sv (oS a != oS b) D = mv (decide (a < 0) != decide (b < 0)) (a.natAbs * b.natAbs) 1 from sv_mv h)
  generalize nm (oS a) (oV a) = X at *
  generalize nm (oS b) (oV b) = Y at *
  go_enter Try.func15, Try.ntmps15
  go_wp2_with (first | (go_at_call 35; (with_reducible refine (c1 _).mono ?_); rintro e w1 ⟨rfl, hb1⟩) | (go_at_call 35; (with_reducible refine (c2 _).mono ?_); rintro e w2 ⟨rfl, hb2⟩) | (go_at_call 36; (with_reducible refine (c3 _).mono ?_); rintro e w3 ⟨⟨D, u, rfl, hD, hv⟩, hb3⟩; have ct := C4.out D hD; rw [HSV.out D (HT.out D u hD hv)] at ct; generalize nm (oS a != oS b) D = Z at *) | (go_at_call 34; (with_reducible refine (ct _).mono ?_); rintro e w4 ⟨rfl, hb4⟩))
  go_ret2
  exact ⟨rfl, below_then (below_then (below_then hb1 hb2) hb3) hb4⟩
set_option maxHeartbeats 1000000 in
theorem rmd_zero (a b : Int) (w : World) :
    Calls Try.prog 16 #[.int .i64 a, .int .i64 b, .int .i64 0] w fun e w' => e = .returned (.tuple #[.int .i64 0, .int .i64 10]) ∧ w = w' := by
  go_enter Try.func16, Try.ntmps16
  go_wp2
  go_ret2
  exact ⟨rfl, rfl⟩
set_option maxRecDepth 100000 in
set_option maxHeartbeats 2000000 in
theorem rmd_any (a b c : Int) (w : World) (ha : F64 a) (hb : F64 b) (hc : F64 c) (h0 : c ≠ 0) :
    Calls Try.prog 16 #[.int .i64 a, .int .i64 b, .int .i64 c] w fun e w' =>
      e = .returned (.tuple #[.int .i64 (fitN (mv ((decide (a < 0) != decide (b < 0)) != decide (c < 0)) (a.natAbs * b.natAbs) c.natAbs)), .int .i64 (fitE (mv ((decide (a < 0) != decide (b < 0)) != decide (c < 0)) (a.natAbs * b.natAbs) c.natAbs))]) ∧ Below w.heap.size w w' := by
  have c1 := fun w => of_any' a w ha
  have c2 := fun w => of_any' b w hb
  have c6 := fun w => of_any' c w hc
  have c3 := fun w => times_any (oS a) (oS b) (oV a) (oV b) w (oV_D a) (oV_D b)
  have hlc := o_abs hc
  have HT := Lib.hid (fun D u (hD : IsD D) h => prod_lv ha hb hD (D := D) (u := u) h)
  have C5 := Lib.hid (fun (D : Array Value) (hD : IsD D) w => over_any (oS a != oS b) (oS c) D (oV c) w hD (oV_D c) (by omega) (by have := natAbs_bd hc; have := P16_12; omega))
  have HP : a.natAbs * b.natAbs ≤ 9223372036854775808 * 9223372036854775808 := Nat.mul_le_mul (natAbs_bd ha) (natAbs_bd hb)
  have CT := Lib.hid (fun (D : Array Value) (S : Bool) (C Q R : Array Value) (hC : IsD C) (h : lv D 12 = ((a.natAbs * b.natAbs : Nat) : Int)) (hov : Ov D (oV c) Q R 0) (hs : (S, C) = (if ((oS a != oS b) != oS c) = true ∧ lv R 12 ≠ 0 then (psS true Q (oS (-1)) (oV (-1)), psD true Q (oS (-1)) (oV (-1))) else ((oS a != oS b) != oS c, Q))) w =>
    show Calls Try.prog 34 #[.agg (nm S C)] w fun e w' => e = .returned (.tuple #[.int .i64 (fitN (mv ((decide (a < 0) != decide (b < 0)) != decide (c < 0)) (a.natAbs * b.natAbs) c.natAbs)), .int .i64 (fitE (mv ((decide (a < 0) != decide (b < 0)) != decide (c < 0)) (a.natAbs * b.natAbs) c.natAbs))]) ∧ Below w.heap.size w w' from by
      have ht := told_any S C w hC
      have hm : sv S C = mv ((decide (a < 0) != decide (b < 0)) != decide (c < 0)) (a.natAbs * b.natAbs) c.natAbs := over_mv (s := oS a != oS b) (t := oS c) h hlc (by omega) (by omega) hov hs
      rw [hm] at ht
      exact ht)
  have HC0 := Lib.hid h0
  have hc0 : (c == 0) = false := by simpa using h0
  have HZs := Lib.hid (show (nm false z12).size = 13 from nm_size z12_D.size)
  clear hlc HP h0
  generalize fitN (mv ((decide (a < 0) != decide (b < 0)) != decide (c < 0)) (a.natAbs * b.natAbs) c.natAbs) = fn at *
  generalize fitE (mv ((decide (a < 0) != decide (b < 0)) != decide (c < 0)) (a.natAbs * b.natAbs) c.natAbs) = fe at *
  generalize nm (oS a) (oV a) = X at *
  generalize nm (oS b) (oV b) = Y at *
  have C6 := Lib.hid c6
  have C5' := C5.out
  clear C5 c6
  generalize hXc : nm (oS c) (oV c) = Xc at *
  have c6 := C6.out
  have C5 := Lib.hid C5'
  clear C5' C6 hXc
  go_enter Try.func16, Try.ntmps16
  go_wp2_with (first | (go_at_call 35; (with_reducible refine (c1 _).mono ?_); rintro e w1 ⟨rfl, hb1⟩) | (go_at_call 35; (with_reducible refine (c2 _).mono ?_); rintro e w2 ⟨rfl, hb2⟩) | (go_at_call 36; (with_reducible refine (c3 _).mono ?_); rintro e w3 ⟨⟨D, u, rfl, hD, hv⟩, hb3⟩; have co := C5.out D hD; have hPv := HT.out D u hD hv; generalize nm (oS a != oS b) D = Z at *) | (go_at_call 35; (with_reducible refine (c6 _).mono ?_); rintro e w6 ⟨rfl, hb6⟩) | (go_at_call 37; (with_reducible refine (co _).mono ?_); rintro e w5 ⟨⟨S, C, Q, R, rfl, hC, hov, hs⟩, hb5⟩; have ct := CT.out D S C Q R hC hPv hov hs; have HZ1 := Lib.hid (nm_size (s := S) hC.size); have HZ1a := Lib.hid (nm_all (s := S) hC); have HZ2 := Lib.hid (nm_size (s := false) hov.r.size); have HZ2a := Lib.hid (nm_all (s := false) hov.r); have HZ1E := Lib.hid (extract_all HZ1.out); generalize nm S C = Z1 at *; generalize nm false R = Z2 at *) | ((with_reducible refine at_store 47 ?_); refine wpList_store_over rfl 47 _ _ rfl (w5.heap.size) (Z1) rfl rfl _ _ (heap_up (heap_alloc_new _ _)) (by rw [HZ1.out]; kernel_rfl) (by rw [HZ1.out]; rfl) (HZ1a.out) ?_; intro w7 hg7 hs7 ho7 hb7) | ((with_reducible refine at_store 47 ?_); refine wpList_store_over rfl 47 _ _ rfl (w5.heap.size + 1) (Z2) rfl rfl _ _ ((ho7 _ (by omega)).trans (heap_alloc2_new _ _ _)) (by rw [HZ2.out]; kernel_rfl) (by rw [HZ2.out]; rfl) (HZ2a.out) ?_; intro w8 hg8 hs8 ho8 hb8) | ((with_reducible refine at_load 47 ?_); refine wpList_load_part rfl 47 _ rfl (w5.heap.size) 0 rfl _ (Z1) _ _ 13 ((ho8 _ (by omega)).trans hg7) Try.underlying47 rfl (by kernel_rfl) (by rw [HZ1.out]; omega) (Z1) (HZ1E.out) ?_) | (go_at_call 34; (with_reducible refine (ct _).mono ?_); rintro e w9 ⟨rfl, hb9⟩))
  go_ret2
  have hB5 := below_then (below_then (below_then (below_then hb1 hb2) hb3) hb6) hb5
  have hB7 := (below_alloc (below_alloc hB5 _) _).trans (hb7 _ hB5.size)
  exact ⟨rfl, below_then (hB7.trans (hb8 _ (by have := hB5.size; omega))) hb9⟩

set_option maxRecDepth 100000 in
set_option maxHeartbeats 1000000 in
theorem products_walk (a b c : Int) (W : World) (ha : F64 a) (hb : F64 b) (hc : F64 c) :
    Calls Try.prog 3 #[.int .i64 a, .int .i64 b, .int .i64 c] W fun e W' => e = .returned (.bool true) ∧ Below W.heap.size W W' := by
  have c1 := fun w => fmul_any a b w ha hb
  have c3 := fun w => rmul_any a b w ha hb
  generalize fitN (mv (decide (a < 0) != decide (b < 0)) (a.natAbs * b.natAbs) 1) = n1 at *
  generalize fitE (mv (decide (a < 0) != decide (b < 0)) (a.natAbs * b.natAbs) 1) = e1 at *
  by_cases h0 : c = 0
  · subst h0
    have c2 := fun w => fmd_zero a b w ha hb
    have c4 := fun w => rmd_zero a b w
    go_enter Try.func3, Try.ntmps3
    go_wp2_with (first | (go_at_call 13; (with_reducible refine (c1 _).mono ?_); rintro e w1 ⟨rfl, hb1⟩) | (go_at_call 14; (with_reducible refine (c2 _).mono ?_); rintro e w2 ⟨rfl, rfl⟩) | (go_at_call 15; (with_reducible refine (c3 _).mono ?_); rintro e w3 ⟨rfl, hb3⟩) | (go_at_call 16; (with_reducible refine (c4 _).mono ?_); rintro e w4 ⟨rfl, rfl⟩) | (go_at_call 17; (with_reducible refine (known01 _).mono ?_); rintro e w7 ⟨rfl, hb7⟩))
    go_ret
    exact ⟨rfl, below_then (below_then hb1 hb3) hb7⟩
  · have c2 := fun w => fmd_any a b c w ha hb hc h0
    have c4 := fun w => rmd_any a b c w ha hb hc h0
    generalize fitN (mv ((decide (a < 0) != decide (b < 0)) != decide (c < 0)) (a.natAbs * b.natAbs) c.natAbs) = n2 at *
    generalize fitE (mv ((decide (a < 0) != decide (b < 0)) != decide (c < 0)) (a.natAbs * b.natAbs) c.natAbs) = e2 at *
    go_enter Try.func3, Try.ntmps3
    go_wp2_with (first | (go_at_call 13; (with_reducible refine (c1 _).mono ?_); rintro e w1 ⟨rfl, hb1⟩) | (go_at_call 14; (with_reducible refine (c2 _).mono ?_); rintro e w2 ⟨rfl, hb2⟩) | (go_at_call 15; (with_reducible refine (c3 _).mono ?_); rintro e w3 ⟨rfl, hb3⟩) | (go_at_call 16; (with_reducible refine (c4 _).mono ?_); rintro e w4 ⟨rfl, hb4⟩) | (go_at_call 17; (with_reducible refine (known01 _).mono ?_); rintro e w7 ⟨rfl, hb7⟩))
    go_ret
    exact ⟨rfl, below_then (below_then (below_then (below_then hb1 hb2) hb3) hb4) hb7⟩
end Go.Proofs.Ytanfhjfpdgjphaa
