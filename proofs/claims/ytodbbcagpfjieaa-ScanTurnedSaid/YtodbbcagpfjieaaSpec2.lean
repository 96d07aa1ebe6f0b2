/- IsQty, InBand, Sub: plain readings. Conditions: the numbers fit int64. -/
import Derived.Test.YtodbbcagpfjieaaSpec
namespace Go.Proofs.Ytodbbcagpfjieaa
set_option linter.unusedVariables false
set_option linter.unusedSimpArgs false
open Go.RowKit

set_option maxHeartbeats 400000 in
theorem isqty_any (A : Array Value) (n : Int) (w : World) (h : IsSpec A) (hn : F64 n) :
    Calls Try.prog 24 #[.agg A, .int .i64 n] w fun e w' => e = .returned (.bool (iqB A n)) ∧ Below w.heap.size w w' := by
  have hsz := h.size
  obtain ⟨a3, b3, b3'⟩ := (h.c 3 (by omega) (by omega)).i64
  have hex : A.extract 0 25 = A := by rw [← hsz]; simp
  have HE := Lib.hid hex
  have Hsz := Lib.hid hsz
  unfold F64 at hn
  clear hex hsz
  cases hm : mayB A
  · have HM := Lib.hid hm
    go_enter Try.func24, Try.ntmps24
    go_wp2_with (first | ((with_reducible refine at_load 25 ?_); refine wpList_load_part rfl 25 _ rfl (w.heap.size) 0 rfl _ (A) (0, 0) _ 25 (heap_alloc_new _ _) Try.underlying25 rfl (by kernel_rfl) (by rw [Hsz.out]; omega) (A) (HE.out) ?_) | (go_at_call 30; (with_reducible refine (may_any _ _ h).mono ?_); rintro e w1 ⟨rfl, hb⟩; have hg := kept hb (heap_alloc_new _ _); have hc := (cells_of hg).1))
    go_ret
    exact ⟨ret_beq (by simp [iqB, HM.out]), ((Below.refl _ _).alloc (Nat.le_refl _) _).trans (hb.mono (by simp))⟩
  · have HM := Lib.hid hm
    obtain ⟨t1, t2⟩ := (mayB_facts hm).2.1
    have h0 : (N A 3 == 0) = false := by simp; omega
    cases hi : inB n 1 1000000
    · go_enter Try.func24, Try.ntmps24
      go_wp2_with (first | ((with_reducible refine at_load 25 ?_); refine wpList_load_part rfl 25 _ rfl (w.heap.size) 0 rfl _ (A) (0, 0) _ 25 (heap_alloc_new _ _) Try.underlying25 rfl (by kernel_rfl) (by rw [Hsz.out]; omega) (A) (HE.out) ?_) | (go_at_call 30; (with_reducible refine (may_any _ _ h).mono ?_); rintro e w1 ⟨rfl, hb⟩; have hg := kept hb (heap_alloc_new _ _); have hc := (cells_of hg).1) | (go_at_call 37; (with_reducible refine (sin_any _ _ _ _).mono ?_); rintro e w' ⟨rfl, rfl⟩))
      go_ret
      exact ⟨ret_beq (by simp [iqB, HM.out, hi]), ((Below.refl _ _).alloc (Nat.le_refl _) _).trans (hb.mono (by simp))⟩
    · obtain ⟨i1, i2⟩ := inB_iff.1 hi
      go_enter Try.func24, Try.ntmps24
      go_wp2_with (first | ((with_reducible refine at_load 25 ?_); refine wpList_load_part rfl 25 _ rfl (w.heap.size) 0 rfl _ (A) (0, 0) _ 25 (heap_alloc_new _ _) Try.underlying25 rfl (by kernel_rfl) (by rw [Hsz.out]; omega) (A) (HE.out) ?_) | (go_at_call 30; (with_reducible refine (may_any _ _ h).mono ?_); rintro e w1 ⟨rfl, hb⟩; have hg := kept hb (heap_alloc_new _ _); have hc := (cells_of hg).1) | (go_at_call 37; (with_reducible refine (sin_any _ _ _ _).mono ?_); rintro e w' ⟨rfl, rfl⟩))
      go_ret
      exact ⟨ret_beq (by simp [iqB, HM.out, hi]; rfl), ((Below.refl _ _).alloc (Nat.le_refl _) _).trans (hb.mono (by simp))⟩

set_option maxHeartbeats 400000 in
theorem sub_yes (a b : Int) (w : World) (ha : F64 a) (hb : F64 b) (hc : F64 (a - b)) :
    Calls Try.prog 38 #[.int .i64 a, .int .i64 b] w fun e w' => e = .returned (.tuple #[.int .i64 (a - b), .int .i64 0]) ∧ w = w' := by
  unfold F64 at ha hb hc
  by_cases h1 : 0 ≤ a <;> by_cases h2 : b < 0 <;> by_cases h3 : a - b < 0 <;> first | (exfalso; omega) | skip
  all_goals
    go_enter Try.func38, Try.ntmps38
    go_wp2
    go_ret2
    exact ⟨rfl, rfl⟩

theorem wrap64_hi (x : Int) (h : 9223372036854775807 < x) (h2 : x < 27670116110564327424) : wrap64 x = x - 18446744073709551616 := by unfold wrap64; omega
theorem wrap64_lo (x : Int) (h : x < -9223372036854775808) (h2 : -27670116110564327424 < x) : wrap64 x = x + 18446744073709551616 := by unfold wrap64; omega

set_option maxHeartbeats 400000 in
theorem sub_no (a b : Int) (w : World) (ha : F64 a) (hb : F64 b) (hc : ¬ F64 (a - b)) :
    Calls Try.prog 38 #[.int .i64 a, .int .i64 b] w fun e w' => e = .returned (.tuple #[.int .i64 0, .int .i64 6]) ∧ w = w' := by
  unfold F64 at ha hb hc
  by_cases h1 : 0 ≤ a
  · have h2 : b < 0 := by omega
    obtain ⟨x, hx, hx2⟩ : ∃ x, wrap64 (a - b) = x ∧ x < 0 := ⟨_, rfl, by rw [wrap64_hi _ (by omega) (by omega)]; omega⟩
    clear hc
    go_enter Try.func38, Try.ntmps38
    go_wp2
    go_ret2
    exact ⟨rfl, rfl⟩
  · have h2 : 0 ≤ b := by omega
    obtain ⟨x, hx, hx2⟩ : ∃ x, wrap64 (a - b) = x ∧ 0 ≤ x := ⟨_, rfl, by rw [wrap64_lo _ (by omega) (by omega)]; omega⟩
    clear hc
    go_enter Try.func38, Try.ntmps38
    go_wp2
    go_ret2
    exact ⟨rfl, rfl⟩

set_option maxHeartbeats 400000 in
theorem inband_any (A : Array Value) (p n : Int) (w : World) (h : IsSpec A) (hp : F64 p) (hn : F64 n) :
    Calls Try.prog 25 #[.agg A, .int .i64 p, .int .i64 n] w fun e w' => e = .returned (.bool (ibB A p n)) ∧ Below w.heap.size w w' := by
  have hsz := h.size
  obtain ⟨a4, b4, b4'⟩ := (h.c 4 (by omega) (by omega)).i64
  have hex : A.extract 0 25 = A := by rw [← hsz]; simp
  have HE := Lib.hid hex
  have Hsz := Lib.hid hsz
  clear hex hsz
  by_cases hf : F64 (n - p)
  · cases hm : mayB A
    · have HM := Lib.hid hm
      go_enter Try.func25, Try.ntmps25
      go_wp2_with (first | ((with_reducible refine at_load 25 ?_); refine wpList_load_part rfl 25 _ rfl (w.heap.size) 0 rfl _ (A) (0, 0) _ 25 (heap_alloc_new _ _) Try.underlying25 rfl (by kernel_rfl) (by rw [Hsz.out]; omega) (A) (HE.out) ?_) | (go_at_call 30; (with_reducible refine (may_any _ _ h).mono ?_); rintro e w1 ⟨rfl, hb⟩; have hg := kept hb (heap_alloc_new _ _); have hc := (cells_of hg).1) | (go_at_call 38; (with_reducible refine (sub_yes _ _ _ hn hp hf).mono ?_); rintro e w' ⟨rfl, rfl⟩))
      go_ret
      exact ⟨ret_beq (by simp [ibB, HM.out]), ((Below.refl _ _).alloc (Nat.le_refl _) _).trans (hb.mono (by simp))⟩
    · have HM := Lib.hid hm
      obtain ⟨t1, t2⟩ := (mayB_facts hm).2.2.1
      go_enter Try.func25, Try.ntmps25
      go_wp2_with (first | ((with_reducible refine at_load 25 ?_); refine wpList_load_part rfl 25 _ rfl (w.heap.size) 0 rfl _ (A) (0, 0) _ 25 (heap_alloc_new _ _) Try.underlying25 rfl (by kernel_rfl) (by rw [Hsz.out]; omega) (A) (HE.out) ?_) | (go_at_call 30; (with_reducible refine (may_any _ _ h).mono ?_); rintro e w1 ⟨rfl, hb⟩; have hg := kept hb (heap_alloc_new _ _); have hc := (cells_of hg).1) | (go_at_call 38; (with_reducible refine (sub_yes _ _ _ hn hp hf).mono ?_); rintro e w' ⟨rfl, rfl⟩) | (go_at_call 23; (with_reducible refine (within_any _ _ _ hf (by omega) (by omega)).mono ?_); rintro e w' ⟨rfl, rfl⟩))
      go_ret
      exact ⟨ret_beq (by simp [ibB, HM.out]), ((Below.refl _ _).alloc (Nat.le_refl _) _).trans (hb.mono (by simp))⟩
  · have hno : ibB A p n = false := by
      cases hm : mayB A
      · simp [ibB, hm]
      · have := (mayB_facts hm).2.2.1
        have : inB (n - p) (-(N A 4)) (N A 4) = false := by rw [inB_no]; unfold F64 at hf; omega
        simp [ibB, this]
    have HN := Lib.hid hno
    clear hno
    cases hm : mayB A
    all_goals
      go_enter Try.func25, Try.ntmps25
      go_wp2_with (first | ((with_reducible refine at_load 25 ?_); refine wpList_load_part rfl 25 _ rfl (w.heap.size) 0 rfl _ (A) (0, 0) _ 25 (heap_alloc_new _ _) Try.underlying25 rfl (by kernel_rfl) (by rw [Hsz.out]; omega) (A) (HE.out) ?_) | (go_at_call 30; (with_reducible refine (may_any _ _ h).mono ?_); rintro e w1 ⟨rfl, hb⟩; have hg := kept hb (heap_alloc_new _ _); have hc := (cells_of hg).1) | (go_at_call 38; (with_reducible refine (sub_no _ _ _ hn hp hf).mono ?_); rintro e w' ⟨rfl, rfl⟩))
      go_ret
      exact ⟨ret_beq HN.out.symm, ((Below.refl _ _).alloc (Nat.le_refl _) _).trans (hb.mono (by simp))⟩
end Go.Proofs.Ytodbbcagpfjieaa
