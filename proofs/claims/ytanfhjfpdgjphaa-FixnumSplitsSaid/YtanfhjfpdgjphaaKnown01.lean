/- fixnum's own known example; Within; no condition. -/
import Derived.Test.YtanfhjfpdgjphaaFix
namespace Go.Proofs.Ytanfhjfpdgjphaa
set_option linter.unusedVariables false
set_option linter.unusedSimpArgs false
open Go.RowKit

set_option maxHeartbeats 1000000 in
theorem known01 (w : World) : Calls Try.prog 17 #[] w fun e w' => e = .returned (.bool true) ∧ Below w.heap.size w w' := by
  have ha := fun w => add_no 4611686018427387904 4611686018427387904 w ⟨by omega, by omega⟩ ⟨by omega, by omega⟩ (by unfold F64; omega)
  have hm : ∀ w, Calls Try.prog 14 #[.int .i64 (-7), .int .i64 1, .int .i64 2] w fun e w' => e = .returned (.tuple #[.int .i64 (-4), .int .i64 0]) ∧ Below w.heap.size w w' :=
    fun w => muldiv_low true false false 7 1 2 w (by omega) (by omega) (by omega) (by omega) (by omega) (by omega) (by omega) (by omega)
  have HA := Lib.hid ha
  have HM := Lib.hid hm
  clear ha hm
  go_enter Try.func17, Try.ntmps17
  go_wp2_with fail
  refine (HA.out _).mono ?_
  rintro e w' ⟨rfl, rfl⟩
  go_wp2_with fail
  refine (HM.out _).mono ?_
  rintro e w1 ⟨rfl, hb⟩
  go_wp2
  go_ret
  exact ⟨rfl, hb⟩

set_option maxHeartbeats 400000 in
theorem rwithin_any (a m : Int) (w : World) (ha : F64 a) (hm : F64 m) :
    Calls Try.prog 19 #[.int .i64 a, .int .i64 m] w fun e w' => e = .returned (.bool (decide (0 ≤ m) && inB a (-m) m)) ∧ w = w' := by
  unfold F64 at ha hm
  by_cases h0 : m < 0
  · go_enter Try.func19, Try.ntmps19
    go_wp2
    go_ret
    exact ⟨ret_beq (by simp; omega), rfl⟩
  · by_cases h1 : a ≤ m
    · go_enter Try.func19, Try.ntmps19
      go_wp2
      go_ret
      exact ⟨ret_bool (by simp [inB]; omega), rfl⟩
    · go_enter Try.func19, Try.ntmps19
      go_wp2
      go_ret
      exact ⟨ret_bool (by simp [inB]; omega), rfl⟩

set_option maxHeartbeats 400000 in
theorem within_neg (a m : Int) (w : World) (ha : F64 a) (hm : m < 0) (hm2 : -9223372036854775808 ≤ m) :
    Calls Try.prog 18 #[.int .i64 a, .int .i64 m] w fun e w' => e = .returned (.bool false) ∧ w = w' := by
  unfold F64 at ha
  by_cases h : a < 0
  · go_enter Try.func18, Try.ntmps18
    go_wp2_with (go_at_call 31; refine (size_neg _ _ ⟨by omega, by omega⟩).mono ?_; rintro e w' ⟨rfl, rfl⟩)
    go_ret
    exact ⟨rfl, rfl⟩
  · go_enter Try.func18, Try.ntmps18
    go_wp2_with (go_at_call 31; refine (size_pos _ _ ⟨by omega, by omega⟩).mono ?_; rintro e w' ⟨rfl, rfl⟩)
    go_ret
    exact ⟨rfl, rfl⟩

set_option maxRecDepth 100000 in
set_option maxHeartbeats 400000 in
theorem within_walk (a m : Int) (w : World) (ha : F64 a) (hm : F64 m) :
    Calls Try.prog 4 #[.int .i64 a, .int .i64 m] w fun e w' => e = .returned (.bool true) ∧ Below w.heap.size w w' := by
  obtain ⟨b, hb⟩ : ∃ b, (decide (0 ≤ m) && inB a (-m) m) = b := ⟨_, rfl⟩
  have h1 : ∀ w, Calls Try.prog 18 #[.int .i64 a, .int .i64 m] w fun e w' => e = .returned (.bool b) ∧ w = w' := fun w => by
    by_cases h0 : m < 0
    · have : b = false := by rw [← hb]; simp; omega
      rw [this]; exact within_neg a m w ha h0 hm.1
    · have : b = inB a (-m) m := by rw [← hb]; simp; omega
      rw [this]; exact within_any a m w ha (by omega) hm.2
  have h2 : ∀ w, Calls Try.prog 19 #[.int .i64 a, .int .i64 m] w fun e w' => e = .returned (.bool b) ∧ w = w' := fun w => by
    rw [← hb]; exact rwithin_any a m w ha hm
  have H1 := Lib.hid h1
  have H2 := Lib.hid h2
  clear h1 h2 hb ha hm
  cases b
  all_goals
    go_enter Try.func4, Try.ntmps4
    go_wp2_with fail
    refine (H1.out _).mono ?_
    rintro e w' ⟨rfl, rfl⟩
    go_wp2_with fail
    refine (H2.out _).mono ?_
    rintro e w' ⟨rfl, rfl⟩
    go_wp2_with fail
    refine (known01 _).mono ?_
    rintro e w1 ⟨rfl, hb⟩
    go_wp2
    go_ret
    exact ⟨rfl, hb⟩

/-! ### quotients of sizes and signs -/
theorem sg_split (a : Int) (h : F64 a) : ∃ (s : Bool) (x : Nat), a = sg s x ∧ (s = true → 0 < x) ∧ x ≤ 9223372036854775808 ∧ (s = decide (a < 0)) := by
  unfold F64 at h
  by_cases h0 : a < 0
  · exact ⟨true, a.natAbs, by simp [sg]; omega, by omega, by omega, by simp [h0]⟩
  · exact ⟨false, a.natAbs, by simp [sg]; omega, by simp, by omega, by simp; omega⟩
end Go.Proofs.Ytanfhjfpdgjphaa
