/- Sums, differences and negatives: fixnum's and the document's; the statement FixnumSums returns true. Condition: the numbers fit their kinds. -/
import Derived.Test.YtanfhjfpdgjphaaNumO
import Derived.Test.YtanfhjfpdgjphaaKnown01
namespace Go.Proofs.Ytanfhjfpdgjphaa
set_option linter.unusedVariables false
set_option linter.unusedSimpArgs false
open Go.RowKit

set_option maxHeartbeats 1000000 in
theorem radd_any (a b : Int) (w : World) (ha : F64 a) (hb : F64 b) :
    Calls Try.prog 23 #[.int .i64 a, .int .i64 b] w fun e w' => e = .returned (.tuple #[.int .i64 (fitN (a + b)), .int .i64 (fitE (a + b))]) ∧ Below w.heap.size w w' := by
  have c1 := fun w => of_any' a w ha
  have c2 := fun w => of_any' b w hb
  have c3 := fun w => add_any (oS a) (oS b) (oV a) (oV b) w (oV_D a) (oV_D b)
  have hd := ps_D (s := oS a) (t := oS b) (oV_D a) (oV_D b)
  obtain ⟨va, la⟩ := o_val ha
  obtain ⟨vb, lb⟩ := o_val hb
  have hv := (ps_val (s := oS a) (t := oS b) (oV_D a) (oV_D b) (by have := P16_12; omega)).1
  have c4 := fun w => told_any (psS (oS a) (oV a) (oS b) (oV b)) (psD (oS a) (oV a) (oS b) (oV b)) w hd
  rw [hv, va, vb] at c4
  clear hv hd va vb la lb
  generalize fitN (a + b) = n at *
  generalize fitE (a + b) = e at *
  generalize nm (psS (oS a) (oV a) (oS b) (oV b)) (psD (oS a) (oV a) (oS b) (oV b)) = Z at *
  generalize nm (oS a) (oV a) = X at *
  generalize nm (oS b) (oV b) = Y at *
  go_enter Try.func23, Try.ntmps23
  go_wp2_with (first | (go_at_call 35; (with_reducible refine (c1 _).mono ?_); rintro e w1 ⟨rfl, hb1⟩) | (go_at_call 35; (with_reducible refine (c2 _).mono ?_); rintro e w2 ⟨rfl, hb2⟩) | (go_at_call 38; (with_reducible refine (c3 _).mono ?_); rintro e w3 ⟨rfl, hb3⟩) | (go_at_call 34; (with_reducible refine (c4 _).mono ?_); rintro e w4 ⟨rfl, hb4⟩))
  go_ret2
  exact ⟨rfl, below_then (below_then (below_then hb1 hb2) hb3) hb4⟩

set_option maxHeartbeats 1000000 in
theorem rsub_any (a b : Int) (w : World) (ha : F64 a) (hb : F64 b) :
    Calls Try.prog 24 #[.int .i64 a, .int .i64 b] w fun e w' => e = .returned (.tuple #[.int .i64 (fitN (a - b)), .int .i64 (fitE (a - b))]) ∧ Below w.heap.size w w' := by
  have c1 := fun w => of_any' a w ha
  have c2 := fun w => of_any' b w hb
  have c5 := fun w => neg_any (oS b) (oV b) w (oV_D b)
  have c3 := fun w => add_any (oS a) (!(oS b)) (oV a) (oV b) w (oV_D a) (oV_D b)
  have hd := ps_D (s := oS a) (t := !(oS b)) (oV_D a) (oV_D b)
  obtain ⟨va, la⟩ := o_val ha
  obtain ⟨vb, lb⟩ := o_val hb
  have hv := (ps_val (s := oS a) (t := !(oS b)) (oV_D a) (oV_D b) (by have := P16_12; omega)).1
  have c4 := fun w => told_any (psS (oS a) (oV a) (!(oS b)) (oV b)) (psD (oS a) (oV a) (!(oS b)) (oV b)) w hd
  rw [hv, va, sv_not, vb, ← Int.sub_eq_add_neg] at c4
  clear hv hd va vb la lb
  generalize fitN (a - b) = n at *
  generalize fitE (a - b) = e at *
  generalize nm (psS (oS a) (oV a) (!(oS b)) (oV b)) (psD (oS a) (oV a) (!(oS b)) (oV b)) = Z at *
  generalize nm (oS a) (oV a) = X at *
  generalize nm (oS b) (oV b) = Y at *
  generalize nm (!(oS b)) (oV b) = Y2 at *
  go_enter Try.func24, Try.ntmps24
  go_wp2_with (first | (go_at_call 35; (with_reducible refine (c1 _).mono ?_); rintro e w1 ⟨rfl, hb1⟩) | (go_at_call 35; (with_reducible refine (c2 _).mono ?_); rintro e w2 ⟨rfl, hb2⟩) | (go_at_call 39; (with_reducible refine (c5 _).mono ?_); rintro e w5 ⟨rfl, hb5⟩) | (go_at_call 38; (with_reducible refine (c3 _).mono ?_); rintro e w3 ⟨rfl, hb3⟩) | (go_at_call 34; (with_reducible refine (c4 _).mono ?_); rintro e w4 ⟨rfl, hb4⟩))
  go_ret2
  exact ⟨rfl, below_then (below_then (below_then (below_then hb1 hb2) hb5) hb3) hb4⟩

set_option maxHeartbeats 1000000 in
theorem rneg_any (a : Int) (w : World) (ha : F64 a) :
    Calls Try.prog 25 #[.int .i64 a] w fun e w' => e = .returned (.tuple #[.int .i64 (fitN (-a)), .int .i64 (fitE (-a))]) ∧ Below w.heap.size w w' := by
  have c1 := fun w => of_any' a w ha
  have c5 := fun w => neg_any (oS a) (oV a) w (oV_D a)
  obtain ⟨va, la⟩ := o_val ha
  have c4 := fun w => told_any (!(oS a)) (oV a) w (oV_D a)
  rw [sv_not, va] at c4
  clear va la
  generalize fitN (-a) = n at *
  generalize fitE (-a) = e at *
  generalize nm (oS a) (oV a) = X at *
  generalize nm (!(oS a)) (oV a) = Y2 at *
  go_enter Try.func25, Try.ntmps25
  go_wp2_with (first | (go_at_call 35; (with_reducible refine (c1 _).mono ?_); rintro e w1 ⟨rfl, hb1⟩) | (go_at_call 39; (with_reducible refine (c5 _).mono ?_); rintro e w5 ⟨rfl, hb5⟩) | (go_at_call 34; (with_reducible refine (c4 _).mono ?_); rintro e w4 ⟨rfl, hb4⟩))
  go_ret2
  exact ⟨rfl, below_then (below_then hb1 hb5) hb4⟩

theorem fadd_any (a b : Int) (w : World) (ha : F64 a) (hb : F64 b) :
    Calls Try.prog 20 #[.int .i64 a, .int .i64 b] w fun e w' => e = .returned (.tuple #[.int .i64 (fitN (a + b)), .int .i64 (fitE (a + b))]) ∧ w = w' := by
  by_cases h : -9223372036854775808 ≤ a + b ∧ a + b ≤ 9223372036854775807
  · rw [(fit_yes h).2.1, (fit_yes h).2.2]; exact add_yes a b w ha hb h
  · rw [(fit_no h).2.1, (fit_no h).2.2]; exact add_no a b w ha hb h
theorem fneg_any (a : Int) (w : World) (ha : F64 a) :
    Calls Try.prog 22 #[.int .i64 a] w fun e w' => e = .returned (.tuple #[.int .i64 (fitN (-a)), .int .i64 (fitE (-a))]) ∧ w = w' := by
  unfold F64 at ha
  by_cases h : a = -9223372036854775808
  · subst h
    rw [(fit_no (v := -(-9223372036854775808)) (by omega)).2.1, (fit_no (v := -(-9223372036854775808)) (by omega)).2.2]; exact neg_no w
  · rw [(fit_yes (v := -a) (by omega)).2.1, (fit_yes (v := -a) (by omega)).2.2]; exact neg_yes a w (by omega) (by omega)
set_option maxHeartbeats 400000 in
theorem sub_yes (a b : Int) (w : World) (ha : F64 a) (hb : F64 b) (hc : F64 (a - b)) :
    Calls Try.prog 21 #[.int .i64 a, .int .i64 b] w fun e w' => e = .returned (.tuple #[.int .i64 (a - b), .int .i64 0]) ∧ w = w' := by
  unfold F64 at ha hb hc
  by_cases h1 : 0 ≤ a <;> by_cases h2 : b < 0 <;> by_cases h3 : a - b < 0 <;> first | (exfalso; omega) | skip
  all_goals
    first
    | have h4 : a < 0 := by omega
    | have h4 : ¬ a < 0 := by omega
    first
    | have h5 : 0 ≤ b := by omega
    | have h5 : ¬ 0 ≤ b := by omega
    first
    | have h6 : 0 ≤ a - b := by omega
    | have h6 : ¬ 0 ≤ a - b := by omega
    go_enter Try.func21, Try.ntmps21
    go_wp2
    go_ret2
    exact ⟨rfl, rfl⟩
set_option maxHeartbeats 400000 in
theorem sub_no (a b : Int) (w : World) (ha : F64 a) (hb : F64 b) (hc : ¬ F64 (a - b)) :
    Calls Try.prog 21 #[.int .i64 a, .int .i64 b] w fun e w' => e = .returned (.tuple #[.int .i64 0, .int .i64 6]) ∧ w = w' := by
  unfold F64 at ha hb hc
  by_cases h1 : 0 ≤ a
  · have h2 : b < 0 := by omega
    obtain ⟨x, hx, hx2⟩ : ∃ x, wrap64 (a - b) = x ∧ x < 0 := ⟨_, rfl, by rw [wrap64_over _ (by omega) (by omega)]; omega⟩
    clear hc
    go_enter Try.func21, Try.ntmps21
    go_wp2
    go_ret2
    exact ⟨rfl, rfl⟩
  · have h2 : 0 ≤ b := by omega
    have h4 : a < 0 := by omega
    obtain ⟨x, hx, hx2⟩ : ∃ x, wrap64 (a - b) = x ∧ 0 ≤ x := ⟨_, rfl, by rw [wrap64_under _ (by omega) (by omega)]; omega⟩
    clear hc
    go_enter Try.func21, Try.ntmps21
    go_wp2
    go_ret2
    exact ⟨rfl, rfl⟩
theorem fsub_any (a b : Int) (w : World) (ha : F64 a) (hb : F64 b) :
    Calls Try.prog 21 #[.int .i64 a, .int .i64 b] w fun e w' => e = .returned (.tuple #[.int .i64 (fitN (a - b)), .int .i64 (fitE (a - b))]) ∧ w = w' := by
  by_cases h : -9223372036854775808 ≤ a - b ∧ a - b ≤ 9223372036854775807
  · rw [(fit_yes h).2.1, (fit_yes h).2.2]; exact sub_yes a b w ha hb h
  · rw [(fit_no h).2.1, (fit_no h).2.2]; exact sub_no a b w ha hb h

set_option maxRecDepth 100000 in
set_option maxHeartbeats 1000000 in
theorem sums_walk (a b : Int) (W : World) (ha : F64 a) (hb : F64 b) :
    Calls Try.prog 7 #[.int .i64 a, .int .i64 b] W fun e W' => e = .returned (.bool true) ∧ Below W.heap.size W W' := by
  have c1 := fun w => fadd_any a b w ha hb
  have c2 := fun w => fsub_any a b w ha hb
  have c3 := fun w => fneg_any a w ha
  have c4 := fun w => radd_any a b w ha hb
  have c5 := fun w => rsub_any a b w ha hb
  have c6 := fun w => rneg_any a w ha
  generalize fitN (a + b) = n1 at *
  generalize fitE (a + b) = e1 at *
  generalize fitN (a - b) = n2 at *
  generalize fitE (a - b) = e2 at *
  generalize fitN (-a) = n3 at *
  generalize fitE (-a) = e3 at *
  go_enter Try.func7, Try.ntmps7
  go_wp2_with (first | (go_at_call 20; (with_reducible refine (c1 _).mono ?_); rintro e w1 ⟨rfl, rfl⟩) | (go_at_call 21; (with_reducible refine (c2 _).mono ?_); rintro e w2 ⟨rfl, rfl⟩) | (go_at_call 22; (with_reducible refine (c3 _).mono ?_); rintro e w3 ⟨rfl, rfl⟩) | (go_at_call 23; (with_reducible refine (c4 _).mono ?_); rintro e w4 ⟨rfl, hb4⟩) | (go_at_call 24; (with_reducible refine (c5 _).mono ?_); rintro e w5 ⟨rfl, hb5⟩) | (go_at_call 25; (with_reducible refine (c6 _).mono ?_); rintro e w6 ⟨rfl, hb6⟩) | (go_at_call 17; (with_reducible refine (known01 _).mono ?_); rintro e w7 ⟨rfl, hb7⟩))
  go_ret
  exact ⟨rfl, below_then (below_then (below_then hb4 hb5) hb6) hb7⟩
end Go.Proofs.Ytanfhjfpdgjphaa
