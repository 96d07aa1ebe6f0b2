/- The total of what is needed: expose's own. Condition: the numbers fit their kinds. -/
import Derived.Test.YtnpjclodcgejgaaNeed
import Derived.Test.YtnpjclodcgejgaaSumI
namespace Go.Proofs.Ytnpjclodcgejgaa
set_option linter.unusedVariables false
set_option linter.unusedSimpArgs false
open Go.RowKit

def three (a b c : Int) : Nat → Int := fun i => if i = 0 then a else if i = 1 then b else c
theorem three_ints {w : World} {g : Nat} {a b c : Int} {t : TypeId} {fr : Nat × Nat} (h : w.heap[g]? = some (.cells #[.int .i64 a, .int .i64 b, .int .i64 c] t fr)) : Ints w (some ⟨g, 0, none⟩) 3 (three a b c) := fun i hi => by
  refine ⟨g, 0, _, t, fr, rfl, h, ?_⟩
  have : i = 0 ∨ i = 1 ∨ i = 2 := by omega
  rcases this with rfl | rfl | rfl <;> rfl
theorem three_sum (a b c : Int) : sumZ (three a b c) 3 = a + b + c := by simp [sumZ, three]
def tot (s : Int) : Int := if 9223372036854775807 < s then 9223372036854775807 else if s < -9223372036854775808 then -9223372036854775808 else s
theorem tdiv4 (m : Int) : m - 3 ≤ 4 * m.tdiv 4 ∧ 4 * m.tdiv 4 ≤ m + 3 := by
  have h1 := Int.mul_tdiv_add_tmod m 4
  have h2 : -3 ≤ m.tmod 4 ∧ m.tmod 4 ≤ 3 := by
    have h := Int.natAbs_tmod m 4
    have h' : (m.tmod 4).natAbs < 4 := by rw [h]; exact Nat.mod_lt _ (by decide)
    omega
  omega

set_option maxRecDepth 100000 in
set_option maxHeartbeats 1000000 in
theorem total_any (m v u : Int) (w : World) (hm : F64 m) (hv : F64 v) (hu : F64 u) :
    Calls Try.prog 16 #[.agg (r3 m v u)] w fun e w' => e = .returned (.int .i64 (tot (m + v + u))) ∧ Below w.heap.size w w' := by
  have cs : ∀ w g t fr, w.heap[g]? = some (Obj.cells #[.int .i64 m, .int .i64 v, .int .i64 u] t fr) → Calls Try.prog 30 #[.slice (some ⟨g, 0, none⟩) 3 3] w fun e w' => e = .returned (.tuple #[.int .i64 (fitN (m + v + u)), .int .i64 (fitE (m + v + u))]) ∧ w = w' := fun w g t fr h => by
    have := fsum_any (some ⟨g, 0, none⟩) 3 3 (three m v u) w (fun i => by unfold three; repeat (first | assumption | split)) (three_ints h) (by omega)
    rw [three_sum] at this
    exact this
  have n0 : (r3 m v u)[0]? = some (.int .i64 m) := rfl
  have n1 : (r3 m v u)[1]? = some (.int .i64 v) := rfl
  have n2 : (r3 m v u)[2]? = some (.int .i64 u) := rfl
  obtain ⟨m1, m2⟩ := tdiv4 m
  obtain ⟨v1, v2⟩ := tdiv4 v
  obtain ⟨u1, u2⟩ := tdiv4 u
  unfold F64 at hm hv hu
  generalize hs : m + v + u = s at *
  have hb := fun (A : Array Value) => (below_alloc (below_new w (Obj.cells A 35)) (Obj.cells #[.int .i64 m, .int .i64 v, .int .i64 u] 2))
  by_cases hf : -9223372036854775808 ≤ s ∧ s ≤ 9223372036854775807
  · rw [(fit_yes hf).2.1, (fit_yes hf).2.2] at cs
    have CS := Lib.hid cs
    have HT := Lib.hid (show tot s = s by unfold tot; rw [if_neg (by omega), if_neg (by omega)])
    clear cs m1 m2 v1 v2 u1 u2 hs hf
    generalize r3 m v u = R at *
    go_enter Try.func16, Try.ntmps16
    go_wp2_with (first | (go_at_call 30; (with_reducible refine (CS.out _ _ _ _ (heap_alloc2_new _ _ _)).mono ?_); rintro e w1 ⟨rfl, rfl⟩))
    go_ret
    exact ⟨by rw [HT.out]; rfl, hb _⟩
  · rw [(fit_no hf).2.1, (fit_no hf).2.2] at cs
    have CS := Lib.hid cs
    have h1 : wrap64 (m.tdiv 4 + v.tdiv 4) = m.tdiv 4 + v.tdiv 4 := by unfold wrap64; omega
    have h2 : wrap64 (m.tdiv 4 + v.tdiv 4 + u.tdiv 4) = m.tdiv 4 + v.tdiv 4 + u.tdiv 4 := by unfold wrap64; omega
    clear cs
    generalize r3 m v u = R at *
    by_cases hp : 0 < s
    · have HT := Lib.hid (show tot s = 9223372036854775807 by unfold tot; rw [if_pos (by omega)])
      have h3 : 0 < m.tdiv 4 + v.tdiv 4 + u.tdiv 4 := by omega
      clear hs hf
      go_enter Try.func16, Try.ntmps16
      go_wp2_with (first | (go_at_call 30; (with_reducible refine (CS.out _ _ _ _ (heap_alloc2_new _ _ _)).mono ?_); rintro e w1 ⟨rfl, rfl⟩))
      go_ret
      exact ⟨by rw [HT.out]; rfl, hb _⟩
    · have HT := Lib.hid (show tot s = -9223372036854775808 by unfold tot; rw [if_neg (by omega), if_pos (by omega)])
      have h3 : ¬ 0 < m.tdiv 4 + v.tdiv 4 + u.tdiv 4 := by omega
      clear hs hf
      go_enter Try.func16, Try.ntmps16
      go_wp2_with (first | (go_at_call 30; (with_reducible refine (CS.out _ _ _ _ (heap_alloc2_new _ _ _)).mono ?_); rintro e w1 ⟨rfl, rfl⟩))
      go_ret
      exact ⟨by rw [HT.out]; rfl, hb _⟩
end Go.Proofs.Ytnpjclodcgejgaa
