/- slices' ContainsFunc for 'below 0', and the order of what is left over: what they answer. Condition: the numbers fit their kinds. -/
import Derived.Test.YtanfhjfpdgjphaaSortE
import Derived.Test.YtanfhjfpdgjphaaSumI
namespace Go.Proofs.Ytanfhjfpdgjphaa
set_option linter.unusedVariables false
set_option linter.unusedSimpArgs false
open Go.RowKit

set_option maxRecDepth 100000 in
set_option maxHeartbeats 1000000 in
theorem idx_any (a : Option Addr) (n cap : Nat) (Z : Nat → Int) (w : World) (hA : Ints w a n Z) (hn : n ≤ 2000) :
    Calls Try.prog 53 #[.slice a n cap, .func (.func 43) #[] #[]] w fun e w' => (∃ r : Int, e = .returned (.int .i64 r) ∧ (0 ≤ r ↔ ∃ i, i < n ∧ Z i < 0)) ∧ w = w' := by
  have HA := Lib.hid hA
  clear hA
  go_enter Try.func53, Try.ntmps53
  go_wp2
  go_loopg [8] n (fun gh vi wr => ∃ k : Nat, k ≤ n ∧ gh = n - k ∧ vi = .int .i64 k ∧ (∀ j, j < k → 0 ≤ Z j) ∧ w = wr)
  case atStart => exact ⟨0, by omega, by omega, rfl, fun j h => by omega, rfl⟩
  case round =>
    obtain ⟨k, hk, rfl, rfl, hj, rfl⟩ := hrel
    have HJ := Lib.hid hj
    clear hj
    by_cases hlt : k < n
    · obtain ⟨g, off, A, t, fr, rfl, hgA, hz⟩ := HA.out k hlt
      have hcA := cellF hgA
      have hki : (k : Int) < n := by omega
      have HZ := Lib.hid (show Z k = Z k from rfl)
      obtain ⟨z, hze⟩ : ∃ z, z = Z k := ⟨_, rfl⟩
      rw [← hze] at hz
      have HZE := Lib.hid hze
      clear hze HZ
      by_cases h0 : z < 0
      · go_wp2
        go_ret
        exact ⟨⟨k, rfl, fun _ => ⟨k, hlt, by rw [← HZE.out]; exact h0⟩, fun _ => by omega⟩, rfl⟩
      · go_wp2
        go_roundg (n - (k + 1))
        case measure => omega
        case rel =>
          refine ⟨k + 1, by omega, rfl, by go_num, fun j hj => ?_, rfl⟩
          by_cases e : j = k
          · subst e; rw [← HZE.out]; omega
          · exact HJ.out j (by omega)
    · obtain rfl : k = n := by omega
      go_wp2
      go_ret
      refine ⟨⟨_, rfl, fun h => by omega, fun ⟨i, hi, hz⟩ => ?_⟩, rfl⟩
      have := HJ.out i hi
      omega

set_option maxHeartbeats 1000000 in
theorem has_any (a : Option Addr) (n cap : Nat) (Z : Nat → Int) (w : World) (hA : Ints w a n Z) (hn : n ≤ 2000) :
    Calls Try.prog 42 #[.slice a n cap, .func (.func 43) #[] #[]] w fun e w' => (∃ b : Bool, e = .returned (.bool b) ∧ (b = true ↔ ∃ i, i < n ∧ Z i < 0)) ∧ w = w' := by
  have c := idx_any a n cap Z w hA hn
  clear hA
  go_enter Try.func42, Try.ntmps42
  go_wp2_with (first | (go_at_call 53; (with_reducible refine (c).mono ?_); rintro e w1 ⟨⟨r, rfl, hr⟩, rfl⟩; replace hr := Lib.hid hr))
  go_ret
  exact ⟨⟨_, rfl, (decide_eq_true_iff).trans hr.out⟩, rfl⟩

/-- which rest is the greater -/
def rcf (R : Nat → Nat) (x y : Nat) : Int := if R y < R x then -1 else if R x < R y then 1 else 0
theorem rcf_key (R : Nat → Nat) (x y : Nat) : rcf R x y < 0 ↔ -(R x : Int) < -(R y : Int) := by
  unfold rcf; split
  · omega
  · split <;> omega
set_option maxHeartbeats 1000000 in
theorem cmp_any (gv gu n x y : Nat) (R : Nat → Nat) (U A : Array Value) (tv tu : TypeId) (fv fu : Nat × Nat) (w : World) (hgA : w.heap[gv]? = some (.cells A tv fv)) (hA : A[0]? = some (.slice (some ⟨gu, 0, none⟩) n n)) (hgB : w.heap[gu]? = some (.cells U tu fu))
    (hU : ∀ i, i < n → U[i]? = some (.int .u64 (R i))) (hx : x < n) (hy : y < n) :
    Calls Try.prog 45 #[.int .i64 x, .int .i64 y, .pointer (some ⟨gv, 0, none⟩)] w fun e w' => e = .returned (.int .i64 (rcf R x y)) ∧ Below w.heap.size w w' := by
  have u1 := hU x hx
  have u2 := hU y hy
  obtain ⟨p, hp⟩ : ∃ p, p = R x := ⟨_, rfl⟩
  obtain ⟨q, hq⟩ : ∃ q, q = R y := ⟨_, rfl⟩
  rw [← hp] at u1
  rw [← hq] at u2
  have HF := Lib.hid (show rcf R x y = if q < p then -1 else if p < q then 1 else 0 from by rw [hp, hq]; rfl)
  have hxn : (x : Int) < n := by omega
  have hyn : (y : Int) < n := by omega
  clear hU hp hq
  by_cases h1 : q < p
  · have h1i : (q : Int) < p := by omega
    go_enter Try.func45, Try.ntmps45
    go_wp2
    refine wp_region_below (by kernel_rfl) (by kernel_rfl) ?_
    repeat (first | ((with_reducible apply q_skip); (case hw => rfl); (try simp only [Act.put, List.setIfInBounds_toArray, List.set_cons_zero, List.set_cons_succ])) | ((with_reducible apply q_val); (case hw => rfl); (case hv => intro wq hbq; have hcq := cellF (Ytanfhjfpdgjphaa.kept hbq hgA); have hcr := cellF (Ytanfhjfpdgjphaa.kept hbq hgB); go_simp; try rfl); (try simp only [Act.put, List.setIfInBounds_toArray, List.set_cons_zero, List.set_cons_succ])))
    refine q_nil ?_
    intro w4 hb4
    go_wp2
    go_ret
    exact ⟨by rw [HF.out, if_pos h1]; rfl, hb4⟩
  · have h1i : ¬ (q : Int) < p := by omega
    by_cases h2 : p < q
    · have h2i : (p : Int) < q := by omega
      go_enter Try.func45, Try.ntmps45
      go_wp2
      refine wp_region_below (by kernel_rfl) (by kernel_rfl) ?_
      repeat (first | ((with_reducible apply q_skip); (case hw => rfl); (try simp only [Act.put, List.setIfInBounds_toArray, List.set_cons_zero, List.set_cons_succ])) | ((with_reducible apply q_val); (case hw => rfl); (case hv => intro wq hbq; have hcq := cellF (Ytanfhjfpdgjphaa.kept hbq hgA); have hcr := cellF (Ytanfhjfpdgjphaa.kept hbq hgB); go_simp; try rfl); (try simp only [Act.put, List.setIfInBounds_toArray, List.set_cons_zero, List.set_cons_succ])))
      refine q_nil ?_
      intro w4 hb4
      have hgA4 := Ytanfhjfpdgjphaa.kept hb4 hgA
      have hgB4 := Ytanfhjfpdgjphaa.kept hb4 hgB
      have HB4 := Lib.hid hb4
      clear hgA hgB hb4
      have hgA := hgA4
      have hgB := hgB4
      go_wp2
      refine wp_region_below (by kernel_rfl) (by kernel_rfl) ?_
      repeat (first | ((with_reducible apply q_skip); (case hw => rfl); (try simp only [Act.put, List.setIfInBounds_toArray, List.set_cons_zero, List.set_cons_succ])) | ((with_reducible apply q_val); (case hw => rfl); (case hv => intro wq hbq; have hcq := cellF (Ytanfhjfpdgjphaa.kept hbq hgA); have hcr := cellF (Ytanfhjfpdgjphaa.kept hbq hgB); go_simp; try rfl); (try simp only [Act.put, List.setIfInBounds_toArray, List.set_cons_zero, List.set_cons_succ])))
      refine q_nil ?_
      intro w5 hb5
      go_wp2
      go_ret
      exact ⟨by rw [HF.out, if_neg h1, if_pos h2]; rfl, below_then HB4.out hb5⟩
    · have h2i : ¬ (p : Int) < q := by omega
      go_enter Try.func45, Try.ntmps45
      go_wp2
      refine wp_region_below (by kernel_rfl) (by kernel_rfl) ?_
      repeat (first | ((with_reducible apply q_skip); (case hw => rfl); (try simp only [Act.put, List.setIfInBounds_toArray, List.set_cons_zero, List.set_cons_succ])) | ((with_reducible apply q_val); (case hw => rfl); (case hv => intro wq hbq; have hcq := cellF (Ytanfhjfpdgjphaa.kept hbq hgA); have hcr := cellF (Ytanfhjfpdgjphaa.kept hbq hgB); go_simp; try rfl); (try simp only [Act.put, List.setIfInBounds_toArray, List.set_cons_zero, List.set_cons_succ])))
      refine q_nil ?_
      intro w4 hb4
      have hgA4 := Ytanfhjfpdgjphaa.kept hb4 hgA
      have hgB4 := Ytanfhjfpdgjphaa.kept hb4 hgB
      have HB4 := Lib.hid hb4
      clear hgA hgB hb4
      have hgA := hgA4
      have hgB := hgB4
      go_wp2
      refine wp_region_below (by kernel_rfl) (by kernel_rfl) ?_
      repeat (first | ((with_reducible apply q_skip); (case hw => rfl); (try simp only [Act.put, List.setIfInBounds_toArray, List.set_cons_zero, List.set_cons_succ])) | ((with_reducible apply q_val); (case hw => rfl); (case hv => intro wq hbq; have hcq := cellF (Ytanfhjfpdgjphaa.kept hbq hgA); have hcr := cellF (Ytanfhjfpdgjphaa.kept hbq hgB); go_simp; try rfl); (try simp only [Act.put, List.setIfInBounds_toArray, List.set_cons_zero, List.set_cons_succ])))
      refine q_nil ?_
      intro w5 hb5
      go_wp2
      go_ret
      exact ⟨by rw [HF.out, if_neg h1, if_neg h2]; rfl, below_then HB4.out hb5⟩
end Go.Proofs.Ytanfhjfpdgjphaa
