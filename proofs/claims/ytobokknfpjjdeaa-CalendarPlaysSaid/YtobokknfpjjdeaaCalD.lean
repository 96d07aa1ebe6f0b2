/- Which contract expires ahead of another; Due and Expire of a calendar. Condition: the calendar is one. -/
import Derived.Test.YtobokknfpjjdeaaCalS
namespace Go.Proofs.Ytobokknfpjjdeaa
set_option linter.unusedVariables false
set_option linter.unusedSimpArgs false
open Go.RowKit

/-- by the last day, on one day by the number -/
def aheadB (A B : Array Value) : Bool := decide (N A 23 < N B 23) || (decide (N A 23 = N B 23) && decide (N A 0 < N B 0))
theorem ahead_any (A B : Array Value) (w : World) (hA : IsSpec A) (hB : IsSpec B) :
    Calls Try.prog 69 #[.agg A, .agg B] w fun e w' => e = .returned (.bool (aheadB A B)) ∧ Below w.heap.size w w' := by
  have hb := below_alloc (below_new w (Obj.cells A 61)) (Obj.cells B 61)
  have a0 := hA.c0.u32.1
  have a3 := hA.c23.u32.1
  have b0 := hB.c0.u32.1
  have b3 := hB.c23.u32.1
  have HF := Lib.hid (show aheadB A B = (decide (N A 23 < N B 23) || (decide (N A 23 = N B 23) && decide (N A 0 < N B 0))) from rfl)
  have HSA := Lib.hid hA.size
  have HSB := Lib.hid hB.size
  clear hA hB
  generalize aheadB A B = r at *
  generalize N A 0 = x0 at *
  generalize N A 23 = x3 at *
  generalize N B 0 = y0 at *
  generalize N B 23 = y3 at *
  by_cases h1 : x3 < y3
  · have HA := Lib.hid (show r = true by rw [HF.out]; simp [h1])
    go_enter Try.func69, Try.ntmps69
    go_wp2
    go_ret
    exact ⟨by rw [HA.out]; rfl, hb⟩
  · by_cases h2 : x3 = y3
    · by_cases h3 : x0 < y0
      · have HA := Lib.hid (show r = true by rw [HF.out]; simp [h2, h3])
        go_enter Try.func69, Try.ntmps69
        go_wp2
        go_ret
        exact ⟨by rw [HA.out]; rfl, hb⟩
      · have HA := Lib.hid (show r = false by rw [HF.out]; simp [h2, h3])
        go_enter Try.func69, Try.ntmps69
        go_wp2
        go_ret
        exact ⟨by rw [HA.out]; rfl, hb⟩
    · have h2' : (x3 == y3) = false := by simp [h2]
      have HA := Lib.hid (show r = false by rw [HF.out]; simp [h1, h2])
      go_enter Try.func69, Try.ntmps69
      go_wp2
      go_ret
      exact ⟨by rw [HA.out]; rfl, hb⟩
theorem aheadB_ext {M X : Array Value} (hM : M.size = 27) (hX : X.size = 27) : aheadB (M.extract 0 25) (X.extract 0 25) = aheadB M X := by
  have e : ∀ (A : Array Value) (j : Nat), A.size = 27 → j < 25 → N (A.extract 0 25) j = N A j := fun A j hA hj => by
    rw [N_extract (by omega) (by omega), Nat.zero_add]
  unfold aheadB
  rw [e M 23 hM (by omega), e X 23 hX (by omega), e M 0 hM (by omega), e X 0 hX (by omega)]
set_option maxHeartbeats 1000000 in
theorem due1_any (M X : Array Value) (gt gb o : Nat) (A : Array Value) (w : World) (hM : IsCon M) (hX : IsCon X) (ht : w.heap[gt]? = some (.cells #[.pointer (some ⟨gb, o, none⟩)] 110 (0, 0))) (hg : w.heap[gb]? = some (.cells A 65 (0, 0))) (hz : o + 27 ≤ A.size) (hx : A.extract o (o + 27) = X) :
    Calls Try.prog 68 #[.agg M, .pointer (some ⟨gt, 0, none⟩)] w fun e w' => e = .returned (.bool (!decide (N M 25 = 3) && aheadB M X)) ∧ Below w.heap.size w w' := by
  have hb := below_new w (Obj.cells M 65)
  have hm := heap_alloc_new w (Obj.cells M 65)
  have ht1 := heap_up (o := Obj.cells M 65) ht
  have hg1 := heap_up (o := Obj.cells M 65) hg
  have HM := Lib.hid hM
  have m25 := hM.st.u8.1
  have HX := Lib.hid (show A.extract o (o + 25) = X.extract 0 25 by
    have h2 := congrArg (fun B : Array Value => B.extract 0 25) hx
    simp only [Array.extract_extract] at h2
    rw [show min (o + 25) (o + 27) = o + 25 by omega] at h2
    simpa using h2)
  have HZ := Lib.hid hz
  have CA := Lib.hid (fun w1 => ahead_any (M.extract 0 25) (X.extract 0 25) w1 hM.sp hX.sp)
  rw [aheadB_ext hM.size hX.size] at CA
  have HE0 := Lib.hid (show ∃ r, r = (!decide (N M 25 = 3) && aheadB M X) from ⟨_, rfl⟩)
  obtain ⟨r, hr⟩ := HE0.out
  rw [← hr]
  have HR := Lib.hid hr
  clear hM hX ht hg hx hz hr
  generalize aheadB M X = ah at *
  generalize N M 25 = s at *
  by_cases hs : s = 3
  · subst hs
    have HE := Lib.hid (show r = false by rw [HR.out]; simp)
    go_enter Try.func68, Try.ntmps68
    refine wp_seq ?_
    go_wp2_with fail
    refine wp_region_below (by kernel_rfl) (by kernel_rfl) ?_
    repeat (first | ((with_reducible apply q_skip); (case hw => rfl); (try simp only [Act.put, List.setIfInBounds_toArray, List.set_cons_zero, List.set_cons_succ])) | ((with_reducible refine at_qload 61 ?_); refine q_load_part (by rfl) 61 _ rfl (w.heap.size) (0) rfl _ (M) _ 25 (hm) Try.underlying61 rfl (by kernel_rfl) (by rw [HM.out.size]; omega) (M.extract 0 25) (rfl) ?_; try simp only [Act.put, List.setIfInBounds_toArray, List.set_cons_zero, List.set_cons_succ]) | ((with_reducible refine at_qload 61 ?_); refine q_load_part (by rfl) 61 _ rfl (gb) (o) rfl _ (A) _ 25 (hg1) Try.underlying61 rfl (by kernel_rfl) (by have := HZ.out; omega) (X.extract 0 25) (HX.out) ?_; try simp only [Act.put, List.setIfInBounds_toArray, List.set_cons_zero, List.set_cons_succ]) | ((with_reducible refine at_qcall 69 ?_); refine q_call_below _ 69 _ (by rfl) (CA.out) (fun wq hbq => by go_simp) ?_; try simp only [Act.put, List.setIfInBounds_toArray, List.set_cons_zero, List.set_cons_succ]) | ((with_reducible apply q_val); (case hw => rfl); (case hv => intro wq hbq; have hcq := cellF (Ytobokknfpjjdeaa.kept hbq hm); have hcr := cellF (Ytobokknfpjjdeaa.kept hbq ht1); go_simp; try rfl); (try simp only [Act.put, List.setIfInBounds_toArray, List.set_cons_zero, List.set_cons_succ])))
    refine q_nil ?_
    intro w6 hb6
    go_wp2
    go_ret
    exact ⟨by rw [HE.out]; rfl, below_then hb hb6⟩
  · have hs' : (s != 3) = true := by simp [hs]
    have HE := Lib.hid (show r = ah by rw [HR.out]; simp [hs])
    go_enter Try.func68, Try.ntmps68
    refine wp_seq ?_
    go_wp2_with fail
    refine wp_region_below (by kernel_rfl) (by kernel_rfl) ?_
    repeat (first | ((with_reducible apply q_skip); (case hw => rfl); (try simp only [Act.put, List.setIfInBounds_toArray, List.set_cons_zero, List.set_cons_succ])) | ((with_reducible refine at_qload 61 ?_); refine q_load_part (by rfl) 61 _ rfl (w.heap.size) (0) rfl _ (M) _ 25 (hm) Try.underlying61 rfl (by kernel_rfl) (by rw [HM.out.size]; omega) (M.extract 0 25) (rfl) ?_; try simp only [Act.put, List.setIfInBounds_toArray, List.set_cons_zero, List.set_cons_succ]) | ((with_reducible refine at_qload 61 ?_); refine q_load_part (by rfl) 61 _ rfl (gb) (o) rfl _ (A) _ 25 (hg1) Try.underlying61 rfl (by kernel_rfl) (by have := HZ.out; omega) (X.extract 0 25) (HX.out) ?_; try simp only [Act.put, List.setIfInBounds_toArray, List.set_cons_zero, List.set_cons_succ]) | ((with_reducible refine at_qcall 69 ?_); refine q_call_below _ 69 _ (by rfl) (CA.out) (fun wq hbq => by go_simp) ?_; try simp only [Act.put, List.setIfInBounds_toArray, List.set_cons_zero, List.set_cons_succ]) | ((with_reducible apply q_val); (case hw => rfl); (case hv => intro wq hbq; have hcq := cellF (Ytobokknfpjjdeaa.kept hbq hm); have hcr := cellF (Ytobokknfpjjdeaa.kept hbq ht1); go_simp; try rfl); (try simp only [Act.put, List.setIfInBounds_toArray, List.set_cons_zero, List.set_cons_succ])))
    refine q_nil ?_
    intro w6 hb6
    go_wp2
    go_ret
    exact ⟨by rw [HE.out]; rfl, below_then hb hb6⟩
end Go.Proofs.Ytobokknfpjjdeaa
