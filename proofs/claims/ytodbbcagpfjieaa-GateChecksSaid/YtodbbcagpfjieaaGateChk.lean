/- GateChecks: the walk. No condition. -/
import Derived.Test.YtodbbcagpfjieaaRef04b
import Derived.Test.YtodbbcagpfjieaaGateLaw
namespace Go.Proofs.Ytodbbcagpfjieaa
open Go.RowKit

set_option maxHeartbeats 400000 in
theorem cancel_any (A : Array Value) (w : World) (h : Rowk accKs A) :
    Calls Try.prog 20 #[.agg A] w fun e w' => e = .returned (.int .i64 (if N A 0 = 0 then 2 else 0)) ∧ Below w.heap.size w w' := by
  have a0 := (h.isN (i := 0) rfl).1
  have hsz : A.size = 4 := h.1
  have HS := Lib.hid hsz
  clear hsz
  by_cases q : N A 0 = 0
  · have q' : (N A 0 == 0) = true := by simp [q]
    have Q := Lib.hid q
    clear q
    go_enter Try.func20, Try.ntmps20
    go_wp2
    go_ret
    exact ⟨rfl, below_new _ _⟩
  · have q' : (N A 0 == 0) = false := by simp [q]
    go_enter Try.func20, Try.ntmps20
    go_wp2
    go_ret
    exact ⟨rfl, below_new _ _⟩

set_option maxHeartbeats 1000000 in
theorem checks_walk (G : Array Value) (w : World) (h : Rowk gateKs G) :
    Calls Try.prog 11 #[.agg G] w fun e w' => e = .returned (.bool true) ∧ Below w.heap.size w w' := by
  have hsz : G.size = 37 := h.1
  have g := isGate_of h
  have a27 := g.num.1
  have hAr : Rowk accKs (G.extract 27 31) := h.extract 27 31 (by decide)
  have hA0 : N (G.extract 27 31) 0 = N G 27 := N_extract (by omega) (by omega)
  obtain ⟨A, hA⟩ : ∃ A, G.extract 27 31 = A := ⟨_, rfl⟩
  rw [hA] at hAr hA0
  have HS := Lib.hid hsz
  have HA := Lib.hid hA
  clear hsz hA
  obtain ⟨c, hc⟩ : ∃ c, gchk G = c := ⟨_, rfl⟩
  have c1 : ∀ w, Calls Try.prog 12 #[.agg G] w fun e w' => e = .returned (.int .i64 c) ∧ Below w.heap.size w w' := fun w => by rw [← hc]; exact check_any G w g
  have c2 : ∀ w, Calls Try.prog 19 #[.agg G] w fun e w' => e = .returned (.int .i64 c) ∧ Below w.heap.size w w' := fun w => by rw [← hc]; exact rcheck_any G w g
  clear hc
  by_cases q : N G 27 = 0
  · have q' : (N G 27 == 0) = true := by simp [q]
    have c3 : ∀ w, Calls Try.prog 20 #[.agg A] w fun e w' => e = .returned (.int .i64 2) ∧ Below w.heap.size w w' := fun w => by
      have := cancel_any A w hAr; rw [if_pos (by rw [hA0]; exact q)] at this; exact this
    clear hA0 q
    go_enter Try.func11, Try.ntmps11
    go_wp2
    refine wp_region_below (by kernel_rfl) (by kernel_rfl) ?_
    repeat (first | ((with_reducible apply q_skip); (case hw => rfl); (try simp only [Act.put, List.setIfInBounds_toArray, List.set_cons_zero, List.set_cons_succ])) | ((with_reducible refine at_qload 32 ?_); refine q_load_part (by rfl) 32 _ rfl (w.heap.size) 0 rfl _ (G) _ 37 (heap_alloc_new _ _) Try.underlying32 rfl (by kernel_rfl) (by rw [HS.out]; omega) (G) (extract_all HS.out) ?_; try simp only [Act.put, List.setIfInBounds_toArray, List.set_cons_zero, List.set_cons_succ]) | ((with_reducible refine at_qload 30 ?_); refine q_load_part (by rfl) 30 _ rfl (w.heap.size) 27 rfl _ (G) _ 4 (heap_alloc_new _ _) Try.underlying30 rfl (by kernel_rfl) (by rw [HS.out]; omega) (A) (HA.out) ?_; try simp only [Act.put, List.setIfInBounds_toArray, List.set_cons_zero, List.set_cons_succ]) | ((with_reducible refine at_qcall 12 ?_); refine q_call_below _ 12 _ (by rfl) (c1) (fun wq hbq => by go_simp) ?_; try simp only [Act.put, List.setIfInBounds_toArray, List.set_cons_zero, List.set_cons_succ]) | ((with_reducible refine at_qcall 19 ?_); refine q_call_below _ 19 _ (by rfl) (c2) (fun wq hbq => by go_simp) ?_; try simp only [Act.put, List.setIfInBounds_toArray, List.set_cons_zero, List.set_cons_succ]) | ((with_reducible refine at_qcall 20 ?_); refine q_call_below _ 20 _ (by rfl) (c3) (fun wq hbq => by go_simp) ?_; try simp only [Act.put, List.setIfInBounds_toArray, List.set_cons_zero, List.set_cons_succ]) | ((with_reducible refine at_qcall 13 ?_); refine q_call_below _ 13 _ (by rfl) (known12) (fun wq hbq => by go_simp) ?_; try simp only [Act.put, List.setIfInBounds_toArray, List.set_cons_zero, List.set_cons_succ]) | ((with_reducible apply q_val); (case hw => rfl); (case hv => intro wq hbq; have hcq := (cells_of (kept hbq (heap_alloc_new w (.cells G 32)))).1; go_simp; try rfl); (try simp only [Act.put, List.setIfInBounds_toArray, List.set_cons_zero, List.set_cons_succ])))
    refine q_nil ?_
    intro w1 hb
    go_wp2
    go_ret
    exact ⟨rfl, below_then (below_new _ _) hb⟩
  · have q' : (N G 27 == 0) = false := by simp [q]
    have c3 : ∀ w, Calls Try.prog 20 #[.agg A] w fun e w' => e = .returned (.int .i64 0) ∧ Below w.heap.size w w' := fun w => by
      have := cancel_any A w hAr; rw [if_neg (by rw [hA0]; exact q)] at this; exact this
    clear hA0 q
    go_enter Try.func11, Try.ntmps11
    go_wp2
    refine wp_region_below (by kernel_rfl) (by kernel_rfl) ?_
    repeat (first | ((with_reducible apply q_skip); (case hw => rfl); (try simp only [Act.put, List.setIfInBounds_toArray, List.set_cons_zero, List.set_cons_succ])) | ((with_reducible refine at_qload 32 ?_); refine q_load_part (by rfl) 32 _ rfl (w.heap.size) 0 rfl _ (G) _ 37 (heap_alloc_new _ _) Try.underlying32 rfl (by kernel_rfl) (by rw [HS.out]; omega) (G) (extract_all HS.out) ?_; try simp only [Act.put, List.setIfInBounds_toArray, List.set_cons_zero, List.set_cons_succ]) | ((with_reducible refine at_qload 30 ?_); refine q_load_part (by rfl) 30 _ rfl (w.heap.size) 27 rfl _ (G) _ 4 (heap_alloc_new _ _) Try.underlying30 rfl (by kernel_rfl) (by rw [HS.out]; omega) (A) (HA.out) ?_; try simp only [Act.put, List.setIfInBounds_toArray, List.set_cons_zero, List.set_cons_succ]) | ((with_reducible refine at_qcall 12 ?_); refine q_call_below _ 12 _ (by rfl) (c1) (fun wq hbq => by go_simp) ?_; try simp only [Act.put, List.setIfInBounds_toArray, List.set_cons_zero, List.set_cons_succ]) | ((with_reducible refine at_qcall 19 ?_); refine q_call_below _ 19 _ (by rfl) (c2) (fun wq hbq => by go_simp) ?_; try simp only [Act.put, List.setIfInBounds_toArray, List.set_cons_zero, List.set_cons_succ]) | ((with_reducible refine at_qcall 20 ?_); refine q_call_below _ 20 _ (by rfl) (c3) (fun wq hbq => by go_simp) ?_; try simp only [Act.put, List.setIfInBounds_toArray, List.set_cons_zero, List.set_cons_succ]) | ((with_reducible refine at_qcall 13 ?_); refine q_call_below _ 13 _ (by rfl) (known12) (fun wq hbq => by go_simp) ?_; try simp only [Act.put, List.setIfInBounds_toArray, List.set_cons_zero, List.set_cons_succ]) | ((with_reducible apply q_val); (case hw => rfl); (case hv => intro wq hbq; have hcq := (cells_of (kept hbq (heap_alloc_new w (.cells G 32)))).1; go_simp; try rfl); (try simp only [Act.put, List.setIfInBounds_toArray, List.set_cons_zero, List.set_cons_succ])))
    refine q_nil ?_
    intro w1 hb
    go_wp2
    go_ret
    exact ⟨rfl, below_then (below_new _ _) hb⟩
end Go.Proofs.Ytodbbcagpfjieaa
