/- A book that is not there, or was not made: Open, Mass, and all its orders: ranges over functions whose rounds never come. No condition. -/
import Derived.Test.YtmjfbilhalkegaaBkN
namespace Go.Proofs.Ytmjfbilhalkegaa
set_option linter.unusedVariables false
set_option linter.unusedSimpArgs false
open Go.RowKit Go.Shelf

set_option maxRecDepth 100000 in
set_option maxHeartbeats 4000000 in
theorem bmass_no {w : World} {p : Option Addr} (n : Int) (h : NoB w p) : Calls Try.prog 22 #[.pointer p, .int .u32 n] w fun e w' => e = .returned (.slice none 0 0) ∧ Below w.heap.size w w' := by
  refine calls_marks Try.func22 rfl ?_
  simp only [Try.ntmps22, List.size_toArray, List.length_cons, List.length_nil, Nat.reduceAdd, Nat.reduceSub, Array.replicate_succ, Array.replicate_zero, List.push_toArray, List.append_toArray, List.nil_append, List.cons_append]
  go_wp2_with ((go_at_call 24; (with_reducible refine (ball_any _).mono ?_); rintro e w6 ⟨rfl, rfl⟩))
  have hB5 : Below w.heap.size w ((((w.alloc (Obj.cells #[Value.pointer p] 23)).alloc (Obj.cells #[Value.int IntKind.u32 n] 28)).alloc (Obj.cells #[Value.slice none 0 0] 35)).alloc (Obj.cells #[Value.pointer p] 23)) := below_alloc (below_alloc (below_alloc (below_new _ _) _) _) _
  have h6 : ((((w.alloc (Obj.cells #[Value.pointer p] 23)).alloc (Obj.cells #[Value.int IntKind.u32 n] 28)).alloc (Obj.cells #[Value.slice none 0 0] 35)).alloc (Obj.cells #[Value.pointer p] 23)).heap[w.heap.size + 1 + 1]? = some (.cells #[Value.slice none 0 0] 35 (0, 0)) := by repeat (first | exact heap_new (by simp; done) | refine heap_up ?_)
  have hbox : ((((w.alloc (Obj.cells #[Value.pointer p] 23)).alloc (Obj.cells #[Value.int IntKind.u32 n] 28)).alloc (Obj.cells #[Value.slice none 0 0] 35)).alloc (Obj.cells #[Value.pointer p] 23)).heap[w.heap.size + 1 + 1 + 1]? = some (.cells #[Value.pointer p] 23 (0, 0)) := by repeat (first | exact heap_new (by simp; done) | refine heap_up ?_)
  have hs5 : ((((w.alloc (Obj.cells #[Value.pointer p] 23)).alloc (Obj.cells #[Value.int IntKind.u32 n] 28)).alloc (Obj.cells #[Value.slice none 0 0] 35)).alloc (Obj.cells #[Value.pointer p] 23)).heap.size = w.heap.size + 4 := by simp
  have hP5 := h.kept hB5
  obtain ⟨w5, hw5⟩ : ∃ w5, w5 = ((((w.alloc (Obj.cells #[Value.pointer p] 23)).alloc (Obj.cells #[Value.int IntKind.u32 n] 28)).alloc (Obj.cells #[Value.slice none 0 0] 35)).alloc (Obj.cells #[Value.pointer p] 23)) := ⟨_, rfl⟩
  rw [← hw5] at hB5 h6 hbox hs5 hP5 ⊢
  clear hw5
  refine range_noneB (gf := 35) (lb := #[.pointer (some ⟨w.heap.size + 1 + 1 + 1, 0, none⟩)]) rfl (enters_of Try.func35 (by kernel_rfl) rfl) (fun l W hW => ball1_no (Ytmjfbilhalkegaa.kept hW hbox) (hP5.kept hW)) (fun D W hD hWB hK => ?_)
  have h6W := Ytmjfbilhalkegaa.kept hWB h6
  have c6 := cellF h6W
  have f6 := (cells_of h6W).2.1
  have hne : D ≠ w.heap.size + 1 + 1 := by omega
  have hz := heap_set_other (g := w.heap.size + 1 + 1) (i := 0) (v := .slice none 0 0) hK hne
  have hz6 := heap_set (i := 0) (v := .slice none 0 0) h6W
  have hBz := below_set (g := w.heap.size + 1 + 1) (i := 0) (v := .slice none 0 0) (below_then hB5 hWB) (by omega)
  go_wp2_with fail
  refine leaves_cons hz ?_
  have hc := cellF (put_other (o' := .deferred none) hz hz6 (Ne.symm hne)) 0
  refine leaves_nil (v := .slice none 0 0) ?_ ⟨rfl, below_put hBz (by omega) hz (Nat.le_refl _)⟩
  simp [results, Try.f22, go_sem, hc]
set_option maxRecDepth 100000 in
set_option maxHeartbeats 4000000 in
theorem bopen_no {w : World} {p : Option Addr} (n : Int) (h : NoB w p) : Calls Try.prog 20 #[.pointer p, .int .u32 n] w fun e w' => e = .returned (.tuple #[.int .i64 0, .int .i64 0]) ∧ Below w.heap.size w w' := by
  refine calls_marks Try.func20 rfl ?_
  simp only [Try.ntmps20, List.size_toArray, List.length_cons, List.length_nil, Nat.reduceAdd, Nat.reduceSub, Array.replicate_succ, Array.replicate_zero, List.push_toArray, List.append_toArray, List.nil_append, List.cons_append]
  go_wp2_with ((go_at_call 24; (with_reducible refine (ball_any _).mono ?_); rintro e w6 ⟨rfl, rfl⟩))
  have hB5 : Below w.heap.size w ((((w.alloc (Obj.cells #[Value.int IntKind.u32 n] 28)).alloc (Obj.cells #[Value.int IntKind.i64 0] 2)).alloc (Obj.cells #[Value.int IntKind.i64 0] 2)).alloc (Obj.cells #[Value.pointer p] 23)) := below_alloc (below_alloc (below_alloc (below_new _ _) _) _) _
  have h4 : ((((w.alloc (Obj.cells #[Value.int IntKind.u32 n] 28)).alloc (Obj.cells #[Value.int IntKind.i64 0] 2)).alloc (Obj.cells #[Value.int IntKind.i64 0] 2)).alloc (Obj.cells #[Value.pointer p] 23)).heap[w.heap.size + 1]? = some (.cells #[Value.int IntKind.i64 0] 2 (0, 0)) := heap_up (heap_up (by have := heap_alloc_new (w.alloc (Obj.cells #[Value.int IntKind.u32 n] 28)) (Obj.cells #[Value.int IntKind.i64 0] 2); simpa using this))
  have h5 : ((((w.alloc (Obj.cells #[Value.int IntKind.u32 n] 28)).alloc (Obj.cells #[Value.int IntKind.i64 0] 2)).alloc (Obj.cells #[Value.int IntKind.i64 0] 2)).alloc (Obj.cells #[Value.pointer p] 23)).heap[w.heap.size + 1 + 1]? = some (.cells #[Value.int IntKind.i64 0] 2 (0, 0)) := by repeat (first | exact heap_new (by simp; done) | refine heap_up ?_)
  have hbox : ((((w.alloc (Obj.cells #[Value.int IntKind.u32 n] 28)).alloc (Obj.cells #[Value.int IntKind.i64 0] 2)).alloc (Obj.cells #[Value.int IntKind.i64 0] 2)).alloc (Obj.cells #[Value.pointer p] 23)).heap[w.heap.size + 1 + 1 + 1]? = some (.cells #[Value.pointer p] 23 (0, 0)) := by repeat (first | exact heap_new (by simp; done) | refine heap_up ?_)
  have hs5 : ((((w.alloc (Obj.cells #[Value.int IntKind.u32 n] 28)).alloc (Obj.cells #[Value.int IntKind.i64 0] 2)).alloc (Obj.cells #[Value.int IntKind.i64 0] 2)).alloc (Obj.cells #[Value.pointer p] 23)).heap.size = w.heap.size + 4 := by simp
  have hP5 := h.kept hB5
  obtain ⟨w5, hw5⟩ : ∃ w5, w5 = ((((w.alloc (Obj.cells #[Value.int IntKind.u32 n] 28)).alloc (Obj.cells #[Value.int IntKind.i64 0] 2)).alloc (Obj.cells #[Value.int IntKind.i64 0] 2)).alloc (Obj.cells #[Value.pointer p] 23)) := ⟨_, rfl⟩
  rw [← hw5] at hB5 h4 h5 hbox hs5 hP5 ⊢
  clear hw5
  refine range_noneB (gf := 35) (lb := #[.pointer (some ⟨w.heap.size + 1 + 1 + 1, 0, none⟩)]) rfl (enters_of Try.func35 (by kernel_rfl) rfl) (fun l W hW => ball1_no (Ytmjfbilhalkegaa.kept hW hbox) (hP5.kept hW)) (fun D W hD hWB hK => ?_)
  have h4W := Ytmjfbilhalkegaa.kept hWB h4
  have h5W := Ytmjfbilhalkegaa.kept hWB h5
  have hBW := below_then hB5 hWB
  clear h4 h5 hbox hP5 hWB hB5
  go_wp2_with fail
  have c4 := cellF h4W
  have f4 := (cells_of h4W).2.1
  have c5 := cellF h5W
  have f5 := (cells_of h5W).2.1
  go_region
  have hne : D ≠ w.heap.size + 1 := by omega
  have hne2 : D ≠ w.heap.size + 1 + 1 := by omega
  have hy := heap_set_other (g := w.heap.size + 1) (i := 0) (v := .int .i64 0) hK hne
  have hz := heap_set_other (g := w.heap.size + 1 + 1) (i := 0) (v := .int .i64 0) hy hne2
  have hy4 := heap_set (i := 0) (v := .int .i64 0) h4W
  have hz4 := heap_set_other (g := w.heap.size + 1 + 1) (i := 0) (v := .int .i64 0) hy4 (by omega)
  have hy5 := heap_set_other (g := w.heap.size + 1) (i := 0) (v := .int .i64 0) h5W (by omega)
  have hz5 := heap_set (i := 0) (v := .int .i64 0) hy5
  have hBz := Below.drew (below_set (g := w.heap.size + 1 + 1) (i := 0) (v := .int .i64 0) (below_set (g := w.heap.size + 1) (i := 0) (v := .int .i64 0) hBW (by omega)) (by omega))
  obtain ⟨wz, hwz⟩ : ∃ wz, wz = ((W.setCell ⟨w.heap.size + 1, 0, none⟩ (.int .i64 0)).setCell ⟨w.heap.size + 1 + 1, 0, none⟩ (.int .i64 0)).drew := ⟨_, rfl⟩
  rw [← hwz] at hBz ⊢
  replace hz : wz.heap[D]? = some (.deferred (some [])) := by rw [hwz]; exact hz
  replace hz4 : wz.heap[w.heap.size + 1]? = some (.cells #[Value.int IntKind.i64 0] 2 (0, 0)) := by rw [hwz]; exact hz4
  replace hz5 : wz.heap[w.heap.size + 1 + 1]? = some (.cells #[Value.int IntKind.i64 0] 2 (0, 0)) := by rw [hwz]; exact hz5
  clear hwz hy hy4 hy5 c4 f4 c5 f5
  go_wp2_with fail
  refine leaves_cons hz ?_
  have hc4 := cellF (put_other (o' := .deferred none) hz hz4 (Ne.symm hne)) 0
  have hc5 := cellF (put_other (o' := .deferred none) hz hz5 (Ne.symm hne2)) 0
  refine leaves_nil (v := .tuple #[.int .i64 0, .int .i64 0]) ?_ ⟨rfl, below_put hBz (by omega) hz (Nat.le_refl _)⟩
  simp [results, Try.f20, go_sem, hc4, hc5]
set_option maxRecDepth 100000 in
set_option maxHeartbeats 4000000 in
theorem borders_no {w : World} {p : Option Addr} (h : NoB w p) : Calls Try.prog 13 #[.pointer p] w fun e w' => e = .returned (.slice none 0 0) ∧ Below w.heap.size w w' := by
  have hfe : ∀ (w1 : World) (g : Nat), (binOp .eql 64 (.func (.func 35) #[] #[.pointer (some ⟨g, 0, none⟩)]) Value.nilFunc).run Try.prog w1 = .ok (.bool false) w1 := fun _ _ => by kernel_rfl
  refine calls_marks Try.func13 rfl ?_
  simp only [Try.ntmps13, List.size_toArray, List.length_cons, List.length_nil, Nat.reduceAdd, Nat.reduceSub, Array.replicate_succ, Array.replicate_zero, List.push_toArray, List.append_toArray, List.nil_append, List.cons_append]
  go_wp2_with ((go_at_call 24; (with_reducible refine (ball_any _).mono ?_); rintro e w6 ⟨rfl, rfl⟩))
  have hB5 : Below w.heap.size w (((w.alloc (Obj.cells #[Value.slice none 0 0] 35)).alloc (Obj.cells #[Value.pointer p] 23)).alloc (Obj.cells #[Value.pointer p] 23)) := below_alloc (below_alloc (below_new _ _) _) _
  have h6 : (((w.alloc (Obj.cells #[Value.slice none 0 0] 35)).alloc (Obj.cells #[Value.pointer p] 23)).alloc (Obj.cells #[Value.pointer p] 23)).heap[w.heap.size]? = some (.cells #[Value.slice none 0 0] 35 (0, 0)) := heap_up (heap_up (heap_alloc_new _ _))
  have hbox : (((w.alloc (Obj.cells #[Value.slice none 0 0] 35)).alloc (Obj.cells #[Value.pointer p] 23)).alloc (Obj.cells #[Value.pointer p] 23)).heap[w.heap.size + 1 + 1]? = some (.cells #[Value.pointer p] 23 (0, 0)) := by
    have := heap_alloc_new ((w.alloc (Obj.cells #[Value.slice none 0 0] 35)).alloc (Obj.cells #[Value.pointer p] 23)) (Obj.cells #[Value.pointer p] 23)
    simpa using this
  have hs5 : (((w.alloc (Obj.cells #[Value.slice none 0 0] 35)).alloc (Obj.cells #[Value.pointer p] 23)).alloc (Obj.cells #[Value.pointer p] 23)).heap.size = w.heap.size + 3 := by simp
  have hP5 := h.kept hB5
  obtain ⟨w5, hw5⟩ : ∃ w5, w5 = (((w.alloc (Obj.cells #[Value.slice none 0 0] 35)).alloc (Obj.cells #[Value.pointer p] 23)).alloc (Obj.cells #[Value.pointer p] 23)) := ⟨_, rfl⟩
  rw [← hw5] at hB5 h6 hbox hs5 hP5 ⊢
  clear hw5
  refine range_noneB (gf := 35) (lb := #[.pointer (some ⟨w.heap.size + 1 + 1, 0, none⟩)]) rfl (enters_of Try.func35 (by kernel_rfl) rfl) (fun l W hW => ball1_no (Ytmjfbilhalkegaa.kept hW hbox) (hP5.kept hW)) (fun D W hD hWB hK => ?_)
  have h6W := Ytmjfbilhalkegaa.kept hWB h6
  have hPW := hP5.kept hWB
  have hBW := below_then hB5 hWB
  have hsW : w.heap.size + 3 ≤ W.heap.size := by have := hWB.size; omega
  have hDW := (Array.getElem?_eq_some_iff.1 hK).1
  clear h6 hbox hP5 hWB hB5
  go_wp2_with ((go_at_call 24; (with_reducible refine (ball_any _).mono ?_); rintro e w6 ⟨rfl, rfl⟩))
  have hbn := below_new W (Obj.cells #[Value.pointer p] 23)
  have h6X := Ytmjfbilhalkegaa.kept hbn h6W
  have hKX := Ytmjfbilhalkegaa.kept hbn hK
  have hPX := hPW.kept hbn
  have hboxX := heap_alloc_new W (Obj.cells #[Value.pointer p] 23)
  refine range_noneB (gf := 35) (lb := #[.pointer (some ⟨W.heap.size, 0, none⟩)]) rfl (enters_of Try.func35 (by kernel_rfl) rfl) (fun l W2 hW => ball1_no (Ytmjfbilhalkegaa.kept hW hboxX) (hPX.kept hW)) (fun D2 W2 hD2 hWB2 hK2 => ?_)
  have h6Y := Ytmjfbilhalkegaa.kept hWB2 h6X
  have hKY := Ytmjfbilhalkegaa.kept hWB2 hKX
  have hBY := below_then hBW (below_then hbn hWB2)
  have hD2' : W.heap.size < D2 := by simp at hD2; omega
  clear h6W hPW h6X hKX hPX hboxX hbn hWB2 hK
  have c6 := cellF h6Y
  go_wp2_with fail
  refine leaves_cons hK2 (leaves_cons (put_other hK2 hKY (by omega)) ?_)
  refine leaves_nil (v := .slice none 0 0) ?_ ⟨rfl, below_put (below_put hBY (by omega) hK2 (Nat.le_refl _)) (by omega) (put_other hK2 hKY (by omega)) (Nat.le_refl _)⟩
  simp [results, Try.f13, go_sem]
end Go.Proofs.Ytmjfbilhalkegaa
