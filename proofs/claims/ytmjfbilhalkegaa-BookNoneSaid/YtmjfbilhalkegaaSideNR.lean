/- Reach of a side that is not there, or was not made: a range over a function whose rounds never come. No condition. -/
import Derived.Test.YtmjfbilhalkegaaSideNo
import Derived.Test.YtmjfbilhalkegaaRange
namespace Go.Proofs.Ytmjfbilhalkegaa
set_option linter.unusedVariables false
set_option linter.unusedSimpArgs false
open Go.RowKit Go.Shelf

theorem sall1_no {W : World} {gb l : Nat} {p : Option Addr} (hb : W.heap[gb]? = some (.cells #[.pointer p] 54 (0, 0))) (h : NoS W p) :
    Calls Try.prog 47 #[.func (.yield l) #[] #[], .pointer (some ⟨gb, 0, none⟩)] W fun e W' => (∃ v, e = .returned v) ∧ W = W' := by
  have cb := cellF hb
  go_enter Try.func47, Try.ntmps47
  go_wp2_with ((go_at_call 39; (with_reducible refine (sready_no h).mono ?_); rintro e w1 ⟨rfl, rfl⟩))
  exact bodyPost_ret (results_none rfl _ _ _) rfl ⟨⟨_, rfl⟩, rfl⟩
set_option maxRecDepth 100000 in
set_option maxHeartbeats 4000000 in
theorem sreach_no {w : World} {p : Option Addr} (x n : Int) (h : NoS w p) : Calls Try.prog 29 #[.pointer p, .int .i64 x, .int .u32 n] w fun e w' => e = .returned (.int .i64 0) ∧ Below w.heap.size w w' := by
  refine calls_marks Try.func29 rfl ?_
  simp only [Try.ntmps29, List.size_toArray, List.length_cons, List.length_nil, Nat.reduceAdd, Nat.reduceSub, Array.replicate_succ, Array.replicate_zero, List.push_toArray, List.append_toArray, List.nil_append, List.cons_append]
  go_wp2_with ((go_at_call 36; (with_reducible refine (sall_any _).mono ?_); rintro e w6 ⟨rfl, rfl⟩))
  have hB5 : Below w.heap.size w (((((w.alloc (Obj.cells #[Value.pointer p] 54)).alloc (Obj.cells #[Value.int IntKind.i64 x] 2)).alloc (Obj.cells #[Value.int IntKind.u32 n] 28)).alloc (Obj.cells #[Value.int IntKind.i64 0] 2)).alloc (Obj.cells #[Value.pointer p] 54)) := below_alloc (below_alloc (below_alloc (below_alloc (below_new _ _) _) _) _) _
  have h6 : (((((w.alloc (Obj.cells #[Value.pointer p] 54)).alloc (Obj.cells #[Value.int IntKind.i64 x] 2)).alloc (Obj.cells #[Value.int IntKind.u32 n] 28)).alloc (Obj.cells #[Value.int IntKind.i64 0] 2)).alloc (Obj.cells #[Value.pointer p] 54)).heap[w.heap.size + 1 + 1 + 1]? = some (.cells #[Value.int IntKind.i64 0] 2 (0, 0)) := by repeat (first | exact heap_new (by simp; done) | refine heap_up ?_)
  have hbox : (((((w.alloc (Obj.cells #[Value.pointer p] 54)).alloc (Obj.cells #[Value.int IntKind.i64 x] 2)).alloc (Obj.cells #[Value.int IntKind.u32 n] 28)).alloc (Obj.cells #[Value.int IntKind.i64 0] 2)).alloc (Obj.cells #[Value.pointer p] 54)).heap[w.heap.size + 1 + 1 + 1 + 1]? = some (.cells #[Value.pointer p] 54 (0, 0)) := by repeat (first | exact heap_new (by simp; done) | refine heap_up ?_)
  have hs5 : (((((w.alloc (Obj.cells #[Value.pointer p] 54)).alloc (Obj.cells #[Value.int IntKind.i64 x] 2)).alloc (Obj.cells #[Value.int IntKind.u32 n] 28)).alloc (Obj.cells #[Value.int IntKind.i64 0] 2)).alloc (Obj.cells #[Value.pointer p] 54)).heap.size = w.heap.size + 5 := by simp
  have hP5 := h.kept hB5
  obtain ⟨w5, hw5⟩ : ∃ w5, w5 = (((((w.alloc (Obj.cells #[Value.pointer p] 54)).alloc (Obj.cells #[Value.int IntKind.i64 x] 2)).alloc (Obj.cells #[Value.int IntKind.u32 n] 28)).alloc (Obj.cells #[Value.int IntKind.i64 0] 2)).alloc (Obj.cells #[Value.pointer p] 54)) := ⟨_, rfl⟩
  rw [← hw5] at hB5 h6 hbox hs5 hP5 ⊢
  clear hw5
  refine range_none (gf := 47) (lb := #[.pointer (some ⟨w.heap.size + 1 + 1 + 1 + 1, 0, none⟩)]) rfl (enters_of Try.func47 (by kernel_rfl) rfl) (fun l W hW => sall1_no (Ytmjfbilhalkegaa.kept hW hbox) (hP5.kept hW)) (fun D W hD hWB hK => ?_)
  have h6W := Ytmjfbilhalkegaa.kept hWB h6
  have c6 := cellF h6W
  have f6 := (cells_of h6W).2.1
  have hne : D ≠ w.heap.size + 1 + 1 + 1 := by omega
  have hz := heap_set_other (g := w.heap.size + 1 + 1 + 1) (i := 0) (v := .int .i64 0) hK hne
  have hz6 := heap_set (i := 0) (v := .int .i64 0) h6W
  have hBz := below_set (g := w.heap.size + 1 + 1 + 1) (i := 0) (v := .int .i64 0) (below_then hB5 hWB) (by omega)
  go_wp2_with fail
  refine leaves_cons hz ?_
  have hc := cellF (put_other (o' := .deferred none) hz hz6 (Ne.symm hne)) 0
  refine leaves_nil (v := .int .i64 0) ?_ ⟨rfl, below_put hBz (by omega) hz (Nat.le_refl _)⟩
  simp [results, Try.f29, go_sem, hc]
end Go.Proofs.Ytmjfbilhalkegaa
