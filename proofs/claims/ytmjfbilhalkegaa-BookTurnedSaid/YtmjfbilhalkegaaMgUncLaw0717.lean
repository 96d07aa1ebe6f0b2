/- Texts that UncLaw07 stands on, one behind the other, part 17. Conditions: each theorem names its own. -/
import Derived.Test.YtmjfbilhalkegaaMgUncLaw0716
/-! A book that is not there, or was not made: Open, Mass, and all its orders: ranges over functions whose rounds never come. No condition. -/
namespace Go.Proofs.Ytmjfbilhalkegaa
set_option linter.unusedVariables false
set_option linter.unusedSimpArgs false
open Go.RowKit Go.Shelf

set_option maxRecDepth 100000 in
set_option maxHeartbeats 4000000 in
theorem bmass_no {w : World} {p : Option Addr} (n : Int) (h : NoB w p) : Calls Try.prog 22 #[.pointer p, .int .u32 n] w fun e w' => e = .returned (.slice none 0 0) ∧ Below w.heap.size w w' := by
  refine calls_marks Try.func22 rfl ?_
  simp only [Try.ntmps22, List.size_toArray, List.length_cons, List.length_nil, Nat.reduceAdd, Nat.reduceSub, Array.replicate_succ, Array.replicate_zero, List.push_toArray, List.append_toArray, List.nil_append, List.cons_append]
  go_wp2_with ((go_at_call 24; (with_reducible refine (ball_any _).mono ?_); rintro e w6 ⟨rfl, rfl⟩))
  have hB5 : Below w.heap.size w ((((w.alloc (Obj.cells #[Value.pointer p] 23)).alloc (Obj.cells #[Value.int IntKind.u32 n] 28)).alloc (Obj.cells #[Value.slice none 0 0] 35)).alloc (Obj.cells #[Value.pointer p] 23)) := below_alloc (below_alloc (below_alloc (below_new _ _) _) _) _
  have h6 : ((((w.alloc (Obj.cells #[Value.pointer p] 23)).alloc (Obj.cells #[Value.int IntKind.u32 n] 28)).alloc (Obj.cells #[Value.slice none 0 0] 35)).alloc (Obj.cells #[Value.pointer p] 23)).heap[w.heap.size + 1 + 1]? = some (.cells #[Value.slice none 0 0] 35 (0, 0)) := by repeat (first | exact heap_new (by simp; done) | refine heap_up ?_)
  have hbox : ((((w.alloc (Obj.cells #[Value.pointer p] 23)).alloc (Obj.cells #[Value.int IntKind.u32 n] 28)).alloc (Obj.cells #[Value.slice none 0 0] 35)).alloc (Obj.cells #[Value.pointer p] 23)).heap[w.heap.size + 1 + 1 + 1]? = some (.cells #[Value.pointer p] 23 (0, 0)) := by repeat (first | exact heap_new (by simp; done) | refine heap_up ?_)
  have hs5 : ((((w.alloc (Obj.cells #[Value.pointer p] 23)).alloc (Obj.cells #[Value.int IntKind.u32 n] 28)).alloc (Obj.cells #[Value.slice none 0 0] 35)).alloc (Obj.cells #[Value.pointer p] 23)).heap.size = w.heap.size + 4 := by simp
  have hP5 := h.kept hB5
  obtain ⟨w5, hw5⟩ : ∃ w5, w5 = ((((w.alloc (Obj.cells #[Value.pointer p] 23)).alloc (Obj.cells #[Value.int IntKind.u32 n] 28)).alloc (Obj.cells #[Value.slice none 0 0] 35)).alloc (Obj.cells #[Value.pointer p] 23)) := ⟨_, rfl⟩
  rw [← hw5] at hB5 h6 hbox hs5 hP5 ⊢
  clear hw5
  refine range_noneB (gf := 35) (lb := #[.pointer (some ⟨w.heap.size + 1 + 1 + 1, 0, none⟩)]) rfl (enters_of Try.func35 (by kernel_rfl) rfl) (fun l W hW => ball1_no (Ytmjfbilhalkegaa.kept hW hbox) (hP5.kept hW)) (fun D W hD hWB hK => ?_)
  have h6W := Ytmjfbilhalkegaa.kept hWB h6
  have c6 := cellF h6W
  have f6 := (cells_of h6W).2.1
  have hne : D ≠ w.heap.size + 1 + 1 := by omega
  have hz := heap_set_other (g := w.heap.size + 1 + 1) (i := 0) (v := .slice none 0 0) hK hne
  have hz6 := heap_set (i := 0) (v := .slice none 0 0) h6W
  have hBz := below_set (g := w.heap.size + 1 + 1) (i := 0) (v := .slice none 0 0) (below_then hB5 hWB) (by omega)
  go_wp2_with fail
  refine leaves_cons hz ?_
  have hc := cellF (put_other (o' := .deferred none) hz hz6 (Ne.symm hne)) 0
  refine leaves_nil (v := .slice none 0 0) ?_ ⟨rfl, below_put hBz (by omega) hz (Nat.le_refl _)⟩
  simp [results, Try.f22, go_sem, hc]
set_option maxRecDepth 100000 in
set_option maxHeartbeats 4000000 in
theorem bopen_no {w : World} {p : Option Addr} (n : Int) (h : NoB w p) : Calls Try.prog 20 #[.pointer p, .int .u32 n] w fun e w' => e = .returned (.tuple #[.int .i64 0, .int .i64 0]) ∧ Below w.heap.size w w' := by
  refine calls_marks Try.func20 rfl ?_
  simp only [Try.ntmps20, List.size_toArray, List.length_cons, List.length_nil, Nat.reduceAdd, Nat.reduceSub, Array.replicate_succ, Array.replicate_zero, List.push_toArray, List.append_toArray, List.nil_append, List.cons_append]
  go_wp2_with ((go_at_call 24; (with_reducible refine (ball_any _).mono ?_); rintro e w6 ⟨rfl, rfl⟩))
  have hB5 : Below w.heap.size w ((((w.alloc (Obj.cells #[Value.int IntKind.u32 n] 28)).alloc (Obj.cells #[Value.int IntKind.i64 0] 2)).alloc (Obj.cells #[Value.int IntKind.i64 0] 2)).alloc (Obj.cells #[Value.pointer p] 23)) := below_alloc (below_alloc (below_alloc (below_new _ _) _) _) _
  have h4 : ((((w.alloc (Obj.cells #[Value.int IntKind.u32 n] 28)).alloc (Obj.cells #[Value.int IntKind.i64 0] 2)).alloc (Obj.cells #[Value.int IntKind.i64 0] 2)).alloc (Obj.cells #[Value.pointer p] 23)).heap[w.heap.size + 1]? = some (.cells #[Value.int IntKind.i64 0] 2 (0, 0)) := heap_up (heap_up (by have := heap_alloc_new (w.alloc (Obj.cells #[Value.int IntKind.u32 n] 28)) (Obj.cells #[Value.int IntKind.i64 0] 2); simpa using this))
  have h5 : ((((w.alloc (Obj.cells #[Value.int IntKind.u32 n] 28)).alloc (Obj.cells #[Value.int IntKind.i64 0] 2)).alloc (Obj.cells #[Value.int IntKind.i64 0] 2)).alloc (Obj.cells #[Value.pointer p] 23)).heap[w.heap.size + 1 + 1]? = some (.cells #[Value.int IntKind.i64 0] 2 (0, 0)) := by repeat (first | exact heap_new (by simp; done) | refine heap_up ?_)
  have hbox : ((((w.alloc (Obj.cells #[Value.int IntKind.u32 n] 28)).alloc (Obj.cells #[Value.int IntKind.i64 0] 2)).alloc (Obj.cells #[Value.int IntKind.i64 0] 2)).alloc (Obj.cells #[Value.pointer p] 23)).heap[w.heap.size + 1 + 1 + 1]? = some (.cells #[Value.pointer p] 23 (0, 0)) := by repeat (first | exact heap_new (by simp; done) | refine heap_up ?_)
  have hs5 : ((((w.alloc (Obj.cells #[Value.int IntKind.u32 n] 28)).alloc (Obj.cells #[Value.int IntKind.i64 0] 2)).alloc (Obj.cells #[Value.int IntKind.i64 0] 2)).alloc (Obj.cells #[Value.pointer p] 23)).heap.size = w.heap.size + 4 := by simp
  have hP5 := h.kept hB5
  obtain ⟨w5, hw5⟩ : ∃ w5, w5 = ((((w.alloc (Obj.cells #[Value.int IntKind.u32 n] 28)).alloc (Obj.cells #[Value.int IntKind.i64 0] 2)).alloc (Obj.cells #[Value.int IntKind.i64 0] 2)).alloc (Obj.cells #[Value.pointer p] 23)) := ⟨_, rfl⟩
  rw [← hw5] at hB5 h4 h5 hbox hs5 hP5 ⊢
  clear hw5
  refine range_noneB (gf := 35) (lb := #[.pointer (some ⟨w.heap.size + 1 + 1 + 1, 0, none⟩)]) rfl (enters_of Try.func35 (by kernel_rfl) rfl) (fun l W hW => ball1_no (Ytmjfbilhalkegaa.kept hW hbox) (hP5.kept hW)) (fun D W hD hWB hK => ?_)
  have h4W := Ytmjfbilhalkegaa.kept hWB h4
  have h5W := Ytmjfbilhalkegaa.kept hWB h5
  have hBW := below_then hB5 hWB
  clear h4 h5 hbox hP5 hWB hB5
  go_wp2_with fail
  have c4 := cellF h4W
  have f4 := (cells_of h4W).2.1
  have c5 := cellF h5W
  have f5 := (cells_of h5W).2.1
  go_region
  have hne : D ≠ w.heap.size + 1 := by omega
  have hne2 : D ≠ w.heap.size + 1 + 1 := by omega
  have hy := heap_set_other (g := w.heap.size + 1) (i := 0) (v := .int .i64 0) hK hne
  have hz := heap_set_other (g := w.heap.size + 1 + 1) (i := 0) (v := .int .i64 0) hy hne2
  have hy4 := heap_set (i := 0) (v := .int .i64 0) h4W
  have hz4 := heap_set_other (g := w.heap.size + 1 + 1) (i := 0) (v := .int .i64 0) hy4 (by omega)
  have hy5 := heap_set_other (g := w.heap.size + 1) (i := 0) (v := .int .i64 0) h5W (by omega)
  have hz5 := heap_set (i := 0) (v := .int .i64 0) hy5
  have hBz := Below.drew (below_set (g := w.heap.size + 1 + 1) (i := 0) (v := .int .i64 0) (below_set (g := w.heap.size + 1) (i := 0) (v := .int .i64 0) hBW (by omega)) (by omega))
  obtain ⟨wz, hwz⟩ : ∃ wz, wz = ((W.setCell ⟨w.heap.size + 1, 0, none⟩ (.int .i64 0)).setCell ⟨w.heap.size + 1 + 1, 0, none⟩ (.int .i64 0)).drew := ⟨_, rfl⟩
  rw [← hwz] at hBz ⊢
  replace hz : wz.heap[D]? = some (.deferred (some [])) := by rw [hwz]; exact hz
  replace hz4 : wz.heap[w.heap.size + 1]? = some (.cells #[Value.int IntKind.i64 0] 2 (0, 0)) := by rw [hwz]; exact hz4
  replace hz5 : wz.heap[w.heap.size + 1 + 1]? = some (.cells #[Value.int IntKind.i64 0] 2 (0, 0)) := by rw [hwz]; exact hz5
  clear hwz hy hy4 hy5 c4 f4 c5 f5
  go_wp2_with fail
  refine leaves_cons hz ?_
  have hc4 := cellF (put_other (o' := .deferred none) hz hz4 (Ne.symm hne)) 0
  have hc5 := cellF (put_other (o' := .deferred none) hz hz5 (Ne.symm hne2)) 0
  refine leaves_nil (v := .tuple #[.int .i64 0, .int .i64 0]) ?_ ⟨rfl, below_put hBz (by omega) hz (Nat.le_refl _)⟩
  simp [results, Try.f20, go_sem, hc4, hc5]
set_option maxRecDepth 100000 in
set_option maxHeartbeats 4000000 in
theorem borders_no {w : World} {p : Option Addr} (h : NoB w p) : Calls Try.prog 13 #[.pointer p] w fun e w' => e = .returned (.slice none 0 0) ∧ Below w.heap.size w w' := by
  have hfe : ∀ (w1 : World) (g : Nat), (binOp .eql 64 (.func (.func 35) #[] #[.pointer (some ⟨g, 0, none⟩)]) Value.nilFunc).run Try.prog w1 = .ok (.bool false) w1 := fun _ _ => by kernel_rfl
  refine calls_marks Try.func13 rfl ?_
  simp only [Try.ntmps13, List.size_toArray, List.length_cons, List.length_nil, Nat.reduceAdd, Nat.reduceSub, Array.replicate_succ, Array.replicate_zero, List.push_toArray, List.append_toArray, List.nil_append, List.cons_append]
  go_wp2_with ((go_at_call 24; (with_reducible refine (ball_any _).mono ?_); rintro e w6 ⟨rfl, rfl⟩))
  have hB5 : Below w.heap.size w (((w.alloc (Obj.cells #[Value.slice none 0 0] 35)).alloc (Obj.cells #[Value.pointer p] 23)).alloc (Obj.cells #[Value.pointer p] 23)) := below_alloc (below_alloc (below_new _ _) _) _
  have h6 : (((w.alloc (Obj.cells #[Value.slice none 0 0] 35)).alloc (Obj.cells #[Value.pointer p] 23)).alloc (Obj.cells #[Value.pointer p] 23)).heap[w.heap.size]? = some (.cells #[Value.slice none 0 0] 35 (0, 0)) := heap_up (heap_up (heap_alloc_new _ _))
  have hbox : (((w.alloc (Obj.cells #[Value.slice none 0 0] 35)).alloc (Obj.cells #[Value.pointer p] 23)).alloc (Obj.cells #[Value.pointer p] 23)).heap[w.heap.size + 1 + 1]? = some (.cells #[Value.pointer p] 23 (0, 0)) := by
    have := heap_alloc_new ((w.alloc (Obj.cells #[Value.slice none 0 0] 35)).alloc (Obj.cells #[Value.pointer p] 23)) (Obj.cells #[Value.pointer p] 23)
    simpa using this
  have hs5 : (((w.alloc (Obj.cells #[Value.slice none 0 0] 35)).alloc (Obj.cells #[Value.pointer p] 23)).alloc (Obj.cells #[Value.pointer p] 23)).heap.size = w.heap.size + 3 := by simp
  have hP5 := h.kept hB5
  obtain ⟨w5, hw5⟩ : ∃ w5, w5 = (((w.alloc (Obj.cells #[Value.slice none 0 0] 35)).alloc (Obj.cells #[Value.pointer p] 23)).alloc (Obj.cells #[Value.pointer p] 23)) := ⟨_, rfl⟩
  rw [← hw5] at hB5 h6 hbox hs5 hP5 ⊢
  clear hw5
  refine range_noneB (gf := 35) (lb := #[.pointer (some ⟨w.heap.size + 1 + 1, 0, none⟩)]) rfl (enters_of Try.func35 (by kernel_rfl) rfl) (fun l W hW => ball1_no (Ytmjfbilhalkegaa.kept hW hbox) (hP5.kept hW)) (fun D W hD hWB hK => ?_)
  have h6W := Ytmjfbilhalkegaa.kept hWB h6
  have hPW := hP5.kept hWB
  have hBW := below_then hB5 hWB
  have hsW : w.heap.size + 3 ≤ W.heap.size := by have := hWB.size; omega
  have hDW := (Array.getElem?_eq_some_iff.1 hK).1
  clear h6 hbox hP5 hWB hB5
  go_wp2_with ((go_at_call 24; (with_reducible refine (ball_any _).mono ?_); rintro e w6 ⟨rfl, rfl⟩))
  have hbn := below_new W (Obj.cells #[Value.pointer p] 23)
  have h6X := Ytmjfbilhalkegaa.kept hbn h6W
  have hKX := Ytmjfbilhalkegaa.kept hbn hK
  have hPX := hPW.kept hbn
  have hboxX := heap_alloc_new W (Obj.cells #[Value.pointer p] 23)
  refine range_noneB (gf := 35) (lb := #[.pointer (some ⟨W.heap.size, 0, none⟩)]) rfl (enters_of Try.func35 (by kernel_rfl) rfl) (fun l W2 hW => ball1_no (Ytmjfbilhalkegaa.kept hW hboxX) (hPX.kept hW)) (fun D2 W2 hD2 hWB2 hK2 => ?_)
  have h6Y := Ytmjfbilhalkegaa.kept hWB2 h6X
  have hKY := Ytmjfbilhalkegaa.kept hWB2 hKX
  have hBY := below_then hBW (below_then hbn hWB2)
  have hD2' : W.heap.size < D2 := by simp at hD2; omega
  clear h6W hPW h6X hKX hPX hboxX hbn hWB2 hK
  have c6 := cellF h6Y
  go_wp2_with fail
  refine leaves_cons hK2 (leaves_cons (put_other hK2 hKY (by omega)) ?_)
  refine leaves_nil (v := .slice none 0 0) ?_ ⟨rfl, below_put (below_put hBY (by omega) hK2 (Nat.le_refl _)) (by omega) (put_other hK2 hKY (by omega)) (Nat.le_refl _)⟩
  simp [results, Try.f13, go_sem]
end Go.Proofs.Ytmjfbilhalkegaa
/-! What is known of a small book comes out as it is said; no condition. -/
namespace Go.Proofs.Ytmjfbilhalkegaa
set_option linter.unusedVariables false
set_option linter.unusedSimpArgs false
open Go.RowKit Go.Deep

def k1 : Od := ⟨1, 7, false, 10, 5⟩
def k2 : Od := ⟨2, 8, false, 10, 5⟩
def k3 : Od := ⟨9, 7, true, 10, 7⟩
theorem ok_k1 : OkO k1 := ⟨by decide, by decide, by show F64 10; unfold F64; omega, by show F64 5; unfold F64; omega⟩
theorem ok_k2 : OkO k2 := ⟨by decide, by decide, by show F64 10; unfold F64; omega, by show F64 5; unfold F64; omega⟩
theorem ok_k3 : OkO k3 := ⟨by decide, by decide, by show F64 10; unfold F64; omega, by show F64 7; unfold F64; omega⟩
theorem place_k1 {w : World} {g gb gs base : Nat} (h : BkG w g gb gs base [] []) :
    Calls Try.prog 14 #[.pointer (some ⟨g, 0, none⟩), .agg (oa k1), .int .u8 1] w fun e w' => (∃ a c b d, e = .returned (.tuple #[.agg #[.slice a 0 c, .slice b 0 d, .int .i64 0, .int .i64 5], .int .i64 0])) ∧ BkG w' g gb gs base [] [k1] ∧ Below base w w' := by
  refine (place_ok1 k1 h (g1 := gs) (g2 := gb) (l1 := []) (l2 := []) rfl rfl rfl rfl ok_k1 (by decide) (fun x hx => by cases hx) rfl rfl (fun _ => by decide)).mono ?_
  rintro e w' ⟨⟨vt, vg, rfl, h1, h2⟩, ht, hk, hb, _⟩
  obtain ⟨a, c, rfl⟩ := own_formB h1
  obtain ⟨b, d, rfl⟩ := own_formB h2
  exact ⟨⟨a, c, b, d, rfl⟩, ⟨hk, ⟨ht.s2, ht.s1, fun e => ht.ne e.symm, fun v1 v2 e1 e2 q e3 e4 => ht.ap v2 v1 e2 e1 q e4 e3⟩, h.bg⟩, hb⟩
theorem place_k2 {w : World} {g gb gs base : Nat} (h : BkG w g gb gs base [] [k1]) :
    Calls Try.prog 14 #[.pointer (some ⟨g, 0, none⟩), .agg (oa k2), .int .u8 1] w fun e w' => (∃ a c b d, e = .returned (.tuple #[.agg #[.slice a 0 c, .slice b 0 d, .int .i64 0, .int .i64 5], .int .i64 0])) ∧ BkG w' g gb gs base [] [k1, k2] ∧ Below base w w' := by
  refine (place_ok1 k2 h (g1 := gs) (g2 := gb) (l1 := [k1]) (l2 := []) rfl rfl rfl rfl ok_k2 (by decide) (fun x hx => by cases hx) rfl rfl (fun _ => by decide)).mono ?_
  rintro e w' ⟨⟨vt, vg, rfl, h1, h2⟩, ht, hk, hb, _⟩
  obtain ⟨a, c, rfl⟩ := own_formB h1
  obtain ⟨b, d, rfl⟩ := own_formB h2
  exact ⟨⟨a, c, b, d, rfl⟩, ⟨hk, ⟨ht.s2, ht.s1, fun e => ht.ne e.symm, fun v1 v2 e1 e2 q e3 e4 => ht.ap v2 v1 e2 e1 q e4 e3⟩, h.bg⟩, hb⟩
theorem good_k : Good [k1, k2] := fun x hx => by
  rcases List.mem_cons.1 hx with rfl | hx
  · decide
  · rcases List.mem_cons.1 hx with rfl | hx
    · decide
    · cases hx
theorem place_k3 {w : World} {g gb gs base : Nat} (h : BkG w g gb gs base [] [k1, k2]) :
    Calls Try.prog 14 #[.pointer (some ⟨g, 0, none⟩), .agg (oa k3), .int .u8 1] w fun e w' => (∃ a c b d A B, e = .returned (.tuple #[.agg #[.slice (some ⟨a, 0, none⟩) 1 c, .slice (some ⟨b, 0, none⟩) 1 d, .int .i64 5, .int .i64 2], .int .i64 0]) ∧ w'.heap[a]? = some (.cells A 46 (0, 0)) ∧ 4 ≤ A.size ∧ A.extract 0 4 = ta ⟨10, 5, 2, 8⟩ ∧ w'.heap[b]? = some (.cells B 27 (0, 0)) ∧ B[0]? = some (.int .u64 1)) ∧ Below base w w' := by
  refine (place_ok1 k3 h (g1 := gb) (g2 := gs) (l1 := []) (l2 := [k1, k2]) rfl rfl rfl rfl ok_k3 (by decide) good_k rfl rfl (fun _ => by decide)).mono ?_
  rintro e w' ⟨⟨vt, vg, rfl, h1, h2⟩, ht, hk, hb, _⟩
  obtain ⟨_, ⟨_, h⟩ | ⟨ga, c, A, rfl, _, hga, hn, hm, hA, htk⟩⟩ := h1
  · cases h
  obtain ⟨_, ⟨_, h⟩ | ⟨gg, d, B, rfl, _, hgg, hn2, hm2, hB, htk2⟩⟩ := h2
  · cases h
  refine ⟨⟨ga, c, gg, d, A, B, rfl, hga, ?_, ?_, hgg, ?_⟩, hb⟩
  · have : 1 ≤ c := hn
    omega
  · have e1 : A.toList.take 4 = (ta ⟨10, 5, 2, 8⟩).toList := htk
    apply Array.toList_inj.1
    rw [Array.toList_extract]
    simpa using e1
  · have e1 : B.toList.take 1 = [Value.int .u64 1] := htk2
    have e2 := congrArg (fun l => l[0]?) e1
    simpa [List.getElem?_take] using e2
set_option maxRecDepth 100000 in
set_option maxHeartbeats 4000000 in
theorem known07 (w : World) : Calls Try.prog 10 #[] w fun e w' => e = .returned (.bool true) ∧ Below w.heap.size w w' := by
  have hne : ∀ (w : World) (g : Nat), (binOp .eql 23 (.pointer (some ⟨g, 0, none⟩)) (.pointer none)).run Try.prog w = .ok (.bool false) w := fun _ _ => by kernel_rfl
  have hte : ∀ (w : World), (binOp .eql 46 (.agg (ta ⟨10, 5, 2, 8⟩)) (.agg (ta ⟨10, 5, 2, 8⟩))).run Try.prog w = .ok (.bool true) w := fun _ => by kernel_rfl
  have HP := Lib.hid (show pl0.size = 4 from rfl)
  go_enter Try.func10, Try.ntmps10
  go_wp2_with ((go_at_call 9; (with_reducible refine ((bnew_any w)).mono ?_); rintro e w1 ⟨g, gb, gs, rfl, hB1, hb1⟩))
  refine wp_loop_rounds 3 ?_
  rw [rounds_succ]
  go_wp2_with (first | ((with_reducible refine at_build 30 ?_); refine wpList_build_named rfl 30 _ rfl (oa k1) (by kernel_rfl) ?_) | (go_at_call 14; (with_reducible refine ((place_k1 hB1)).mono ?_); rintro e w2 ⟨⟨a2, c2, b2, d2, rfl⟩, hB2, hb2⟩; have hB2' := hB2.kept (below_new w2 (Obj.cells #[.slice a2 0 c2, .slice b2 0 d2, .int .i64 0, .int .i64 5] 41)); have hb12 := below_alloc (hb1.trans hb2) (Obj.cells #[.slice a2 0 c2, .slice b2 0 d2, .int .i64 0, .int .i64 5] 41)) | ((with_reducible refine at_alloc 41 ?_); refine wpList_alloc_named rfl 41 rfl pl0 (by kernel_rfl) ?_) | ((with_reducible refine at_store 41 ?_); refine wpList_store_new rfl 41 _ _ rfl (#[.slice a2 0 c2, .slice b2 0 d2, .int .i64 0, .int .i64 5]) _ _ _ rfl (by simp) rfl (by kernel_rfl) rfl pl_all ?_))
  rw [rounds_succ]
  go_wp2_with (first | ((with_reducible refine at_build 30 ?_); refine wpList_build_named rfl 30 _ rfl (oa k2) (by kernel_rfl) ?_) | (go_at_call 14; (with_reducible refine ((place_k2 hB2')).mono ?_); rintro e w3 ⟨⟨a3, c3, b3, d3, rfl⟩, hB3, hb3⟩; have hB3' := hB3.kept (below_new w3 (Obj.cells #[.slice a3 0 c3, .slice b3 0 d3, .int .i64 0, .int .i64 5] 41)); have hb13 := below_alloc (hb12.trans hb3) (Obj.cells #[.slice a3 0 c3, .slice b3 0 d3, .int .i64 0, .int .i64 5] 41)) | ((with_reducible refine at_alloc 41 ?_); refine wpList_alloc_named rfl 41 rfl pl0 (by kernel_rfl) ?_) | ((with_reducible refine at_store 41 ?_); refine wpList_store_new rfl 41 _ _ rfl (#[.slice a3 0 c3, .slice b3 0 d3, .int .i64 0, .int .i64 5]) _ _ _ rfl (by simp) rfl (by kernel_rfl) rfl pl_all ?_))
  rw [rounds_succ]
  go_wp2_with (first | ((with_reducible refine at_build 30 ?_); refine wpList_build_named rfl 30 _ rfl (oa k3) (by kernel_rfl) ?_) | (go_at_call 14; (with_reducible refine ((place_k3 hB3')).mono ?_); rintro e w4 ⟨⟨ga, c4, gg, d4, A, B, rfl, hga, hA, hx, hgg, hB⟩, hb4⟩; have hb14 := below_alloc (hb13.trans hb4) (Obj.cells #[.slice (some ⟨ga, 0, none⟩) 1 c4, .slice (some ⟨gg, 0, none⟩) 1 d4, .int .i64 5, .int .i64 2] 41); have hga5 := heap_up (o := Obj.cells #[.slice (some ⟨ga, 0, none⟩) 1 c4, .slice (some ⟨gg, 0, none⟩) 1 d4, .int .i64 5, .int .i64 2] 41) hga; have cgg5 := cellF (heap_up (o := Obj.cells #[.slice (some ⟨ga, 0, none⟩) 1 c4, .slice (some ⟨gg, 0, none⟩) 1 d4, .int .i64 5, .int .i64 2] 41) hgg); have hnew := heap_alloc_new w4 (Obj.cells #[.slice (some ⟨ga, 0, none⟩) 1 c4, .slice (some ⟨gg, 0, none⟩) 1 d4, .int .i64 5, .int .i64 2] 41); have cnew := cellF hnew; have HA := Lib.hid hA; have HXX := Lib.hid hx; clear hA hx) | ((with_reducible refine at_alloc 41 ?_); refine wpList_alloc_named rfl 41 rfl pl0 (by kernel_rfl) ?_) | ((with_reducible refine at_store 41 ?_); refine wpList_store_new rfl 41 _ _ rfl (#[.slice (some ⟨ga, 0, none⟩) 1 c4, .slice (some ⟨gg, 0, none⟩) 1 d4, .int .i64 5, .int .i64 2]) _ _ _ rfl (by simp) rfl (by kernel_rfl) rfl pl_all ?_) | ((with_reducible refine at_load 46 ?_); refine wpList_load_part rfl 46 _ rfl (ga) (0) rfl _ (A) _ _ 4 (hga5) Try.underlying46 rfl (by kernel_rfl) (by have := HA.out; omega) (ta ⟨10, 5, 2, 8⟩) (HXX.out) ?_) | ((with_reducible refine at_build 46 ?_); refine wpList_build_named rfl 46 _ rfl (ta ⟨10, 5, 2, 8⟩) (by kernel_rfl) ?_))
  go_ret
  exact ⟨rfl, hb14⟩
end Go.Proofs.Ytmjfbilhalkegaa
/-! BookUncrossed, walked: it returns true. Condition: the numbers fit their kinds. -/
namespace Go.Proofs.Ytmjfbilhalkegaa
set_option linter.unusedVariables false
set_option linter.unusedSimpArgs false
open Go.RowKit Go.Deep

theorem mem_side {lb ls : List Od} (h : BiX true lb ls) {i : Nat} (hi : i < (lb ++ ls).length) : ((od (lb ++ ls) i).b = true → od (lb ++ ls) i ∈ lb) ∧ ((od (lb ++ ls) i).b = false → od (lb ++ ls) i ∈ ls) := by
  have hm := od_in hi
  rcases List.mem_append.1 hm with hm | hm
  · exact ⟨fun _ => hm, fun e => (by have := h.inv.bb _ hm; rw [e] at this; cases this)⟩
  · exact ⟨fun e => (by have := h.inv.bs _ hm; rw [e] at this; cases this), fun _ => hm⟩
theorem all_ord {w : World} {g gb gs base : Nat} {lb ls : List Od} (h : BkG w g gb gs base lb ls) (i : Nat) : IsOrd (oa (od (lb ++ ls) i)) := oa_ord (od_ok (fun o ho => by
  rcases List.mem_append.1 ho with ho | ho
  · exact h.two.b.ok o ho
  · exact h.two.s.ok o ho) i)
/-- the orders of a book, and that none crosses -/
theorem unc_book {w : World} {a : Option Addr} {n cap g gb gs base : Nat} {lb ls : List Od} (h : BkG w g gb gs base lb ls) (hi : BiX true lb ls) (hn : n = (lb ++ ls).length) (hR : RowsT w 30 5 a n (fun i => oa (od (lb ++ ls) i))) :
    Calls Try.prog 12 #[.slice a n cap] w fun e w' => e = .returned (.bool true) ∧ Below w.heap.size w w' := by
  refine unc_any a n cap _ (all_ord h) (rowsT_C hR) (by have := bi_len hi; omega) (fun i k h1 h2 e1 e2 e3 => ?_)
  rw [oa_B2] at e1 e2
  rw [oa_N3, oa_N3] at e3
  rw [oa_N1, oa_N1]
  refine hi.un _ ((mem_side hi (by omega)).1 e1) _ ((mem_side hi (by omega)).2 e2) ?_
  unfold crs
  rw [e1]
  exact decide_eq_true e3
set_option maxRecDepth 100000 in
set_option maxHeartbeats 4000000 in
theorem unc07_walk (a : Option Addr) (n cap : Nat) (L : Nat → Array Value) (w : World) (hL : ∀ i, IsOp (L i)) (hR : RowsC w 7 a n L) (hn : n ≤ cap) (hc : cap ≤ 9223372036854775807) :
    Calls Try.prog 3 #[.slice a n cap] w fun e w' => e = .returned (.bool true) ∧ Below w.heap.size w w' := by
  have hpe : ∀ (w : World) (g : Nat), (binOp .eql 23 (.pointer (some ⟨g, 0, none⟩)) (.pointer none)).run Try.prog w = .ok (.bool false) w := fun _ _ => by kernel_rfl
  have hpn : ∀ (w : World) (g : Nat), (binOp .neq 23 (.pointer (some ⟨g, 0, none⟩)) (.pointer none)).run Try.prog w = .ok (.bool true) w := fun _ _ => by kernel_rfl
  have HL := Lib.hid hL
  have HR := Lib.hid hR
  clear hL hR
  by_cases hlen : 150 < n
  · have hlen2 : (150 : Int) < (n : Int) := by omega
    go_enter Try.func3, Try.ntmps3
    go_wp2_with (first | (go_at_call 9; (with_reducible refine (bnew_any w).mono ?_); rintro e w1 ⟨g, gb, gs, rfl, hB, hb⟩; have HB := Lib.hid hb; clear hB hb) | (go_at_call 10; (with_reducible refine (known07 _).mono ?_); rintro e w5 ⟨rfl, hb5⟩))
    go_ret
    exact ⟨rfl, below_then HB.out hb5⟩
  · have hlen2 : ¬ (150 : Int) < (n : Int) := by omega
    have hn150 : (n : Int) ≤ 150 := by omega
    go_enter Try.func3, Try.ntmps3
    go_wp2_with ((go_at_call 9; (with_reducible refine (bnew_any w).mono ?_); rintro e w1 ⟨g, gb, gs, rfl, hB, hb⟩; have HB1 := Lib.hid (And.intro hB hb); clear hB hb))
    go_loopg [20] n (fun gh vi wx => ∃ (i : Nat) (lb ls : List Od), i ≤ n ∧ gh = n - i ∧ vi = .int .i64 i ∧ BkG wx g gb gs w.heap.size lb ls ∧ BiX true lb ls ∧ Below w.heap.size w wx)
    case atStart => exact ⟨0, [], [], by omega, by omega, rfl, HB1.out.1, bi_new, HB1.out.2⟩
    case round =>
      obtain ⟨i, lb, ls, hi, rfl, rfl, hbk, hbi, hb⟩ := hrel
      have HK := Lib.hid hbk
      have HI := Lib.hid hbi
      have HB := Lib.hid hb
      clear hbk hbi hb HB1
      by_cases hi : i < n
      · have hii : (i : Int) < (n : Int) := by omega
        obtain ⟨g2, off2, A2, t2, fr2, rfl, hg2, hn2, hx2⟩ := (HR.out.kept HB.out) i hi
        have HP := Lib.hid (play_any (L i) (HL.out i) HK.out HI.out)
        go_wp2_with (first | ((with_reducible refine at_load 33 ?_); refine wpList_load_part rfl 33 _ rfl (g2) (off2 + i * 7) rfl _ (A2) _ _ 7 (hg2) Try.underlying33 rfl (by kernel_rfl) (hn2) (L i) (hx2) ?_) | (go_at_call 11; (with_reducible refine (HP.out).mono ?_); rintro e w3 ⟨⟨v3, rfl⟩, hs3⟩; have HS := Lib.hid hs3; have HI3 := Lib.hid (show BiX true (opF (L i) lb ls).1 (opF (L i) lb ls).2 from bi_ply HI.out); clear hs3) | (go_at_call 13; (with_reducible refine ((orders_in HS.out.bk (bi_len HI3.out))).mono ?_); rintro e w4 ⟨⟨v4, rfl, ho4⟩, hb4⟩; obtain ⟨a4, c4, rfl, hR4, _⟩ := own_rows (c := 5) (fun i => (all_ord HS.out.bk i).size) ho4; have HB4 := Lib.hid hb4; have HK4 := Lib.hid (HS.out.bk.kept hb4); rw [List.length_append] at hR4; have HR4 := Lib.hid hR4; clear hb4 hR4 ho4) | (go_at_call 12; (with_reducible refine ((unc_book HK4.out HI3.out (by rw [List.length_append]) HR4.out)).mono ?_); rintro e w5 ⟨rfl, hb5⟩; have HB5 := Lib.hid hb5; clear hb5))
        go_roundg (n - (i + 1))
        case measure => omega
        case rel => exact ⟨i + 1, _, _, by omega, rfl, by go_num, HK4.out.kept HB5.out, HI3.out, ((HB.out.trans HS.out.be).trans (HB4.out.mono (by have := HB.out.size; have := HS.out.be.size; omega))).trans (HB5.out.mono (by have := HB.out.size; have := HS.out.be.size; have := HB4.out.size; omega))⟩
      · obtain rfl : i = n := by omega
        go_wp2_with ((go_at_call 10; (with_reducible refine (known07 _).mono ?_); rintro e w5 ⟨rfl, hb5⟩))
        go_ret
        exact ⟨rfl, below_then HB.out hb5⟩
end Go.Proofs.Ytmjfbilhalkegaa
