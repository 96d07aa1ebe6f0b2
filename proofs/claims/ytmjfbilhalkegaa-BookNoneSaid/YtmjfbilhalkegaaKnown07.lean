/- What is known of a small book comes out as it is said; no condition. -/
import Derived.Test.YtmjfbilhalkegaaBkO
namespace Go.Proofs.Ytmjfbilhalkegaa
set_option linter.unusedVariables false
set_option linter.unusedSimpArgs false
open Go.RowKit Go.Deep

def k1 : Od := ⟨1, 7, false, 10, 5⟩
def k2 : Od := ⟨2, 8, false, 10, 5⟩
def k3 : Od := ⟨9, 7, true, 10, 7⟩
theorem ok_k1 : OkO k1 := ⟨by decide, by decide, by show F64 10; unfold F64; omega, by show F64 5; unfold F64; omega⟩
theorem ok_k2 : OkO k2 := ⟨by decide, by decide, by show F64 10; unfold F64; omega, by show F64 5; unfold F64; omega⟩
theorem ok_k3 : OkO k3 := ⟨by decide, by decide, by show F64 10; unfold F64; omega, by show F64 7; unfold F64; omega⟩
theorem place_k1 {w : World} {g gb gs base : Nat} (h : BkG w g gb gs base [] []) :
    Calls Try.prog 14 #[.pointer (some ⟨g, 0, none⟩), .agg (oa k1), .int .u8 1] w fun e w' => (∃ a c b d, e = .returned (.tuple #[.agg #[.slice a 0 c, .slice b 0 d, .int .i64 0, .int .i64 5], .int .i64 0])) ∧ BkG w' g gb gs base [] [k1] ∧ Below base w w' := by
  refine (place_ok1 k1 h (g1 := gs) (g2 := gb) (l1 := []) (l2 := []) rfl rfl rfl rfl ok_k1 (by decide) (fun x hx => by cases hx) rfl rfl (fun _ => by decide)).mono ?_
  rintro e w' ⟨⟨vt, vg, rfl, h1, h2⟩, ht, hk, hb, _⟩
  obtain ⟨a, c, rfl⟩ := own_formB h1
  obtain ⟨b, d, rfl⟩ := own_formB h2
  exact ⟨⟨a, c, b, d, rfl⟩, ⟨hk, ⟨ht.s2, ht.s1, fun e => ht.ne e.symm, fun v1 v2 e1 e2 q e3 e4 => ht.ap v2 v1 e2 e1 q e4 e3⟩, h.bg⟩, hb⟩
theorem place_k2 {w : World} {g gb gs base : Nat} (h : BkG w g gb gs base [] [k1]) :
    Calls Try.prog 14 #[.pointer (some ⟨g, 0, none⟩), .agg (oa k2), .int .u8 1] w fun e w' => (∃ a c b d, e = .returned (.tuple #[.agg #[.slice a 0 c, .slice b 0 d, .int .i64 0, .int .i64 5], .int .i64 0])) ∧ BkG w' g gb gs base [] [k1, k2] ∧ Below base w w' := by
  refine (place_ok1 k2 h (g1 := gs) (g2 := gb) (l1 := [k1]) (l2 := []) rfl rfl rfl rfl ok_k2 (by decide) (fun x hx => by cases hx) rfl rfl (fun _ => by decide)).mono ?_
  rintro e w' ⟨⟨vt, vg, rfl, h1, h2⟩, ht, hk, hb, _⟩
  obtain ⟨a, c, rfl⟩ := own_formB h1
  obtain ⟨b, d, rfl⟩ := own_formB h2
  exact ⟨⟨a, c, b, d, rfl⟩, ⟨hk, ⟨ht.s2, ht.s1, fun e => ht.ne e.symm, fun v1 v2 e1 e2 q e3 e4 => ht.ap v2 v1 e2 e1 q e4 e3⟩, h.bg⟩, hb⟩
theorem good_k : Good [k1, k2] := fun x hx => by
  rcases List.mem_cons.1 hx with rfl | hx
  · decide
  · rcases List.mem_cons.1 hx with rfl | hx
    · decide
    · cases hx
theorem place_k3 {w : World} {g gb gs base : Nat} (h : BkG w g gb gs base [] [k1, k2]) :
    Calls Try.prog 14 #[.pointer (some ⟨g, 0, none⟩), .agg (oa k3), .int .u8 1] w fun e w' => (∃ a c b d A B, e = .returned (.tuple #[.agg #[.slice (some ⟨a, 0, none⟩) 1 c, .slice (some ⟨b, 0, none⟩) 1 d, .int .i64 5, .int .i64 2], .int .i64 0]) ∧ w'.heap[a]? = some (.cells A 46 (0, 0)) ∧ 4 ≤ A.size ∧ A.extract 0 4 = ta ⟨10, 5, 2, 8⟩ ∧ w'.heap[b]? = some (.cells B 27 (0, 0)) ∧ B[0]? = some (.int .u64 1)) ∧ Below base w w' := by
  refine (place_ok1 k3 h (g1 := gb) (g2 := gs) (l1 := []) (l2 := [k1, k2]) rfl rfl rfl rfl ok_k3 (by decide) good_k rfl rfl (fun _ => by decide)).mono ?_
  rintro e w' ⟨⟨vt, vg, rfl, h1, h2⟩, ht, hk, hb, _⟩
  obtain ⟨_, ⟨_, h⟩ | ⟨ga, c, A, rfl, _, hga, hn, hm, hA, htk⟩⟩ := h1
  · cases h
  obtain ⟨_, ⟨_, h⟩ | ⟨gg, d, B, rfl, _, hgg, hn2, hm2, hB, htk2⟩⟩ := h2
  · cases h
  refine ⟨⟨ga, c, gg, d, A, B, rfl, hga, ?_, ?_, hgg, ?_⟩, hb⟩
  · have : 1 ≤ c := hn
    omega
  · have e1 : A.toList.take 4 = (ta ⟨10, 5, 2, 8⟩).toList := htk
    apply Array.toList_inj.1
    rw [Array.toList_extract]
    simpa using e1
  · have e1 : B.toList.take 1 = [Value.int .u64 1] := htk2
    have e2 := congrArg (fun l => l[0]?) e1
    simpa [List.getElem?_take] using e2
set_option maxRecDepth 100000 in
set_option maxHeartbeats 4000000 in
theorem known07 (w : World) : Calls Try.prog 10 #[] w fun e w' => e = .returned (.bool true) ∧ Below w.heap.size w w' := by
  have hne : ∀ (w : World) (g : Nat), (binOp .eql 23 (.pointer (some ⟨g, 0, none⟩)) (.pointer none)).run Try.prog w = .ok (.bool false) w := fun _ _ => by kernel_rfl
  have hte : ∀ (w : World), (binOp .eql 46 (.agg (ta ⟨10, 5, 2, 8⟩)) (.agg (ta ⟨10, 5, 2, 8⟩))).run Try.prog w = .ok (.bool true) w := fun _ => by kernel_rfl
  have HP := Lib.hid (show pl0.size = 4 from rfl)
  go_enter Try.func10, Try.ntmps10
  go_wp2_with ((go_at_call 9; (with_reducible refine ((bnew_any w)).mono ?_); rintro e w1 ⟨g, gb, gs, rfl, hB1, hb1⟩))
  refine wp_loop_rounds 3 ?_
  rw [rounds_succ]
  go_wp2_with (first | ((with_reducible refine at_build 30 ?_); refine wpList_build_named rfl 30 _ rfl (oa k1) (by kernel_rfl) ?_) | (go_at_call 14; (with_reducible refine ((place_k1 hB1)).mono ?_); rintro e w2 ⟨⟨a2, c2, b2, d2, rfl⟩, hB2, hb2⟩; have hB2' := hB2.kept (below_new w2 (Obj.cells #[.slice a2 0 c2, .slice b2 0 d2, .int .i64 0, .int .i64 5] 41)); have hb12 := below_alloc (hb1.trans hb2) (Obj.cells #[.slice a2 0 c2, .slice b2 0 d2, .int .i64 0, .int .i64 5] 41)) | ((with_reducible refine at_alloc 41 ?_); refine wpList_alloc_named rfl 41 rfl pl0 (by kernel_rfl) ?_) | ((with_reducible refine at_store 41 ?_); refine wpList_store_new rfl 41 _ _ rfl (#[.slice a2 0 c2, .slice b2 0 d2, .int .i64 0, .int .i64 5]) _ _ _ rfl (by simp) rfl (by kernel_rfl) rfl pl_all ?_))
  rw [rounds_succ]
  go_wp2_with (first | ((with_reducible refine at_build 30 ?_); refine wpList_build_named rfl 30 _ rfl (oa k2) (by kernel_rfl) ?_) | (go_at_call 14; (with_reducible refine ((place_k2 hB2')).mono ?_); rintro e w3 ⟨⟨a3, c3, b3, d3, rfl⟩, hB3, hb3⟩; have hB3' := hB3.kept (below_new w3 (Obj.cells #[.slice a3 0 c3, .slice b3 0 d3, .int .i64 0, .int .i64 5] 41)); have hb13 := below_alloc (hb12.trans hb3) (Obj.cells #[.slice a3 0 c3, .slice b3 0 d3, .int .i64 0, .int .i64 5] 41)) | ((with_reducible refine at_alloc 41 ?_); refine wpList_alloc_named rfl 41 rfl pl0 (by kernel_rfl) ?_) | ((with_reducible refine at_store 41 ?_); refine wpList_store_new rfl 41 _ _ rfl (#[.slice a3 0 c3, .slice b3 0 d3, .int .i64 0, .int .i64 5]) _ _ _ rfl (by simp) rfl (by kernel_rfl) rfl pl_all ?_))
  rw [rounds_succ]
  go_wp2_with (first | ((with_reducible refine at_build 30 ?_); refine wpList_build_named rfl 30 _ rfl (oa k3) (by kernel_rfl) ?_) | (go_at_call 14; (with_reducible refine ((place_k3 hB3')).mono ?_); rintro e w4 ⟨⟨ga, c4, gg, d4, A, B, rfl, hga, hA, hx, hgg, hB⟩, hb4⟩; have hb14 := below_alloc (hb13.trans hb4) (Obj.cells #[.slice (some ⟨ga, 0, none⟩) 1 c4, .slice (some ⟨gg, 0, none⟩) 1 d4, .int .i64 5, .int .i64 2] 41); have hga5 := heap_up (o := Obj.cells #[.slice (some ⟨ga, 0, none⟩) 1 c4, .slice (some ⟨gg, 0, none⟩) 1 d4, .int .i64 5, .int .i64 2] 41) hga; have cgg5 := cellF (heap_up (o := Obj.cells #[.slice (some ⟨ga, 0, none⟩) 1 c4, .slice (some ⟨gg, 0, none⟩) 1 d4, .int .i64 5, .int .i64 2] 41) hgg); have hnew := heap_alloc_new w4 (Obj.cells #[.slice (some ⟨ga, 0, none⟩) 1 c4, .slice (some ⟨gg, 0, none⟩) 1 d4, .int .i64 5, .int .i64 2] 41); have cnew := cellF hnew; have HA := Lib.hid hA; have HXX := Lib.hid hx; clear hA hx) | ((with_reducible refine at_alloc 41 ?_); refine wpList_alloc_named rfl 41 rfl pl0 (by kernel_rfl) ?_) | ((with_reducible refine at_store 41 ?_); refine wpList_store_new rfl 41 _ _ rfl (#[.slice (some ⟨ga, 0, none⟩) 1 c4, .slice (some ⟨gg, 0, none⟩) 1 d4, .int .i64 5, .int .i64 2]) _ _ _ rfl (by simp) rfl (by kernel_rfl) rfl pl_all ?_) | ((with_reducible refine at_load 46 ?_); refine wpList_load_part rfl 46 _ rfl (ga) (0) rfl _ (A) _ _ 4 (hga5) Try.underlying46 rfl (by kernel_rfl) (by have := HA.out; omega) (ta ⟨10, 5, 2, 8⟩) (HXX.out) ?_) | ((with_reducible refine at_build 46 ?_); refine wpList_build_named rfl 46 _ rfl (ta ⟨10, 5, 2, 8⟩) (by kernel_rfl) ?_))
  go_ret
  exact ⟨rfl, hb14⟩
end Go.Proofs.Ytmjfbilhalkegaa
