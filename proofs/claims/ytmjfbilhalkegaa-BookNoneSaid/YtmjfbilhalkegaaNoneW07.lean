/- BookNone, walked: it returns true. No condition. -/
import Derived.Test.YtmjfbilhalkegaaKnown07
namespace Go.Proofs.Ytmjfbilhalkegaa
set_option linter.unusedVariables false
set_option linter.unusedSimpArgs false
open Go.RowKit Go.Deep

set_option maxRecDepth 100000 in
set_option maxHeartbeats 4000000 in
theorem same0 (w : World) : Calls Try.prog 21 #[.agg pl0, .agg pl0] w fun e w' => e = .returned (.bool true) ∧ Below w.heap.size w w' := by
  have hb := below_alloc (below_new w (Obj.cells pl0 41)) (Obj.cells pl0 41)
  have c1 := cellF (heap_up (o := Obj.cells pl0 41) (heap_alloc_new w (Obj.cells pl0 41)))
  have h2 : ((w.alloc (Obj.cells pl0 41)).alloc (Obj.cells pl0 41)).heap[w.heap.size + 1]? = some (.cells pl0 41 (0, 0)) := by
    have := heap_alloc_new (w.alloc (Obj.cells pl0 41)) (Obj.cells pl0 41)
    simpa using this
  have c2 := cellF h2
  have p0 : pl0[0]? = some (.slice none 0 0) := rfl
  have p1 : pl0[1]? = some (.slice none 0 0) := rfl
  have p2 : pl0[2]? = some (.int .i64 0) := rfl
  have p3 : pl0[3]? = some (.int .i64 0) := rfl
  clear h2
  generalize pl0 = P0 at *
  go_enter Try.func21, Try.ntmps21
  go_wp2_with fail
  refine wp_loop_rounds 1 ?_
  rw [rounds_succ]
  go_wp2_with fail
  refine wp_loop_rounds 1 ?_
  rw [rounds_succ]
  go_wp2_with fail
  go_ret
  exact ⟨rfl, hb⟩
/-- what lies there all the time -/
structure EnvB (A : Array Value) (w : World) (wr : World) : Prop where
  sp : wr.heap[w.heap.size]? = some (.cells A 30 (0, 0))
  gz : wr.heap[w.heap.size + 1]? = some (.cells #[.pointer none, .pointer none] 56 (0, 0))
  gl : wr.heap[w.heap.size + 1 + 1]? = some (.cells #[.pointer none, .pointer (some ⟨w.heap.size + 1, 0, none⟩)] 23 (0, 0))
  be : Below w.heap.size w wr
theorem EnvB.kept {A : Array Value} {w wr w' : World} (h : EnvB A w wr) (hb : Below wr.heap.size wr w') : EnvB A w w' :=
  ⟨Ytmjfbilhalkegaa.kept hb h.sp, Ytmjfbilhalkegaa.kept hb h.gz, Ytmjfbilhalkegaa.kept hb h.gl, below_then h.be hb⟩
theorem envB_start (A : Array Value) (w : World) : EnvB A w (((w.alloc (Obj.cells A 30)).alloc (Obj.cells #[.pointer none, .pointer none] 56)).alloc (Obj.cells #[Value.pointer none, Value.pointer (some { block := w.heap.size + 1, off := 0 })] 23)) := by
  refine ⟨heap_up (heap_up (heap_alloc_new _ _)), heap_up ?_, ?_, below_alloc (below_alloc (below_new _ _) _) _⟩
  · have := heap_alloc_new (w.alloc (Obj.cells A 30)) (Obj.cells #[.pointer none, .pointer none] 56)
    simpa using this
  · have := heap_alloc_new ((w.alloc (Obj.cells A 30)).alloc (Obj.cells #[.pointer none, .pointer none] 56)) (Obj.cells #[Value.pointer none, Value.pointer (some { block := w.heap.size + 1, off := 0 })] 23)
    simpa using this
set_option maxRecDepth 100000 in
set_option maxHeartbeats 8000000 in
theorem none07_walk (A : Array Value) (k : Int) (w : World) (hO : IsOrd A) :
    Calls Try.prog 8 #[.agg A, .int .u8 k] w fun e w' => e = .returned (.bool true) ∧ Below w.heap.size w w' := by
  have hne : ∀ (w1 : World), (binOp .neq 23 (.pointer none) (.pointer none)).run Try.prog w1 = .ok (.bool false) w1 := fun _ => by kernel_rfl
  have HSZ := Lib.hid hO.size
  have HEX := Lib.hid (extract_all hO.size)
  have HZ := Lib.hid zo_size
  have HZA := Lib.hid zo_all
  have HPS := Lib.hid (show pl0.size = 4 from rfl)
  have HPX := Lib.hid (extract_all (show pl0.size = 4 from rfl))
  have HPA := Lib.hid (show pl0.all (·.oneCell') = true from pl_all)
  have e0 := hO.n.1
  have e1 := hO.a.1
  have e3 := hO.p.1
  have e4 := hO.l.1
  clear hO
  generalize N A 0 = x0 at *
  generalize N A 1 = x1 at *
  generalize N A 3 = x3 at *
  generalize N A 4 = x4 at *
  go_enter Try.func8, Try.ntmps8
  go_wp2_with fail
  refine wp_loop_rounds 3 ?_
  have hE := envB_start A w
  obtain ⟨w0, hw0⟩ : ∃ w0, w0 = (((w.alloc (Obj.cells A 30)).alloc (Obj.cells #[.pointer none, .pointer none] 56)).alloc (Obj.cells #[Value.pointer none, Value.pointer (some { block := w.heap.size + 1, off := 0 })] 23)) := ⟨_, rfl⟩
  rw [← hw0] at hE ⊢
  clear hw0
  have hP : NoB w0 none := .inl rfl
  rw [rounds_succ]
  have cl := cellF hE.gl
  have hsp := hE.sp
  go_wp2_with (first | ((with_reducible refine at_load 30 ?_); refine wpList_load_part rfl 30 _ rfl (w.heap.size) (0) rfl _ (A) _ _ 5 (hsp) Try.underlying30 rfl (by kernel_rfl) (by rw [HSZ.out]; omega) (A) (HEX.out) ?_) | (go_at_call 14; (with_reducible refine ((bplace_no k HSZ.out hP)).mono ?_); rintro e w1 ⟨rfl, hb1⟩; have hX1 := below_alloc hb1 (Obj.cells pl0 41); have hE1 := hE.kept hX1; have hP1 := hP.kept hX1; have h9 := heap_alloc_new w1 (Obj.cells pl0 41); have cs1 := cellF hE1.sp; clear hsp) | (go_at_call 16; (with_reducible refine ((breplace_no x0 x3 x4 hP1)).mono ?_); rintro e w2 ⟨rfl, hb2⟩; have hX2 := below_alloc hb2 (Obj.cells pl0 41); have hE2 := hE1.kept hX2; have hP2 := hP1.kept hX2; have h9b := Ytmjfbilhalkegaa.kept hX2 h9; have h11 := heap_alloc_new w2 (Obj.cells pl0 41); have cs2 := cellF hE2.sp; clear cs1 h9) | (go_at_call 17; (with_reducible refine ((bcancel_no x0 hP2)).mono ?_); rintro e w3 ⟨rfl, hb3⟩; have hX3 := below_alloc hb3 (Obj.cells zo 30); have hE3 := hE2.kept hX3; have hP3 := hP2.kept hX3; have h9c := Ytmjfbilhalkegaa.kept hX3 h9b; have h11b := Ytmjfbilhalkegaa.kept hX3 h11; have cs3 := cellF hE3.sp; clear cs2 h9b h11) | (go_at_call 19; (with_reducible refine ((bget_no x0 hP3)).mono ?_); rintro e w4 ⟨rfl, hb4⟩; have hX4 := below_alloc hb4 (Obj.cells zo 30); have hE4 := hE3.kept hX4; have hP4 := hP3.kept hX4; have h9d := Ytmjfbilhalkegaa.kept hX4 h9c; have h11c := Ytmjfbilhalkegaa.kept hX4 h11b; have cs4 := cellF hE4.sp; clear cs3 h9c h11b) | (go_at_call 20; (with_reducible refine ((bopen_no x1 hP4)).mono ?_); rintro e w5 ⟨rfl, hb5⟩; have hE5 := hE4.kept hb5; have hP5 := hP4.kept hb5; have h9e := Ytmjfbilhalkegaa.kept hb5 h9d; have h11d := Ytmjfbilhalkegaa.kept hb5 h11c; clear cs4 h9d h11c) | (go_at_call 21; (with_reducible refine ((same0 w5)).mono ?_); rintro e w6 ⟨rfl, hb6⟩; have hE6 := hE5.kept hb6; have hP6 := hP5.kept hb6; have h11e := Ytmjfbilhalkegaa.kept hb6 h11d) | (go_at_call 21; (with_reducible refine ((same0 w6)).mono ?_); rintro e w7 ⟨rfl, hb7⟩; have hE7 := hE6.kept hb7; have hP7 := hP6.kept hb7) | (go_at_call 22; (with_reducible refine ((bmass_no 0 hP7)).mono ?_); rintro e w8 ⟨rfl, hb8⟩; have hE8 := hE7.kept hb8; have hP8 := hP7.kept hb8) | (go_at_call 13; (with_reducible refine ((borders_no hP8)).mono ?_); rintro e w9 ⟨rfl, hb9⟩; have hE9 := hE8.kept hb9; have hP9 := hP8.kept hb9) | (go_at_call 18; (with_reducible refine ((bcopy_no hP9)).mono ?_); rintro e w10 ⟨rfl, rfl⟩) | ((with_reducible refine at_load 41 ?_); refine wpList_load_part rfl 41 _ rfl (w1.heap.size) (0) rfl _ (pl0) _ _ 4 (h9e) Try.underlying41 rfl (by kernel_rfl) (by rw [HPS.out]; omega) (pl0) (HPX.out) ?_) | ((with_reducible refine at_load 41 ?_); refine wpList_load_part rfl 41 _ rfl (w2.heap.size) (0) rfl _ (pl0) _ _ 4 (h11e) Try.underlying41 rfl (by kernel_rfl) (by rw [HPS.out]; omega) (pl0) (HPX.out) ?_) | ((with_reducible refine at_build 41 ?_); refine wpList_build_named rfl 41 _ rfl pl0 (by kernel_rfl) ?_) | ((with_reducible refine at_alloc 41 ?_); refine wpList_alloc_named rfl 41 rfl pl0 (by kernel_rfl) ?_) | ((with_reducible refine at_alloc 30 ?_); refine wpList_alloc_named rfl 30 rfl (zo) (by kernel_rfl) ?_) | ((with_reducible refine at_store 41 ?_); refine wpList_store_new rfl 41 _ _ rfl pl0 _ _ _ rfl (by simp) rfl (by rw [HPS.out]; kernel_rfl) rfl HPA.out ?_) | ((with_reducible refine at_store 30 ?_); refine wpList_store_new rfl 30 _ _ rfl zo _ _ _ rfl (by simp) rfl (by rw [HZ.out]; kernel_rfl) rfl HZA.out ?_))
  have hF := hE9
  clear hE hP hE1 hP1 hE2 hP2 hE3 hP3 hE4 hP4 hE5 hP5 hE6 hP6 hE7 hP7 hE8 hP8 hE9 hP9 h9e h11e h11d hX1 hX2 hX3 hX4 hb1 hb2 hb3 hb4 hb5 hb6 hb7 hb8 hb9 cl
  have hE := hF
  have hP : NoB _ (some ⟨w.heap.size + 1, 0, none⟩) := .inr ⟨_, rfl, hF.gz⟩
  clear hF
  rw [rounds_succ]
  have cl := cellF hE.gl
  have hsp := hE.sp
  go_wp2_with (first | ((with_reducible refine at_load 30 ?_); refine wpList_load_part rfl 30 _ rfl (w.heap.size) (0) rfl _ (A) _ _ 5 (hsp) Try.underlying30 rfl (by kernel_rfl) (by rw [HSZ.out]; omega) (A) (HEX.out) ?_) | (go_at_call 14; (with_reducible refine ((bplace_no k HSZ.out hP)).mono ?_); rintro e w1 ⟨rfl, hb1⟩; have hX1 := below_alloc hb1 (Obj.cells pl0 41); have hE1 := hE.kept hX1; have hP1 := hP.kept hX1; have h9 := heap_alloc_new w1 (Obj.cells pl0 41); have cs1 := cellF hE1.sp; clear hsp) | (go_at_call 16; (with_reducible refine ((breplace_no x0 x3 x4 hP1)).mono ?_); rintro e w2 ⟨rfl, hb2⟩; have hX2 := below_alloc hb2 (Obj.cells pl0 41); have hE2 := hE1.kept hX2; have hP2 := hP1.kept hX2; have h9b := Ytmjfbilhalkegaa.kept hX2 h9; have h11 := heap_alloc_new w2 (Obj.cells pl0 41); have cs2 := cellF hE2.sp; clear cs1 h9) | (go_at_call 17; (with_reducible refine ((bcancel_no x0 hP2)).mono ?_); rintro e w3 ⟨rfl, hb3⟩; have hX3 := below_alloc hb3 (Obj.cells zo 30); have hE3 := hE2.kept hX3; have hP3 := hP2.kept hX3; have h9c := Ytmjfbilhalkegaa.kept hX3 h9b; have h11b := Ytmjfbilhalkegaa.kept hX3 h11; have cs3 := cellF hE3.sp; clear cs2 h9b h11) | (go_at_call 19; (with_reducible refine ((bget_no x0 hP3)).mono ?_); rintro e w4 ⟨rfl, hb4⟩; have hX4 := below_alloc hb4 (Obj.cells zo 30); have hE4 := hE3.kept hX4; have hP4 := hP3.kept hX4; have h9d := Ytmjfbilhalkegaa.kept hX4 h9c; have h11c := Ytmjfbilhalkegaa.kept hX4 h11b; have cs4 := cellF hE4.sp; clear cs3 h9c h11b) | (go_at_call 20; (with_reducible refine ((bopen_no x1 hP4)).mono ?_); rintro e w5 ⟨rfl, hb5⟩; have hE5 := hE4.kept hb5; have hP5 := hP4.kept hb5; have h9e := Ytmjfbilhalkegaa.kept hb5 h9d; have h11d := Ytmjfbilhalkegaa.kept hb5 h11c; clear cs4 h9d h11c) | (go_at_call 21; (with_reducible refine ((same0 w5)).mono ?_); rintro e w6 ⟨rfl, hb6⟩; have hE6 := hE5.kept hb6; have hP6 := hP5.kept hb6; have h11e := Ytmjfbilhalkegaa.kept hb6 h11d) | (go_at_call 21; (with_reducible refine ((same0 w6)).mono ?_); rintro e w7 ⟨rfl, hb7⟩; have hE7 := hE6.kept hb7; have hP7 := hP6.kept hb7) | (go_at_call 22; (with_reducible refine ((bmass_no 0 hP7)).mono ?_); rintro e w8 ⟨rfl, hb8⟩; have hE8 := hE7.kept hb8; have hP8 := hP7.kept hb8) | (go_at_call 13; (with_reducible refine ((borders_no hP8)).mono ?_); rintro e w9 ⟨rfl, hb9⟩; have hE9 := hE8.kept hb9; have hP9 := hP8.kept hb9) | (go_at_call 18; (with_reducible refine ((bcopy_no hP9)).mono ?_); rintro e w10 ⟨rfl, rfl⟩) | ((with_reducible refine at_load 41 ?_); refine wpList_load_part rfl 41 _ rfl (w1.heap.size) (0) rfl _ (pl0) _ _ 4 (h9e) Try.underlying41 rfl (by kernel_rfl) (by rw [HPS.out]; omega) (pl0) (HPX.out) ?_) | ((with_reducible refine at_load 41 ?_); refine wpList_load_part rfl 41 _ rfl (w2.heap.size) (0) rfl _ (pl0) _ _ 4 (h11e) Try.underlying41 rfl (by kernel_rfl) (by rw [HPS.out]; omega) (pl0) (HPX.out) ?_) | ((with_reducible refine at_build 41 ?_); refine wpList_build_named rfl 41 _ rfl pl0 (by kernel_rfl) ?_) | ((with_reducible refine at_alloc 41 ?_); refine wpList_alloc_named rfl 41 rfl pl0 (by kernel_rfl) ?_) | ((with_reducible refine at_alloc 30 ?_); refine wpList_alloc_named rfl 30 rfl (zo) (by kernel_rfl) ?_) | ((with_reducible refine at_store 41 ?_); refine wpList_store_new rfl 41 _ _ rfl pl0 _ _ _ rfl (by simp) rfl (by rw [HPS.out]; kernel_rfl) rfl HPA.out ?_) | ((with_reducible refine at_store 30 ?_); refine wpList_store_new rfl 30 _ _ rfl zo _ _ _ rfl (by simp) rfl (by rw [HZ.out]; kernel_rfl) rfl HZA.out ?_))
  have hF := hE9
  clear hE hP hE1 hP1 hE2 hP2 hE3 hP3 hE4 hP4 hE5 hP5 hE6 hP6 hE7 hP7 hE8 hP8 hE9 hP9 h9e h11e h11d hX1 hX2 hX3 hX4 hb1 hb2 hb3 hb4 hb5 hb6 hb7 hb8 hb9 cl
  rw [rounds_succ]
  go_wp2_with ((go_at_call 10; (with_reducible refine (known07 _).mono ?_); rintro e w11 ⟨rfl, hb11⟩))
  go_ret
  exact ⟨rfl, below_then hF.be hb11⟩
end Go.Proofs.Ytmjfbilhalkegaa
