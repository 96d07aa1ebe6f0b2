/- SideNone, walked: it returns true. No condition. -/
import Derived.Test.YtobokknfpjjdeaaKnown06
import Derived.Test.YtobokknfpjjdeaaSideNR
import Derived.Test.YtobokknfpjjdeaaOrdInE
namespace Go.Proofs.Ytobokknfpjjdeaa
set_option linter.unusedVariables false
set_option linter.unusedSimpArgs false
open Go.RowKit Go.Shelf

/-- what lies there all the time -/
structure Env (A : Array Value) (w : World) (Ds : List Nat) (wr : World) : Prop where
  sp : wr.heap[w.heap.size]? = some (.cells A 31 (0, 0))
  rs : wr.heap[w.heap.size + 1]? = some (.cells #[.bool false] 4 (0, 0))
  gz : wr.heap[w.heap.size + 1 + 1]? = some (.cells #[.bool false, .bool false, .slice none 0 0] 48 (0, 0))
  gl : wr.heap[w.heap.size + 1 + 1 + 1]? = some (.cells #[.pointer none, .pointer (some ⟨w.heap.size + 1 + 1, 0, none⟩)] 23 (0, 0))
  be : Below w.heap.size w wr
  ds : ∀ D, D ∈ Ds → w.heap.size ≤ D ∧ wr.heap[D]? = some (.deferred (some []))
theorem Env.kept {A : Array Value} {w wr w' : World} {Ds : List Nat} (h : Env A w Ds wr) (hb : Below wr.heap.size wr w') : Env A w Ds w' :=
  ⟨Ytobokknfpjjdeaa.kept hb h.sp, Ytobokknfpjjdeaa.kept hb h.rs, Ytobokknfpjjdeaa.kept hb h.gz, Ytobokknfpjjdeaa.kept hb h.gl, below_then h.be hb, fun D hD => ⟨(h.ds D hD).1, Ytobokknfpjjdeaa.kept hb (h.ds D hD).2⟩⟩
theorem Env.more {A : Array Value} {w wr : World} {Ds : List Nat} {D : Nat} (h : Env A w Ds wr) (hle : w.heap.size ≤ D) (hK : wr.heap[D]? = some (.deferred (some []))) : Env A w (D :: Ds) wr :=
  ⟨h.sp, h.rs, h.gz, h.gl, h.be, fun E hE => by
    rcases List.mem_cons.1 hE with rfl | hE
    · exact ⟨hle, hK⟩
    · exact h.ds E hE⟩
theorem env_start (A : Array Value) (w : World) : Env A w [] ((((w.alloc (Obj.cells A 31)).alloc (Obj.cells #[Value.bool false] 4)).alloc (Obj.cells #[Value.bool false, Value.bool false, Value.slice none 0 0] 48)).alloc
      (Obj.cells #[Value.pointer none, Value.pointer (some { block := w.heap.size + 1 + 1, off := 0 })] 23)) :=
  ⟨by repeat (first | exact heap_new (by simp; done) | refine heap_up ?_), by repeat (first | exact heap_new (by simp; done) | refine heap_up ?_), by repeat (first | exact heap_new (by simp; done) | refine heap_up ?_), by repeat (first | exact heap_new (by simp; done) | refine heap_up ?_), below_alloc (below_alloc (below_alloc (below_new _ _) _) _) _, fun D hD => by cases hD⟩
set_option maxRecDepth 100000 in
set_option maxHeartbeats 8000000 in
theorem none06_walk (A : Array Value) (n : Int) (w : World) (hO : IsOrd A) {p : Prop} (_ : p) :
    Calls Try.prog 5 #[.agg A, .int .i64 n] w fun e w' => e = .returned (.bool true) ∧ Below w.heap.size w w' := by
  have hfe : ∀ (w1 : World) (g : Nat), (binOp .eql 44 (.func (.func 55) #[] #[.pointer (some ⟨g, 0, none⟩)]) Value.nilFunc).run Try.prog w1 = .ok (.bool false) w1 := fun _ _ => by kernel_rfl
  have hne : ∀ (w1 : World), (binOp .neq 23 (.pointer none) (.pointer none)).run Try.prog w1 = .ok (.bool false) w1 := fun _ => by kernel_rfl
  have hze : ∀ (w1 : World), (binOp .neq 31 (.agg zo) (.agg zo)).run Try.prog w1 = .ok (.bool false) w1 := fun _ => by kernel_rfl
  have HSZ := Lib.hid hO.size
  have HEX := Lib.hid (extract_all hO.size)
  have HCZ := Lib.hid zo_size
  have HCA := Lib.hid zo_all
  have HZX := Lib.hid (show zo.extract 0 (0 + 5) = zo by kernel_rfl)
  have e0 := hO.n.1
  have e1 := hO.a.1
  clear hO
  generalize N A 0 = x0 at *
  generalize N A 1 = x1 at *
  refine calls_marks Try.func5 rfl ?_
  simp only [Try.ntmps5, List.size_toArray, List.length_cons, List.length_nil, Nat.reduceAdd, Nat.reduceSub, Array.replicate_succ, Array.replicate_zero, List.push_toArray, List.append_toArray, List.nil_append, List.cons_append]
  go_wp2_with fail
  refine wp_loop_rounds 3 ?_
  have hE := env_start A w
  obtain ⟨w0, hw0⟩ : ∃ w0, w0 = ((((w.alloc (Obj.cells A 31)).alloc (Obj.cells #[Value.bool false] 4)).alloc (Obj.cells #[Value.bool false, Value.bool false, Value.slice none 0 0] 48)).alloc
      (Obj.cells #[Value.pointer none, Value.pointer (some { block := w.heap.size + 1 + 1, off := 0 })] 23)) := ⟨_, rfl⟩
  rw [← hw0] at hE ⊢
  clear hw0
  have hP : NoS w0 none := .inl rfl
  rw [rounds_succ]
  have cl := cellF hE.gl
  go_wp2_with (first | (go_at_call 16; (with_reducible refine (sfill_no n hP).mono ?_); rintro e w1 ⟨rfl, hb1⟩; have hE1 := hE.kept hb1; have hP1 := hP.kept hb1; clear hb1 cl) | ((with_reducible refine at_alloc 31 ?_); refine wpList_alloc_named rfl 31 rfl zo (by kernel_rfl) ?_) | ((with_reducible refine at_store 31 ?_); refine wpList_store_over rfl 31 _ _ rfl (w1.heap.size) (zo) rfl rfl _ _ (heap_alloc_new _ _) (by rw [HCZ.out]; kernel_rfl) (rfl) (HCA.out) ?_; intro w2 hg2 hs2 ho2 hb2; have hb12 := (below_new w1 (Obj.cells zo 31)).trans (hb2 _ (Nat.le_refl _)); have hE2 := hE1.kept hb12; have hP2 := hP1.kept hb12; have cs2 := cellF hE2.sp; clear hs2 ho2 hb2 hb12 hE1 hP1 hg2) | (go_at_call 17; (with_reducible refine (sdrop_no x0 hP2).mono ?_); rintro e w3 ⟨rfl, hb3⟩; have hE3 := hE2.kept hb3; have hP3 := hP2.kept hb3; clear hb3 hE2 hP2 cs2) | ((with_reducible refine at_store 31 ?_); refine wpList_store_over rfl 31 _ _ rfl (w3.heap.size) (zo) rfl rfl _ _ (heap_alloc_new _ _) (by rw [HCZ.out]; kernel_rfl) (rfl) (HCA.out) ?_; intro w4 hg4 hs2 ho2 hb2; have hb12 := (below_new w3 (Obj.cells zo 31)).trans (hb2 _ (Nat.le_refl _)); have hE4 := hE3.kept hb12; have hP4 := hP3.kept hb12; have cs4 := cellF hE4.sp; clear hs2 ho2 hb2 hb12 hE3 hP3 hg4) | (go_at_call 20; (with_reducible refine (sget_no x0 hP4).mono ?_); rintro e w5 ⟨rfl, hb5⟩; have hE5 := hE4.kept hb5; have hP5 := hP4.kept hb5; clear hb5 hE4 hP4 cs4) | ((with_reducible refine at_store 31 ?_); refine wpList_store_over rfl 31 _ _ rfl (w5.heap.size) (zo) rfl rfl _ _ (heap_alloc_new _ _) (by rw [HCZ.out]; kernel_rfl) (rfl) (HCA.out) ?_; intro w6 hg6 hs2 ho2 hb2; have hb12 := (below_new w5 (Obj.cells zo 31)).trans (hb2 _ (Nat.le_refl _)); have hE6 := hE5.kept hb12; have hP6 := hP5.kept hb12; have cs6 := cellF hE6.sp; clear hs2 ho2 hb2 hb12 hE5 hP5 hg6) | (go_at_call 15; (with_reducible refine (sbest_no hP6).mono ?_); rintro e w7 ⟨rfl, hb7⟩; have hE7 := hE6.kept hb7; have hP7 := hP6.kept hb7; clear hb7 hE6 hP6 cs6) | ((with_reducible refine at_store 31 ?_); refine wpList_store_over rfl 31 _ _ rfl (w7.heap.size) (zo) rfl rfl _ _ (heap_alloc_new _ _) (by rw [HCZ.out]; kernel_rfl) (rfl) (HCA.out) ?_; intro w8 hg8 hs2 ho2 hb2; have hb12 := (below_new w7 (Obj.cells zo 31)).trans (hb2 _ (Nat.le_refl _)); have hE8 := hE7.kept hb12; have hP8 := hP7.kept hb12; have cs8 := cellF hE8.sp; clear hs2 ho2 hb2 hb12 hE7 hP7) | ((with_reducible refine at_load 31 ?_); refine wpList_load_part rfl 31 _ rfl (w.heap.size) (0) rfl _ (A) _ _ 5 (hE8.sp) Try.underlying31 rfl (by kernel_rfl) (by rw [HSZ.out]; omega) (A) (HEX.out) ?_) | (go_at_call 13; (with_reducible refine (sadd_no HSZ.out hP8).mono ?_); rintro e w9 ⟨rfl, hb9⟩; have hE9 := hE8.kept hb9; have hP9 := hP8.kept hb9; have hg9 := Ytobokknfpjjdeaa.kept hb9 hg8; have cs9 := cellF hE9.sp; clear hb9 cs8) | (go_at_call 18; (with_reducible refine (slower_no x0 n hP9).mono ?_); rintro e w10 ⟨rfl, rfl⟩) | ((with_reducible refine at_load 31 ?_); refine wpList_load_part rfl 31 _ rfl (w7.heap.size) (0) rfl _ (zo) _ _ 5 (hg9) Try.underlying31 rfl (by kernel_rfl) (by rw [HCZ.out]; omega) (zo) (HZX.out) ?_) | ((with_reducible refine at_build 31 ?_); refine wpList_build_named rfl 31 _ rfl (zo) (by kernel_rfl) ?_) | (go_at_call 14; (with_reducible refine (sreach_no n x1 hP9).mono ?_); rintro e w11 ⟨rfl, hb11⟩; have hE11 := hE9.kept hb11; have hP11 := hP9.kept hb11; clear hb11) | (go_at_call 21; (with_reducible refine (slen_no hP11).mono ?_); rintro e w12 ⟨rfl, rfl⟩) | (go_at_call 22; (with_reducible refine (scopy_no hP11).mono ?_); rintro e w12 ⟨rfl, rfl⟩) | (go_at_call 19; (with_reducible refine (sall_any _).mono ?_); rintro e w12 ⟨rfl, rfl⟩))
  have hb57 := below_alloc (below_new w11 (Obj.cells #[.pointer none] 23)) (Obj.cells #[.pointer none] 23)
  have hE13 := hE11.kept hb57
  have hP13 := hP11.kept hb57
  have hbox : ((w11.alloc (Obj.cells #[.pointer none] 23)).alloc (Obj.cells #[.pointer none] 23)).heap[w11.heap.size + 1]? = some (.cells #[.pointer none] 23 (0, 0)) := by
    have h := heap_alloc_new (w11.alloc (Obj.cells #[.pointer none] 23)) (Obj.cells #[.pointer none] 23)
    simpa using h
  clear hE8 hP8 hE9 hP9 hE11 hP11 hb57 hg8 hg9 cs9
  refine range_none (gf := 55) (lb := #[.pointer (some ⟨w11.heap.size + 1, 0, none⟩)]) rfl (enters_of Try.func55 (by kernel_rfl) rfl) (fun l W hW => sall1_no (Ytobokknfpjjdeaa.kept hW hbox) (hP13.kept hW)) (fun D W hD hWB hK => ?_)
  have hF := (hE13.kept hWB).more (Nat.le_trans hE13.be.size hD) hK
  have hQ : NoS W (some ⟨w.heap.size + 1 + 1, 0, none⟩) := .inr ⟨_, rfl, hF.gz⟩
  clear hE13 hP13 hbox hE hP hK hWB
  go_wp2_with fail
  rw [rounds_succ]
  have cl := cellF hF.gl
  go_wp2_with (first | (go_at_call 16; (with_reducible refine (sfill_no n hQ).mono ?_); rintro e w1 ⟨rfl, hb1⟩; have hE1 := hF.kept hb1; have hP1 := hQ.kept hb1; clear hb1 cl) | ((with_reducible refine at_alloc 31 ?_); refine wpList_alloc_named rfl 31 rfl zo (by kernel_rfl) ?_) | ((with_reducible refine at_store 31 ?_); refine wpList_store_over rfl 31 _ _ rfl (w1.heap.size) (zo) rfl rfl _ _ (heap_alloc_new _ _) (by rw [HCZ.out]; kernel_rfl) (rfl) (HCA.out) ?_; intro w2 hg2 hs2 ho2 hb2; have hb12 := (below_new w1 (Obj.cells zo 31)).trans (hb2 _ (Nat.le_refl _)); have hE2 := hE1.kept hb12; have hP2 := hP1.kept hb12; have cs2 := cellF hE2.sp; clear hs2 ho2 hb2 hb12 hE1 hP1 hg2) | (go_at_call 17; (with_reducible refine (sdrop_no x0 hP2).mono ?_); rintro e w3 ⟨rfl, hb3⟩; have hE3 := hE2.kept hb3; have hP3 := hP2.kept hb3; clear hb3 hE2 hP2 cs2) | ((with_reducible refine at_store 31 ?_); refine wpList_store_over rfl 31 _ _ rfl (w3.heap.size) (zo) rfl rfl _ _ (heap_alloc_new _ _) (by rw [HCZ.out]; kernel_rfl) (rfl) (HCA.out) ?_; intro w4 hg4 hs2 ho2 hb2; have hb12 := (below_new w3 (Obj.cells zo 31)).trans (hb2 _ (Nat.le_refl _)); have hE4 := hE3.kept hb12; have hP4 := hP3.kept hb12; have cs4 := cellF hE4.sp; clear hs2 ho2 hb2 hb12 hE3 hP3 hg4) | (go_at_call 20; (with_reducible refine (sget_no x0 hP4).mono ?_); rintro e w5 ⟨rfl, hb5⟩; have hE5 := hE4.kept hb5; have hP5 := hP4.kept hb5; clear hb5 hE4 hP4 cs4) | ((with_reducible refine at_store 31 ?_); refine wpList_store_over rfl 31 _ _ rfl (w5.heap.size) (zo) rfl rfl _ _ (heap_alloc_new _ _) (by rw [HCZ.out]; kernel_rfl) (rfl) (HCA.out) ?_; intro w6 hg6 hs2 ho2 hb2; have hb12 := (below_new w5 (Obj.cells zo 31)).trans (hb2 _ (Nat.le_refl _)); have hE6 := hE5.kept hb12; have hP6 := hP5.kept hb12; have cs6 := cellF hE6.sp; clear hs2 ho2 hb2 hb12 hE5 hP5 hg6) | (go_at_call 15; (with_reducible refine (sbest_no hP6).mono ?_); rintro e w7 ⟨rfl, hb7⟩; have hE7 := hE6.kept hb7; have hP7 := hP6.kept hb7; clear hb7 hE6 hP6 cs6) | ((with_reducible refine at_store 31 ?_); refine wpList_store_over rfl 31 _ _ rfl (w7.heap.size) (zo) rfl rfl _ _ (heap_alloc_new _ _) (by rw [HCZ.out]; kernel_rfl) (rfl) (HCA.out) ?_; intro w8 hg8 hs2 ho2 hb2; have hb12 := (below_new w7 (Obj.cells zo 31)).trans (hb2 _ (Nat.le_refl _)); have hE8 := hE7.kept hb12; have hP8 := hP7.kept hb12; have cs8 := cellF hE8.sp; clear hs2 ho2 hb2 hb12 hE7 hP7) | ((with_reducible refine at_load 31 ?_); refine wpList_load_part rfl 31 _ rfl (w.heap.size) (0) rfl _ (A) _ _ 5 (hE8.sp) Try.underlying31 rfl (by kernel_rfl) (by rw [HSZ.out]; omega) (A) (HEX.out) ?_) | (go_at_call 13; (with_reducible refine (sadd_no HSZ.out hP8).mono ?_); rintro e w9 ⟨rfl, hb9⟩; have hE9 := hE8.kept hb9; have hP9 := hP8.kept hb9; have hg9 := Ytobokknfpjjdeaa.kept hb9 hg8; have cs9 := cellF hE9.sp; clear hb9 cs8) | (go_at_call 18; (with_reducible refine (slower_no x0 n hP9).mono ?_); rintro e w10 ⟨rfl, rfl⟩) | ((with_reducible refine at_load 31 ?_); refine wpList_load_part rfl 31 _ rfl (w7.heap.size) (0) rfl _ (zo) _ _ 5 (hg9) Try.underlying31 rfl (by kernel_rfl) (by rw [HCZ.out]; omega) (zo) (HZX.out) ?_) | ((with_reducible refine at_build 31 ?_); refine wpList_build_named rfl 31 _ rfl (zo) (by kernel_rfl) ?_) | (go_at_call 14; (with_reducible refine (sreach_no n x1 hP9).mono ?_); rintro e w11 ⟨rfl, hb11⟩; have hE11 := hE9.kept hb11; have hP11 := hP9.kept hb11; clear hb11) | (go_at_call 21; (with_reducible refine (slen_no hP11).mono ?_); rintro e w12 ⟨rfl, rfl⟩) | (go_at_call 22; (with_reducible refine (scopy_no hP11).mono ?_); rintro e w12 ⟨rfl, rfl⟩) | (go_at_call 19; (with_reducible refine (sall_any _).mono ?_); rintro e w12 ⟨rfl, rfl⟩))
  have hb57 := below_alloc (below_new w11 (Obj.cells #[.pointer (some ⟨w.heap.size + 1 + 1, 0, none⟩)] 23)) (Obj.cells #[.pointer (some ⟨w.heap.size + 1 + 1, 0, none⟩)] 23)
  have hE13 := hE11.kept hb57
  have hP13 := hP11.kept hb57
  have hbox : ((w11.alloc (Obj.cells #[.pointer (some ⟨w.heap.size + 1 + 1, 0, none⟩)] 23)).alloc (Obj.cells #[.pointer (some ⟨w.heap.size + 1 + 1, 0, none⟩)] 23)).heap[w11.heap.size + 1]? = some (.cells #[.pointer (some ⟨w.heap.size + 1 + 1, 0, none⟩)] 23 (0, 0)) := by
    have h := heap_alloc_new (w11.alloc (Obj.cells #[.pointer (some ⟨w.heap.size + 1 + 1, 0, none⟩)] 23)) (Obj.cells #[.pointer (some ⟨w.heap.size + 1 + 1, 0, none⟩)] 23)
    simpa using h
  clear hE8 hP8 hE9 hP9 hE11 hP11 hb57 hg8 hg9 cs9
  refine range_none (gf := 55) (lb := #[.pointer (some ⟨w11.heap.size + 1, 0, none⟩)]) rfl (enters_of Try.func55 (by kernel_rfl) rfl) (fun l W hW => sall1_no (Ytobokknfpjjdeaa.kept hW hbox) (hP13.kept hW)) (fun D2 W2 hD2 hWB2 hK2 => ?_)
  have hG := (hE13.kept hWB2).more (Nat.le_trans hE13.be.size hD2) hK2
  have hDD : D ≠ D2 := by have := (Array.getElem?_eq_some_iff.1 (hE13.ds D (by simp)).2).1; omega
  clear hE13 hP13 hbox hF hQ hK2 hWB2
  go_wp2_with fail
  rw [rounds_succ]
  go_wp2_with ((go_at_call 12; (with_reducible refine (known06 _).mono ?_); rintro e w9 ⟨rfl, hb9⟩; have hE10 := hG.kept hb9; have cr := cellF hE10.rs; have fr := (cells_of hE10.rs).2.1))
  have hs0 := heap_set (i := 0) (v := .bool true) hE10.rs
  have hne : ∀ E, w9.heap[E]? = some (.deferred (some [])) → E ≠ w.heap.size + 1 := fun E h e => by
    subst e; rw [hE10.rs] at h; injection h with h; cases h
  have hk2 := (hE10.ds D2 (by simp)).2
  have hk1 := (hE10.ds D (by simp)).2
  have n2 := hne _ hk2
  have n1 := hne _ hk1
  have hz2 := heap_set_other (g := w.heap.size + 1) (i := 0) (v := .bool true) hk2 n2
  have hz1 := heap_set_other (g := w.heap.size + 1) (i := 0) (v := .bool true) hk1 n1
  have hBz := below_set (i := 0) (v := .bool true) hE10.be (show w.heap.size ≤ w.heap.size + 1 by omega)
  refine leaves_cons hz2 (leaves_cons (put_other hz2 hz1 hDD) ?_)
  have hr1 := put_other (o' := .deferred none) hz2 hs0 (Ne.symm n2)
  have hr2 := put_other (o' := .deferred none) (put_other (o' := .deferred none) hz2 hz1 hDD) hr1 (Ne.symm n1)
  have hc := cellF hr2 0
  refine leaves_nil (v := .bool true) ?_ ⟨rfl, below_put (below_put hBz (hE10.ds D2 (by simp)).1 hz2 (Nat.le_refl _)) (hE10.ds D (by simp)).1 (put_other hz2 hz1 hDD) (Nat.le_refl _)⟩
  simp [results, Try.f5, go_sem, hc]
end Go.Proofs.Ytobokknfpjjdeaa
