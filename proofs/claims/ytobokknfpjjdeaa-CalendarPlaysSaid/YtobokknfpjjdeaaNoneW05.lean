/- CalendarNone, walked: it returns true. No condition. -/
import Derived.Test.YtobokknfpjjdeaaKnown05
import Derived.Test.YtobokknfpjjdeaaRange
namespace Go.Proofs.Ytobokknfpjjdeaa
set_option linter.unusedVariables false
set_option linter.unusedSimpArgs false
open Go.RowKit Go.Shelf

theorem call1_no {W : World} {gb l : Nat} {p : Option Addr} (hb : W.heap[gb]? = some (.cells #[.pointer p] 56 (0, 0))) (h : NoC W p) :
    Calls Try.prog 66 #[.func (.yield l) #[] #[], .pointer (some ⟨gb, 0, none⟩)] W fun e W' => (∃ v, e = .returned v) ∧ W = W' := by
  have cb := cellF hb
  go_enter Try.func66, Try.ntmps66
  go_wp2_with ((go_at_call 57; (with_reducible refine (cready_no h).mono ?_); rintro e w1 ⟨rfl, rfl⟩))
  exact bodyPost_ret (results_none rfl _ _ _) rfl ⟨⟨_, rfl⟩, rfl⟩
/-- what lies there all the time -/
structure Env (A : Array Value) (w : World) (Ds : List Nat) (wr : World) : Prop where
  sp : wr.heap[w.heap.size]? = some (.cells A 61 (0, 0))
  rs : wr.heap[w.heap.size + 1]? = some (.cells #[.bool false] 4 (0, 0))
  gz : wr.heap[w.heap.size + 1 + 1]? = some (.cells #[.bool false, .int .u32 0, .slice none 0 0] 93 (0, 0))
  gl : wr.heap[w.heap.size + 1 + 1 + 1]? = some (.cells #[.pointer none, .pointer (some ⟨w.heap.size + 1 + 1, 0, none⟩)] 56 (0, 0))
  be : Below w.heap.size w wr
  ds : ∀ D, D ∈ Ds → w.heap.size ≤ D ∧ wr.heap[D]? = some (.deferred (some []))
theorem Env.kept {A : Array Value} {w wr w' : World} {Ds : List Nat} (h : Env A w Ds wr) (hb : Below wr.heap.size wr w') : Env A w Ds w' :=
  ⟨Ytobokknfpjjdeaa.kept hb h.sp, Ytobokknfpjjdeaa.kept hb h.rs, Ytobokknfpjjdeaa.kept hb h.gz, Ytobokknfpjjdeaa.kept hb h.gl, below_then h.be hb, fun D hD => ⟨(h.ds D hD).1, Ytobokknfpjjdeaa.kept hb (h.ds D hD).2⟩⟩
theorem Env.more {A : Array Value} {w wr : World} {Ds : List Nat} {D : Nat} (h : Env A w Ds wr) (hle : w.heap.size ≤ D) (hK : wr.heap[D]? = some (.deferred (some []))) : Env A w (D :: Ds) wr :=
  ⟨h.sp, h.rs, h.gz, h.gl, h.be, fun E hE => by
    rcases List.mem_cons.1 hE with rfl | hE
    · exact ⟨hle, hK⟩
    · exact h.ds E hE⟩
theorem env_start (A : Array Value) (w : World) : Env A w [] ((((w.alloc (Obj.cells A 61)).alloc (Obj.cells #[Value.bool false] 4)).alloc (Obj.cells #[Value.bool false, Value.int IntKind.u32 0, Value.slice none 0 0] 93)).alloc
      (Obj.cells #[Value.pointer none, Value.pointer (some { block := w.heap.size + 1 + 1, off := 0 })] 56)) :=
  ⟨by repeat (first | exact heap_new (by simp; done) | refine heap_up ?_), by repeat (first | exact heap_new (by simp; done) | refine heap_up ?_), by repeat (first | exact heap_new (by simp; done) | refine heap_up ?_), by repeat (first | exact heap_new (by simp; done) | refine heap_up ?_), below_alloc (below_alloc (below_alloc (below_new _ _) _) _) _, fun D hD => by cases hD⟩
set_option maxRecDepth 100000 in
set_option maxHeartbeats 8000000 in
theorem none05_walk (A : Array Value) (n x : Int) (w : World) (hS : IsSpec A) {p q : Prop} (_ : p) (_ : q) :
    Calls Try.prog 10 #[.agg A, .int .u32 n, .int .i64 x] w fun e w' => e = .returned (.bool true) ∧ Below w.heap.size w w' := by
  have hfe : ∀ (w1 : World) (g : Nat), (binOp .eql 82 (.func (.func 66) #[] #[.pointer (some ⟨g, 0, none⟩)]) Value.nilFunc).run Try.prog w1 = .ok (.bool false) w1 := fun _ _ => by kernel_rfl
  have hne : ∀ (w1 : World), (binOp .neq 56 (.pointer none) (.pointer none)).run Try.prog w1 = .ok (.bool false) w1 := fun _ => by kernel_rfl
  have HSZ := Lib.hid hS.size
  have HEX := Lib.hid (extract_all hS.size)
  have HCZ := Lib.hid cz_size
  have HCA := Lib.hid cz_all
  clear hS
  refine calls_marks Try.func10 rfl ?_
  simp only [Try.ntmps10, List.size_toArray, List.length_cons, List.length_nil, Nat.reduceAdd, Nat.reduceSub, Array.replicate_succ, Array.replicate_zero, List.push_toArray, List.append_toArray, List.nil_append, List.cons_append]
  go_wp2_with fail
  refine wp_loop_rounds 3 ?_
  have hE := env_start A w
  obtain ⟨w0, hw0⟩ : ∃ w0, w0 = ((((w.alloc (Obj.cells A 61)).alloc (Obj.cells #[Value.bool false] 4)).alloc (Obj.cells #[Value.bool false, Value.int IntKind.u32 0, Value.slice none 0 0] 93)).alloc
      (Obj.cells #[Value.pointer none, Value.pointer (some { block := w.heap.size + 1 + 1, off := 0 })] 56)) := ⟨_, rfl⟩
  rw [← hw0] at hE ⊢
  clear hw0
  have hP : NoC w0 none := .inl rfl
  rw [rounds_succ]
  have cl := cellF hE.gl
  go_wp2_with fail
  go_at_call 26
  refine (cget_no n hP).mono ?_
  rintro e w1 ⟨rfl, hb1⟩
  have hE1 := hE.kept hb1
  have hP1 := hP.kept hb1
  clear hb1 cl
  go_wp2_with (first | ((with_reducible refine at_alloc 65 ?_); refine wpList_alloc_named rfl 65 rfl cz (by kernel_rfl) ?_) | ((with_reducible refine at_store 65 ?_); refine wpList_store_over rfl 65 _ _ rfl (w1.heap.size) (cz) rfl rfl _ _ (heap_alloc_new _ _) (by rw [HCZ.out]; kernel_rfl) (rfl) (HCA.out) ?_; intro w2 hg2 hs2 ho2 hb2; have hb12 := (below_new w1 (Obj.cells cz 65)).trans (hb2 _ (Nat.le_refl _)); have hE2 := hE1.kept hb12; have hP2 := hP1.kept hb12; clear hg2 hs2 ho2 hb2 hb12) | (go_at_call 30; (with_reducible refine (cnext_no hP2).mono ?_); rintro e w3 ⟨rfl, rfl⟩) | ((with_reducible refine at_load 61 ?_); refine wpList_load_part rfl 61 _ rfl (w.heap.size) (0) rfl _ (A) _ _ 25 (hE2.sp) Try.underlying61 rfl (by kernel_rfl) (by rw [HSZ.out]; omega) (A) (HEX.out) ?_) | (go_at_call 25; (with_reducible refine (clist_no HSZ.out hP2).mono ?_); rintro e w3 ⟨rfl, hb3⟩; have hE3 := hE2.kept hb3; have hP3 := hP2.kept hb3; clear hb3) | (go_at_call 29; (with_reducible refine (chalt_no n true hP3).mono ?_); rintro e w4 ⟨rfl, rfl⟩) | (go_at_call 28; (with_reducible refine (cpub_no n x hP3).mono ?_); rintro e w4 ⟨rfl, rfl⟩) | (go_at_call 35; (with_reducible refine (cdue_no n hP3).mono ?_); rintro e w4 ⟨rfl, hb4⟩; have hE4 := hE3.kept hb4; have hP4 := hP3.kept hb4; clear hb4) | (go_at_call 27; (with_reducible refine (cexp_no n hP4).mono ?_); rintro e w5 ⟨rfl, hb5⟩; have hE5 := hE4.kept hb5; have hP5 := hP4.kept hb5; clear hb5) | (go_at_call 36; (with_reducible refine (cday_no hP5).mono ?_); rintro e w6 ⟨rfl, rfl⟩) | (go_at_call 43; (with_reducible refine (ccopy_no hP5).mono ?_); rintro e w6 ⟨rfl, rfl⟩) | (go_at_call 34; (with_reducible refine (call_any _).mono ?_); rintro e w6 ⟨rfl, rfl⟩))
  have hb57 := below_alloc (below_new w5 (Obj.cells #[.pointer none] 56)) (Obj.cells #[.pointer none] 56)
  have hE7 := hE5.kept hb57
  have hP7 := hP5.kept hb57
  have hbox : ((w5.alloc (Obj.cells #[.pointer none] 56)).alloc (Obj.cells #[.pointer none] 56)).heap[w5.heap.size + 1]? = some (.cells #[.pointer none] 56 (0, 0)) := by
    have h := heap_alloc_new (w5.alloc (Obj.cells #[.pointer none] 56)) (Obj.cells #[.pointer none] 56)
    simpa using h
  clear hE1 hP1 hE2 hP2 hE3 hP3 hE4 hP4 hE5 hP5 hb57
  refine range_none (gf := 66) (lb := #[.pointer (some ⟨w5.heap.size + 1, 0, none⟩)]) rfl (enters_of Try.func66 (by kernel_rfl) rfl) (fun l W hW => call1_no (Ytobokknfpjjdeaa.kept hW hbox) (hP7.kept hW)) (fun D W hD hWB hK => ?_)
  have hE8 := (hE7.kept hWB).more (Nat.le_trans hE7.be.size hD) hK
  clear hE7 hP7 hbox
  go_wp2_with fail
  have hF := hE8
  have hQ : NoC W (some ⟨w.heap.size + 1 + 1, 0, none⟩) := .inr ⟨_, rfl, hE8.gz⟩
  clear hE8 hE hP hK hWB
  rw [rounds_succ]
  have cl := cellF hF.gl
  go_wp2_with fail
  go_at_call 26
  refine (cget_no n hQ).mono ?_
  rintro e w1 ⟨rfl, hb1⟩
  have hE1 := hF.kept hb1
  have hP1 := hQ.kept hb1
  clear hb1 cl
  go_wp2_with (first | ((with_reducible refine at_alloc 65 ?_); refine wpList_alloc_named rfl 65 rfl cz (by kernel_rfl) ?_) | ((with_reducible refine at_store 65 ?_); refine wpList_store_over rfl 65 _ _ rfl (w1.heap.size) (cz) rfl rfl _ _ (heap_alloc_new _ _) (by rw [HCZ.out]; kernel_rfl) (rfl) (HCA.out) ?_; intro w2 hg2 hs2 ho2 hb2; have hb12 := (below_new w1 (Obj.cells cz 65)).trans (hb2 _ (Nat.le_refl _)); have hE2 := hE1.kept hb12; have hP2 := hP1.kept hb12; clear hg2 hs2 ho2 hb2 hb12) | (go_at_call 30; (with_reducible refine (cnext_no hP2).mono ?_); rintro e w3 ⟨rfl, rfl⟩) | ((with_reducible refine at_load 61 ?_); refine wpList_load_part rfl 61 _ rfl (w.heap.size) (0) rfl _ (A) _ _ 25 (hE2.sp) Try.underlying61 rfl (by kernel_rfl) (by rw [HSZ.out]; omega) (A) (HEX.out) ?_) | (go_at_call 25; (with_reducible refine (clist_no HSZ.out hP2).mono ?_); rintro e w3 ⟨rfl, hb3⟩; have hE3 := hE2.kept hb3; have hP3 := hP2.kept hb3; clear hb3) | (go_at_call 29; (with_reducible refine (chalt_no n true hP3).mono ?_); rintro e w4 ⟨rfl, rfl⟩) | (go_at_call 28; (with_reducible refine (cpub_no n x hP3).mono ?_); rintro e w4 ⟨rfl, rfl⟩) | (go_at_call 35; (with_reducible refine (cdue_no n hP3).mono ?_); rintro e w4 ⟨rfl, hb4⟩; have hE4 := hE3.kept hb4; have hP4 := hP3.kept hb4; clear hb4) | (go_at_call 27; (with_reducible refine (cexp_no n hP4).mono ?_); rintro e w5 ⟨rfl, hb5⟩; have hE5 := hE4.kept hb5; have hP5 := hP4.kept hb5; clear hb5) | (go_at_call 36; (with_reducible refine (cday_no hP5).mono ?_); rintro e w6 ⟨rfl, rfl⟩) | (go_at_call 43; (with_reducible refine (ccopy_no hP5).mono ?_); rintro e w6 ⟨rfl, rfl⟩) | (go_at_call 34; (with_reducible refine (call_any _).mono ?_); rintro e w6 ⟨rfl, rfl⟩))
  have hb57 := below_alloc (below_new w5 (Obj.cells #[.pointer (some ⟨w.heap.size + 1 + 1, 0, none⟩)] 56)) (Obj.cells #[.pointer (some ⟨w.heap.size + 1 + 1, 0, none⟩)] 56)
  have hE7 := hE5.kept hb57
  have hP7 := hP5.kept hb57
  have hbox : ((w5.alloc (Obj.cells #[.pointer (some ⟨w.heap.size + 1 + 1, 0, none⟩)] 56)).alloc (Obj.cells #[.pointer (some ⟨w.heap.size + 1 + 1, 0, none⟩)] 56)).heap[w5.heap.size + 1]? = some (.cells #[.pointer (some ⟨w.heap.size + 1 + 1, 0, none⟩)] 56 (0, 0)) := by
    have h := heap_alloc_new (w5.alloc (Obj.cells #[.pointer (some ⟨w.heap.size + 1 + 1, 0, none⟩)] 56)) (Obj.cells #[.pointer (some ⟨w.heap.size + 1 + 1, 0, none⟩)] 56)
    simpa using h
  clear hE1 hP1 hE2 hP2 hE3 hP3 hE4 hP4 hE5 hP5 hb57
  refine range_none (gf := 66) (lb := #[.pointer (some ⟨w5.heap.size + 1, 0, none⟩)]) rfl (enters_of Try.func66 (by kernel_rfl) rfl) (fun l W hW => call1_no (Ytobokknfpjjdeaa.kept hW hbox) (hP7.kept hW)) (fun D2 W2 hD2 hWB2 hK2 => ?_)
  have hE9 := (hE7.kept hWB2).more (Nat.le_trans hE7.be.size hD2) hK2
  have hDD : D ≠ D2 := by have := (Array.getElem?_eq_some_iff.1 (hE7.ds D (by simp)).2).1; omega
  clear hE7 hP7 hbox
  go_wp2_with fail
  rw [rounds_succ]
  clear hF hQ
  go_wp2_with ((go_at_call 24; (with_reducible refine (known05 _).mono ?_); rintro e w9 ⟨rfl, hb9⟩; have hE10 := hE9.kept hb9; have cr := cellF hE10.rs; have fr := (cells_of hE10.rs).2.1))
  have hs0 := heap_set (i := 0) (v := .bool true) hE10.rs
  have hne : ∀ E, w9.heap[E]? = some (.deferred (some [])) → E ≠ w.heap.size + 1 := fun E h e => by
    subst e; rw [hE10.rs] at h; injection h with h; cases h
  have hk2 := (hE10.ds D2 (by simp)).2
  have hk1 := (hE10.ds D (by simp)).2
  have n2 := hne _ hk2
  have n1 := hne _ hk1
  have hz2 := heap_set_other (g := w.heap.size + 1) (i := 0) (v := .bool true) hk2 n2
  have hz1 := heap_set_other (g := w.heap.size + 1) (i := 0) (v := .bool true) hk1 n1
  have hBz := below_set (i := 0) (v := .bool true) hE10.be (show w.heap.size ≤ w.heap.size + 1 by omega)
  refine leaves_cons hz2 (leaves_cons (put_other hz2 hz1 hDD) ?_)
  have hr1 := put_other (o' := .deferred none) hz2 hs0 (Ne.symm n2)
  have hr2 := put_other (o' := .deferred none) (put_other (o' := .deferred none) hz2 hz1 hDD) hr1 (Ne.symm n1)
  have hc := cellF hr2 0
  refine leaves_nil (v := .bool true) ?_ ⟨rfl, below_put (below_put hBz (hE10.ds D2 (by simp)).1 hz2 (Nat.le_refl _)) (hE10.ds D (by simp)).1 (put_other hz2 hz1 hDD) (Nat.le_refl _)⟩
  simp [results, Try.f10, go_sem, hc]
end Go.Proofs.Ytobokknfpjjdeaa
