/- law05's same: of a calendar, and of the document's with the same day and the same contracts. Condition: the calendar is one. -/
import Derived.Test.YtobokknfpjjdeaaCalI
import Derived.Test.YtobokknfpjjdeaaQuietIn
import Derived.Test.YtobokknfpjjdeaaEqCon
import Derived.Test.YtobokknfpjjdeaaCalE
import Derived.Test.YtobokknfpjjdeaaRowsG
namespace Go.Proofs.Ytobokknfpjjdeaa
set_option linter.unusedVariables false
set_option linter.unusedSimpArgs false
open Go.RowKit Go.Shelf
attribute [local go_sem] Oper.semAt_some

set_option maxHeartbeats 1000000 in
theorem cday_yes {w : World} {g base k : Nat} {day : Int} {L : Nat → Array Value} (h : CalIs w g base k day L) : Calls Try.prog 36 #[.pointer (some ⟨g, 0, none⟩)] w fun e w' => e = .returned (.int .u32 day) ∧ w = w' := by
  have cr := cready_yes h
  obtain ⟨v, hg, _⟩ := h.row
  have cg := cellF hg
  go_enter Try.func36, Try.ntmps36
  go_wp2_with ((go_at_call 57; (with_reducible refine (cr).mono ?_); rintro e w1 ⟨rfl, rfl⟩))
  go_ret
  exact ⟨rfl, rfl⟩
/-- the document's calendar -/
def RCal (w : World) (gw k : Nat) (day : Int) (L : Nat → Array Value) : Prop := ∃ a cap, w.heap[gw]? = some (.cells #[.int .u32 day, .slice a k cap] 89 (0, 0)) ∧ RowsC w 27 a k L
theorem RCal.kept {w w' : World} {gw k : Nat} {day : Int} {L : Nat → Array Value} (h : RCal w gw k day L) (hb : Below w.heap.size w w') : RCal w' gw k day L := by
  obtain ⟨a, cap, h1, h2⟩ := h
  exact ⟨a, cap, Ytobokknfpjjdeaa.kept hb h1, RowsC.kept h2 hb⟩
/-- the cells that a loop's body reads and writes, a block of cells more -/
theorem ownFrom_cells {B : Nat} {b : Nat} {c : Nat → Array Value} {t : TypeId} {fr : Nat × Nat} : OwnFrom B (fun (j : Nat) W => W.heap[b]? = some (.cells (c j) t fr)) := fun j W W' row h hg hr =>
  (hg.block b (Array.getElem?_eq_some_iff.1 h).1 (fun e => by
    obtain ⟨_, o, ho, hc⟩ := hr b e.symm
    rw [h] at ho
    cases ho
    exact absurd hc (by simp [Obj.isCells]))).trans h
theorem wpIn_lit {F : Fence} {n : Nat} {P : Program} {c : Code} {Q : Exit → Act → World → Prop} {a t : Array Value} {ds : List Deferred} {w : World} (h : a = t) (hh : c.wpIn F n P Q ⟨t, ds⟩ w) : c.wpIn F n P Q ⟨a, ds⟩ w := by rw [h]; exact hh
theorem ownFrom_old {B b : Nat} {o : Obj} (hb : b < B) : OwnFrom B (fun (j : Nat) W => W.heap[b]? = some o) := fun j W W' row h hg hr =>
  (hg.block b (Array.getElem?_eq_some_iff.1 h).1 (fun e => by
    have := (hr b e.symm).1
    omega)).trans h
set_option maxRecDepth 100000 in
set_option maxHeartbeats 4000000 in
theorem same05_yes {w : World} {g base k gw : Nat} {day : Int} {L : Nat → Array Value} (h : CalIs w g base k day L) (hr : RCal w gw k day L) :
    Calls Try.prog 33 #[.pointer (some ⟨g, 0, none⟩), .pointer (some ⟨gw, 0, none⟩)] w fun e w' => e = .returned (.bool true) ∧ Below w.heap.size w w' := by
  have hfe : ∀ (w1 : World) (g : Nat), (binOp .eql 82 (.func (.func 66) #[] #[.pointer (some ⟨g, 0, none⟩)]) Value.nilFunc).run Try.prog w1 = .ok (.bool false) w1 := fun _ _ => by kernel_rfl
  have hdd := h.hd
  have H := Lib.hid h
  have HR := Lib.hid hr
  have CD := Lib.hid (fun (wx : World) (hx : Below w.heap.size w wx) => cday_yes (h.kept hx))
  clear h hr
  refine calls_marks Try.func33 rfl ?_
  simp only [Try.ntmps33, List.size_toArray, List.length_cons, List.length_nil, Nat.reduceAdd, Nat.reduceSub, Array.replicate_succ, Array.replicate_zero, List.push_toArray, List.append_toArray, List.nil_append, List.cons_append]
  go_wp2_with fail
  obtain ⟨w2, hw2⟩ : ∃ w2, w2 = ((w.alloc (Obj.cells #[Value.pointer (some ⟨gw, 0, none⟩)] 75)).alloc (Obj.cells #[Value.bool false] 4)) := ⟨_, rfl⟩
  have hb2 : Below w.heap.size w w2 := by rw [hw2]; exact below_alloc (below_new _ _) _
  have h3 : w2.heap[w.heap.size]? = some (.cells #[Value.pointer (some ⟨gw, 0, none⟩)] 75 (0, 0)) := by rw [hw2]; exact (by repeat (first | exact heap_new (by simp; done) | refine heap_up ?_))
  have h4 : w2.heap[w.heap.size + 1]? = some (.cells #[Value.bool false] 4 (0, 0)) := by rw [hw2]; exact (by repeat (first | exact heap_new (by simp; done) | refine heap_up ?_))
  rw [← hw2]
  clear hw2
  obtain ⟨ra, rcap, hrg, hrr⟩ := HR.out
  have hr2 := Ytobokknfpjjdeaa.kept hb2 hrg
  refine wp_region_below (by kernel_rfl) (by kernel_rfl) ?_
  repeat (first | ((with_reducible apply q_skip); (case hw => rfl); (try simp only [Act.put, List.setIfInBounds_toArray, List.set_cons_zero, List.set_cons_succ])) | ((with_reducible refine at_qcall 36 ?_); refine q_call_in _ 36 _ (by rfl) (fun wx hx => (CD.out wx (below_then hb2 hx)).mono fun _ _ ⟨h1, h2⟩ => ⟨h1, h2 ▸ Below.refl _ _⟩) (fun wq hbq => by go_simp) ?_; (try simp only [Act.put, List.setIfInBounds_toArray, List.set_cons_zero, List.set_cons_succ])) | ((with_reducible apply q_val); (case hw => rfl); (case hv => intro wq hbq; have hcq := cellF (Ytobokknfpjjdeaa.kept hbq h3); have hcr := cellF (Ytobokknfpjjdeaa.kept hbq hr2); go_simp; try rfl); (try simp only [Act.put, List.setIfInBounds_toArray, List.set_cons_zero, List.set_cons_succ])))
  refine q_nil ?_
  intro w3 hb3
  have hB3 := below_then hb2 hb3
  have k3 := Ytobokknfpjjdeaa.kept hb3 h3
  have k4 := Ytobokknfpjjdeaa.kept hb3 h4
  clear hb2 h3 h4 hr2 hb3
  go_wp2_with ((go_at_call 34; (with_reducible refine (call_any _).mono ?_); rintro e w6 ⟨rfl, rfl⟩))
  obtain ⟨b3, hb3e⟩ : ∃ b, b = w.heap.size := ⟨_, rfl⟩
  obtain ⟨b4, hb4e⟩ : ∃ b, b = w.heap.size + 1 := ⟨_, rfl⟩
  obtain ⟨b5, hb5e⟩ : ∃ b, b = w3.heap.size := ⟨_, rfl⟩
  obtain ⟨b6, hb6e⟩ : ∃ b, b = w3.heap.size + 1 := ⟨_, rfl⟩
  obtain ⟨b7, hb7e⟩ : ∃ b, b = w3.heap.size + 1 + 1 := ⟨_, rfl⟩
  obtain ⟨w6, hw6⟩ : ∃ w6, w6 = (((w3.alloc (Obj.cells #[Value.int IntKind.i64 0] 3)).alloc (Obj.cells #[Value.pointer (some ⟨g, 0, none⟩)] 56)).alloc (Obj.cells #[Value.pointer (some ⟨g, 0, none⟩)] 56)) := ⟨_, rfl⟩
  have hB6 : Below w.heap.size w w6 := by rw [hw6]; exact below_alloc (below_alloc (below_alloc hB3 _) _) _
  have m3 : w6.heap[b3]? = some (.cells #[.pointer (some ⟨gw, 0, none⟩)] 75 (0, 0)) := by rw [hw6, hb3e]; exact heap_up (heap_up (heap_up k3))
  have m4 : w6.heap[b4]? = some (.cells #[.bool false] 4 (0, 0)) := by rw [hw6, hb4e]; exact heap_up (heap_up (heap_up k4))
  have m5 : w6.heap[b5]? = some (.cells #[.int .i64 0] 3 (0, 0)) := by rw [hw6, hb5e]; exact (by repeat (first | exact heap_new (by simp; done) | refine heap_up ?_))
  have m7 : w6.heap[b7]? = some (.cells #[.pointer (some ⟨g, 0, none⟩)] 56 (0, 0)) := by rw [hw6, hb7e]; exact (by repeat (first | exact heap_new (by simp; done) | refine heap_up ?_))
  have hz6 : w6.heap.size = w3.heap.size + 3 := by rw [hw6]; simp
  have hz3 := hB3.size
  have hw34 : w.heap.size + 1 < w3.heap.size := (Array.getElem?_eq_some_iff.1 k4).1
  rw [← hw6, ← hb7e, ← hb6e, ← hb5e, ← hb4e, ← hb3e]
  have hbo : w.heap.size ≤ b3 ∧ b3 < b4 ∧ b4 < b5 ∧ b5 < b7 ∧ b7 < w6.heap.size := by omega
  clear hw6 k3 k4 hb3e hb4e hb5e hb6e hb7e hz6 hz3 hw34 hB3
  have HC6 := Lib.hid (H.out.kept hB6)
  refine range_rounds (gf := 66) (lb := #[.pointer (some ⟨b7, 0, none⟩)]) (encs := fun j => #[.agg (L j)]) (k := k) rfl (enters_of Try.func66 (by kernel_rfl) rfl) (fun _ => rfl) (call_seq m7 HC6.out (Nat.le_refl _))
    (fun j W => ((W.heap[b3]? = some (.cells #[.pointer (some ⟨gw, 0, none⟩)] 75 (0, 0)) ∧ W.heap[b4]? = some (.cells #[.bool false] 4 (0, 0))) ∧ W.heap[b5]? = some (.cells #[.int .i64 (j : Int)] 3 (0, 0))) ∧ Below w.heap.size w W)
    (fun c j W => False)
    ?oI ?oX ?i0 (fun j W => W.alloc (.cells (L j) 65)) (fun j W => World.grownBy_alloc W _ none)
    (fun j W0 => { tmps := #[.pointer (some ⟨g, 0, none⟩), .pointer (some ⟨gw, 0, none⟩), undef, .pointer (some ⟨b3, 0, none⟩), .pointer (some ⟨b4, 0, none⟩), .pointer (some ⟨b5, 0, none⟩), .pointer (some ⟨W0.heap.size, 0, none⟩), .pointer (some ⟨g, 0, none⟩), .int .u32 day, .pointer (some ⟨gw, 0, none⟩), .pointer (some ⟨gw, 0, none⟩), .pointer (some ⟨gw, 0, none⟩), .int .u32 day, .bool false, .pointer (some ⟨g, 0, none⟩), .func (.func 66) #[] #[.pointer (some ⟨b6, 0, none⟩)], .bool false, .pointer (some ⟨g, 0, none⟩), .func (.func 66) #[] #[.pointer (some ⟨b7, 0, none⟩)], .agg (L j), undef, undef, undef, undef, undef, undef, undef, undef, undef, undef, undef, undef, undef, undef, undef, undef, undef, undef, undef, undef, undef, undef, undef, undef, undef, undef, undef, undef, undef, undef, undef, undef, undef], defers := [] }) ?assign ?body ?done ?stop
  case oI => exact OwnFrom.and (OwnFrom.and (OwnFrom.and ownFrom_cells ownFrom_cells) ownFrom_cells) (ownFrom_below (Nat.le_refl _) (by omega))
  case oX => exact fun _ _ _ _ _ h => h.elim
  case i0 => exact ⟨⟨⟨m3, m4⟩, m5⟩, hB6⟩
  case assign =>
    intro l j W K hj hK
    have hO := HC6.out.con j
    have hsz := hO.size
    refine wpIn_lit (t := #[.pointer (some ⟨g, 0, none⟩), .pointer (some ⟨gw, 0, none⟩), undef, .pointer (some ⟨b3, 0, none⟩), .pointer (some ⟨b4, 0, none⟩), .pointer (some ⟨b5, 0, none⟩), undef, .pointer (some ⟨g, 0, none⟩), .int .u32 day, .pointer (some ⟨gw, 0, none⟩), .pointer (some ⟨gw, 0, none⟩), .pointer (some ⟨gw, 0, none⟩), .int .u32 day, .bool false, .pointer (some ⟨g, 0, none⟩), .func (.func 66) #[] #[.pointer (some ⟨b6, 0, none⟩)], .bool false, .pointer (some ⟨g, 0, none⟩), .func (.func 66) #[] #[.pointer (some ⟨b7, 0, none⟩)], .agg (L j), undef, undef, undef, undef, undef, undef, undef, undef, undef, undef, undef, undef, undef, undef, undef, undef, undef, undef, undef, undef, undef, undef, undef, undef, undef, undef, undef, undef, undef, undef, undef, undef, undef]) (by simp) ?_
    gi_wp2_with (first | ((with_reducible refine at_allocIn 65 ?_); refine wpListIn_alloc_named rfl 65 rfl (cz) (by kernel_rfl) ?_) | ((with_reducible refine at_storeIn 65 ?_); refine wpListIn_store_new rfl 65 _ _ rfl (L j) _ _ _ rfl (by simp) rfl (by rw [hsz]; kernel_rfl) (by rw [hsz]; rfl) (hO.all) ?_))
    exact hK
  case body =>
    rintro l j W0 W hj ⟨⟨⟨i3, i4⟩, i5⟩, iB⟩ hsW hup _
    have hO := HC6.out.con j
    have hv := hup _ _ _ _ (heap_alloc_new W0 (Obj.cells (L j) 65))
    have hjk : ¬ (k : Int) ≤ (j : Int) := by omega
    have hjk2 : ¬ k ≤ j := by omega
    have hji : (j : Int) < k := by omega
    have hk16 := HC6.out.hk
    obtain ⟨ra', rcap', hrg', hrr'⟩ := HR.out.kept iB
    obtain ⟨gr, ro, RB, rt, rf, rfl, hgr, hrs, hre⟩ := hrr' j hj
    have hne := neq_con hO
    have hsz := hO.size
    have hex : (L j).extract 0 (0 + 27) = L j := by rw [show 0 + 27 = (L j).size by rw [hsz]]; simp
    have hvs : 0 + 27 ≤ (L j).size := by omega
    obtain ⟨gv, hgv⟩ : ∃ gv, gv = W0.heap.size := ⟨_, rfl⟩
    rw [← hgv] at hv
    rw [← hgv]
    have wj : IntKind.i64.wrap ((j : Int) + 1) = (j : Int) + 1 := by rw [IntKind.wrap_i64]; omega
    generalize L j = X at *
    refine wpIn_block (wpIn_seq (wpIn_seq ?_))
    refine wpIn_region_below (by kernel_rfl) (by kernel_rfl) (by kernel_rfl) ?_
    repeat (first | ((with_reducible apply q_skip); (case hw => rfl); (try simp only [Act.put, List.setIfInBounds_toArray, List.set_cons_zero, List.set_cons_succ])) | ((with_reducible refine at_qload 65 ?_); refine q_load_part (by rfl) 65 _ rfl (gv) (0) rfl _ (X) _ 27 (hv) Try.underlying65 rfl (by kernel_rfl) (hvs) (X) (hex) ?_; try simp only [Act.put, List.setIfInBounds_toArray, List.set_cons_zero, List.set_cons_succ]) | ((with_reducible refine at_qload 65 ?_); refine q_load_fr (by rfl) 65 _ rfl (gr) (ro + j * 27) rfl _ (RB) _ _ 27 (hgr) Try.underlying65 rfl (by kernel_rfl) (hrs) (X) (hre) ?_; try simp only [Act.put, List.setIfInBounds_toArray, List.set_cons_zero, List.set_cons_succ]) | ((with_reducible apply q_val); (case hw => rfl); (case hv => intro wq hbq; have hcq := cellF (Ytobokknfpjjdeaa.kept hbq i3); have hcr := cellF (Ytobokknfpjjdeaa.kept hbq hrg'); have hcn := cellF (Ytobokknfpjjdeaa.kept hbq i5); go_simp; try rfl); (try simp only [Act.put, List.setIfInBounds_toArray, List.set_cons_zero, List.set_cons_succ])))
    refine q_nil ?_
    intro w8 hb8
    have n3 := Ytobokknfpjjdeaa.kept hb8 i3
    have n4 := Ytobokknfpjjdeaa.kept hb8 i4
    have n5 := Ytobokknfpjjdeaa.kept hb8 i5
    have c5 := cellF n5
    have f5 := (cells_of n5).2.1
    gi_wp2_with fail
    have ho : ∀ i, i ≠ b5 → (w8.setCell ⟨b5, 0, none⟩ (.int .i64 ((j : Int) + 1))).heap[i]? = w8.heap[i]? := fun i hi => heap_setCell_other w8 _ _ _ hi
    exact ⟨(ko_below hb8).trans (KeepsOthers.setCell _ _ _), (kn_below hb8).trans (kn_set (g := b5) (by omega) ho), ⟨⟨(ho _ (by omega)).trans n3, (ho _ (by omega)).trans n4⟩, by have := heap_set (i := 0) (v := .int .i64 ((j : Int) + 1)) n5; exact this⟩, below_set (below_then iB hb8) (by omega)⟩
  case stop => exact fun _ _ _ _ _ _ h _ => h.elim
  case done =>
    rintro D W hD ⟨⟨⟨i3, i4⟩, i5⟩, iB⟩ hK
    clear HC6
    have hDw : w.heap.size ≤ D := by omega
    have hDb : b7 < D := by omega
    go_wp2_with ((go_at_call 34; (with_reducible refine (call_any _).mono ?_); rintro e w8 ⟨rfl, rfl⟩))
    obtain ⟨w9, hw9⟩ : ∃ w9, w9 = ((W.alloc (Obj.cells #[Value.pointer (some ⟨g, 0, none⟩)] 56)).alloc (Obj.cells #[Value.pointer (some ⟨g, 0, none⟩)] 56)) := ⟨_, rfl⟩
    obtain ⟨b8, hb8e⟩ : ∃ b, b = W.heap.size := ⟨_, rfl⟩
    obtain ⟨b9, hb9e⟩ : ∃ b, b = W.heap.size + 1 := ⟨_, rfl⟩
    have hB9 : Below w.heap.size w w9 := by rw [hw9]; exact below_alloc (below_alloc iB _) _
    have n3 : w9.heap[b3]? = some (.cells #[.pointer (some ⟨gw, 0, none⟩)] 75 (0, 0)) := by rw [hw9]; exact heap_up (heap_up i3)
    have n4 : w9.heap[b4]? = some (.cells #[.bool false] 4 (0, 0)) := by rw [hw9]; exact heap_up (heap_up i4)
    have n5 : w9.heap[b5]? = some (.cells #[.int .i64 (k : Int)] 3 (0, 0)) := by rw [hw9]; exact heap_up (heap_up i5)
    have nD : w9.heap[D]? = some (.deferred (some [])) := by rw [hw9]; exact heap_up (heap_up hK)
    have n9 : w9.heap[b9]? = some (.cells #[.pointer (some ⟨g, 0, none⟩)] 56 (0, 0)) := by rw [hw9, hb9e]; exact (by repeat (first | exact heap_new (by simp; done) | refine heap_up ?_))
    rw [← hw9, ← hb9e, ← hb8e]
    have hlt9 : b3 < w9.heap.size ∧ b4 < w9.heap.size ∧ b5 < w9.heap.size ∧ D < w9.heap.size := ⟨(Array.getElem?_eq_some_iff.1 n3).1, (Array.getElem?_eq_some_iff.1 n4).1, (Array.getElem?_eq_some_iff.1 n5).1, (Array.getElem?_eq_some_iff.1 nD).1⟩
    have hD4 : D ≠ b4 := by omega
    clear hw9 hb8e hb9e i3 i4 i5 iB hK hD
    have HC9 := Lib.hid (H.out.kept hB9)
    have hsz9 := hB9.size
    refine range_rounds (gf := 66) (lb := #[.pointer (some ⟨b9, 0, none⟩)]) (encs := fun j => #[.agg (L j)]) (k := k) rfl (enters_of Try.func66 (by kernel_rfl) rfl) (fun _ => rfl) (call_seq n9 HC9.out (Nat.le_refl _))
      (fun j W => (((W.heap[b3]? = some (.cells #[.pointer (some ⟨gw, 0, none⟩)] 75 (0, 0)) ∧ W.heap[b4]? = some (.cells #[.bool false] 4 (0, 0))) ∧ W.heap[b5]? = some (.cells #[.int .i64 (k : Int)] 3 (0, 0))) ∧ W.heap[D]? = some (.deferred (some []))) ∧ Below w.heap.size w W)
      (fun c j W => c = .exit 2 ∧ (((W.heap[b3]? = some (.cells #[.pointer (some ⟨gw, 0, none⟩)] 75 (0, 0)) ∧ W.heap[b4]? = some (.cells #[.bool false] 4 (0, 0))) ∧ W.heap[b5]? = some (.cells #[.int .i64 (k : Int)] 3 (0, 0))) ∧ W.heap[D]? = some (.deferred (some []))) ∧ Below w.heap.size w W)
      ?oI ?oX ?i0 (fun j W => W) (fun j W => ⟨rfl, rfl, rfl, Nat.le_refl _, fun _ _ _ => rfl⟩)
      (fun j W0 => { tmps := #[.pointer (some ⟨g, 0, none⟩), .pointer (some ⟨gw, 0, none⟩), undef, .pointer (some ⟨b3, 0, none⟩), .pointer (some ⟨b4, 0, none⟩), .pointer (some ⟨b5, 0, none⟩), undef, .pointer (some ⟨g, 0, none⟩), .int .u32 day, .pointer (some ⟨gw, 0, none⟩), .pointer (some ⟨gw, 0, none⟩), .pointer (some ⟨gw, 0, none⟩), .int .u32 day, .bool false, .pointer (some ⟨g, 0, none⟩), .func (.func 66) #[] #[.pointer (some ⟨b6, 0, none⟩)], .bool false, .pointer (some ⟨g, 0, none⟩), .func (.func 66) #[] #[.pointer (some ⟨b7, 0, none⟩)], undef, undef, undef, undef, undef, undef, undef, undef, undef, undef, undef, undef, undef, undef, undef, undef, undef, undef, undef, undef, undef, .pointer (some ⟨g, 0, none⟩), .func (.func 66) #[] #[.pointer (some ⟨b8, 0, none⟩)], .bool false, .pointer (some ⟨g, 0, none⟩), .func (.func 66) #[] #[.pointer (some ⟨b9, 0, none⟩)], .agg (L j), undef, undef, undef, undef, undef, undef, undef], defers := [] }) ?assign ?body ?done ?stop
    case oI => exact OwnFrom.and (OwnFrom.and (OwnFrom.and (OwnFrom.and (ownFrom_old hlt9.1) (ownFrom_old hlt9.2.1)) (ownFrom_old hlt9.2.2.1)) (ownFrom_old hlt9.2.2.2)) (ownFrom_below (Nat.le_refl _) hsz9)
    case oX =>
      rintro c j W W' row ⟨h1, ⟨⟨⟨q1, q2⟩, q3⟩, q4⟩, q5⟩ hg hr
      exact ⟨h1, ⟨⟨⟨ownFrom_old hlt9.1 j W W' row q1 hg hr, ownFrom_old hlt9.2.1 j W W' row q2 hg hr⟩, ownFrom_old hlt9.2.2.1 j W W' row q3 hg hr⟩, ownFrom_old hlt9.2.2.2 j W W' row q4 hg hr⟩, ownFrom_below (Nat.le_refl _) hsz9 j W W' row q5 hg hr⟩
    case i0 => exact ⟨⟨⟨⟨n3, n4⟩, n5⟩, nD⟩, hB9⟩
    case assign =>
      intro l j W K hj hK
      refine wpIn_lit (t := #[.pointer (some ⟨g, 0, none⟩), .pointer (some ⟨gw, 0, none⟩), undef, .pointer (some ⟨b3, 0, none⟩), .pointer (some ⟨b4, 0, none⟩), .pointer (some ⟨b5, 0, none⟩), undef, .pointer (some ⟨g, 0, none⟩), .int .u32 day, .pointer (some ⟨gw, 0, none⟩), .pointer (some ⟨gw, 0, none⟩), .pointer (some ⟨gw, 0, none⟩), .int .u32 day, .bool false, .pointer (some ⟨g, 0, none⟩), .func (.func 66) #[] #[.pointer (some ⟨b6, 0, none⟩)], .bool false, .pointer (some ⟨g, 0, none⟩), .func (.func 66) #[] #[.pointer (some ⟨b7, 0, none⟩)], undef, undef, undef, undef, undef, undef, undef, undef, undef, undef, undef, undef, undef, undef, undef, undef, undef, undef, undef, undef, undef, .pointer (some ⟨g, 0, none⟩), .func (.func 66) #[] #[.pointer (some ⟨b8, 0, none⟩)], .bool false, .pointer (some ⟨g, 0, none⟩), .func (.func 66) #[] #[.pointer (some ⟨b9, 0, none⟩)], .agg (L j), undef, undef, undef, undef, undef, undef, undef]) (by simp) ?_
      exact wpIn_skip hK
    case body =>
      rintro l j W0 W hj hI hsW hup _
      exact wpIn_block (wpIn_exit ⟨KeepsOthers.refl _, rfl, hI⟩)
    case done =>
      rintro D2 W2 hD2 ⟨⟨⟨⟨p3, p4⟩, p5⟩, pD⟩, pB⟩ hK2
      have hDD : D ≠ D2 := by omega
      have hD24 : D2 ≠ b4 := by omega
      obtain ⟨ra9, rc9, hr9, _⟩ := HR.out.kept pB
      go_wp2_with fail
      refine wp_region_tail 7 (by kernel_rfl) (by kernel_rfl) (by kernel_rfl) (by kernel_rfl) rfl rfl (by kernel_rfl) (by kernel_rfl) ?_
      simp only [List.take, List.getD, List.getElem?_cons_succ, List.getElem?_cons_zero, Option.getD]
      repeat (first | ((with_reducible apply q_skip); (case hw => rfl); (try simp only [Act.put, List.setIfInBounds_toArray, List.set_cons_zero, List.set_cons_succ])) | ((with_reducible apply q_val); (case hw => rfl); (case hv => intro wq hbq; have hcq := cellF (Ytobokknfpjjdeaa.kept hbq p3); have hcr := cellF (Ytobokknfpjjdeaa.kept hbq hr9); have hcn := cellF (Ytobokknfpjjdeaa.kept hbq p5); go_simp; try rfl); (try simp only [Act.put, List.setIfInBounds_toArray, List.set_cons_zero, List.set_cons_succ])))
      refine q_nil ?_
      intro w11 hb11
      have q4 := Ytobokknfpjjdeaa.kept hb11 p4
      have qD := Ytobokknfpjjdeaa.kept hb11 pD
      have qD2 := Ytobokknfpjjdeaa.kept hb11 hK2
      have qB := below_then pB hb11
      have c4 := cellF q4
      have f4 := (cells_of q4).2.1
      clear p3 p4 p5 pD pB hb11 hr9 hK2
      go_wp2_with fail
      have hs0 := heap_set (i := 0) (v := .bool true) q4
      have hz2 := heap_set_other (g := b4) (i := 0) (v := .bool true) qD2 hD24
      have hz1 := heap_set_other (g := b4) (i := 0) (v := .bool true) qD hD4
      have hBz := below_set (i := 0) (v := .bool true) qB (show w.heap.size ≤ b4 by omega)
      refine leaves_cons hz2 (leaves_cons (put_other hz2 hz1 hDD) ?_)
      have hr1 := put_other (o' := .deferred none) hz2 hs0 (Ne.symm hD24)
      have hr2 := put_other (o' := .deferred none) (put_other (o' := .deferred none) hz2 hz1 hDD) hr1 (Ne.symm hD4)
      have hc := cellF hr2 0
      refine leaves_nil (v := .bool true) ?_ ⟨rfl, below_put (below_put hBz (by omega) hz2 (Nat.le_refl _)) (by omega) (put_other hz2 hz1 hDD) (Nat.le_refl _)⟩
      simp [results, Try.f33, go_sem, hc]
    case stop =>
      rintro D2 c j W2 hD2 _ ⟨rfl, ⟨⟨⟨p3, p4⟩, p5⟩, pD⟩, pB⟩ hK2
      have hDD : D ≠ D2 := by omega
      have hD24 : D2 ≠ b4 := by omega
      obtain ⟨ra9, rc9, hr9, _⟩ := HR.out.kept pB
      go_wp2_with fail
      refine wp_region_tail 7 (by kernel_rfl) (by kernel_rfl) (by kernel_rfl) (by kernel_rfl) rfl rfl (by kernel_rfl) (by kernel_rfl) ?_
      simp only [List.take, List.getD, List.getElem?_cons_succ, List.getElem?_cons_zero, Option.getD]
      repeat (first | ((with_reducible apply q_skip); (case hw => rfl); (try simp only [Act.put, List.setIfInBounds_toArray, List.set_cons_zero, List.set_cons_succ])) | ((with_reducible apply q_val); (case hw => rfl); (case hv => intro wq hbq; have hcq := cellF (Ytobokknfpjjdeaa.kept hbq p3); have hcr := cellF (Ytobokknfpjjdeaa.kept hbq hr9); have hcn := cellF (Ytobokknfpjjdeaa.kept hbq p5); go_simp; try rfl); (try simp only [Act.put, List.setIfInBounds_toArray, List.set_cons_zero, List.set_cons_succ])))
      refine q_nil ?_
      intro w11 hb11
      have q4 := Ytobokknfpjjdeaa.kept hb11 p4
      have qD := Ytobokknfpjjdeaa.kept hb11 pD
      have qD2 := Ytobokknfpjjdeaa.kept hb11 hK2
      have qB := below_then pB hb11
      have c4 := cellF q4
      have f4 := (cells_of q4).2.1
      clear p3 p4 p5 pD pB hb11 hr9 hK2
      go_wp2_with fail
      have hs0 := heap_set (i := 0) (v := .bool true) q4
      have hz2 := heap_set_other (g := b4) (i := 0) (v := .bool true) qD2 hD24
      have hz1 := heap_set_other (g := b4) (i := 0) (v := .bool true) qD hD4
      have hBz := below_set (i := 0) (v := .bool true) qB (show w.heap.size ≤ b4 by omega)
      refine leaves_cons hz2 (leaves_cons (put_other hz2 hz1 hDD) ?_)
      have hr1 := put_other (o' := .deferred none) hz2 hs0 (Ne.symm hD24)
      have hr2 := put_other (o' := .deferred none) (put_other (o' := .deferred none) hz2 hz1 hDD) hr1 (Ne.symm hD4)
      have hc := cellF hr2 0
      refine leaves_nil (v := .bool true) ?_ ⟨rfl, below_put (below_put hBz (by omega) hz2 (Nat.le_refl _)) (by omega) (put_other hz2 hz1 hDD) (Nat.le_refl _)⟩
      simp [results, Try.f33, go_sem, hc]
end Go.Proofs.Ytobokknfpjjdeaa
