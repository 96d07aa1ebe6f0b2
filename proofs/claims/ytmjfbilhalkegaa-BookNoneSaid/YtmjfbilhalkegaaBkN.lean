/- A book that is not there, or was not made, refuses: each method. No condition. -/
import Derived.Test.YtmjfbilhalkegaaBkQ
import Derived.Test.YtmjfbilhalkegaaSideNR
import Derived.Test.YtmjfbilhalkegaaKn
namespace Go.Proofs.Ytmjfbilhalkegaa
set_option linter.unusedVariables false
set_option linter.unusedSimpArgs false
open Go.RowKit Go.Shelf

/-- no book, or one that was not made -/
def NoB (w : World) (p : Option Addr) : Prop := p = none ∨ ∃ g, p = some ⟨g, 0, none⟩ ∧ w.heap[g]? = some (.cells #[.pointer none, .pointer none] 56 (0, 0))
theorem NoB.kept {w w' : World} {p : Option Addr} (h : NoB w p) (hb : Below w.heap.size w w') : NoB w' p := by
  rcases h with h | ⟨g, h, hg⟩
  · exact .inl h
  · exact .inr ⟨g, h, Ytmjfbilhalkegaa.kept hb hg⟩
theorem bready_no {w : World} {p : Option Addr} (h : NoB w p) : Calls Try.prog 25 #[.pointer p] w fun e w' => e = .returned (.bool false) ∧ w = w' := by
  have hn : ∀ (w : World) (g : Nat), (binOp .neq 23 (.pointer (some ⟨g, 0, none⟩)) (.pointer none)).run Try.prog w = .ok (.bool true) w := fun _ _ => by kernel_rfl
  have hn1 : ∀ (w : World), (binOp .neq 23 (.pointer none) (.pointer none)).run Try.prog w = .ok (.bool false) w := fun _ => by kernel_rfl
  have hn2 : ∀ (w : World), (binOp .neq 54 (.pointer none) (.pointer none)).run Try.prog w = .ok (.bool false) w := fun _ => by kernel_rfl
  rcases h with rfl | ⟨g, rfl, hg⟩
  · go_enter Try.func25, Try.ntmps25
    go_wp2
    go_ret
    exact ⟨rfl, rfl⟩
  · have cg := cellF hg
    go_enter Try.func25, Try.ntmps25
    go_wp2
    go_ret
    exact ⟨rfl, rfl⟩
theorem bget_no {w : World} {p : Option Addr} (n : Int) (h : NoB w p) : Calls Try.prog 19 #[.pointer p, .int .u64 n] w fun e w' => e = .returned (.tuple #[.agg zo, .int .i64 1]) ∧ Below w.heap.size w w' := by
  have HZ := Lib.hid zo_size
  have HA := Lib.hid zo_all
  have hb := below_new w (Obj.cells zo 30)
  have hc := heap_alloc_new w (Obj.cells zo 30)
  have h1 := h.kept hb
  go_enter Try.func19, Try.ntmps19
  go_wp2_with (first | ((with_reducible refine at_alloc 30 ?_); refine wpList_alloc_named rfl 30 rfl (zo) (by kernel_rfl) ?_) | (go_at_call 25; (with_reducible refine (bready_no h1).mono ?_); rintro e w1 ⟨rfl, rfl⟩) | ((with_reducible refine at_build 30 ?_); refine wpList_build_named rfl 30 _ rfl zo (by kernel_rfl) ?_) | ((with_reducible refine at_store 30 ?_); refine wpList_store_over rfl 30 _ _ rfl (w.heap.size) (zo) rfl rfl _ _ (hc) (by rw [HZ.out]; kernel_rfl) (rfl) (HA.out) ?_; intro w3 hg3 hs3 ho3 hb3))
  exact post_cell_tmp (g := w.heap.size) (t := 30) (v := .int .i64 1) rfl rfl rfl rfl hg3 Try.underlying30 rfl (by rw [HZ.out]; kernel_rfl) ⟨rfl, hb.trans (hb3 _ (Nat.le_refl _))⟩
theorem bcancel_no {w : World} {p : Option Addr} (n : Int) (h : NoB w p) : Calls Try.prog 17 #[.pointer p, .int .u64 n] w fun e w' => e = .returned (.tuple #[.agg zo, .int .i64 1]) ∧ Below w.heap.size w w' := by
  have HZ := Lib.hid zo_size
  have HA := Lib.hid zo_all
  have hb := below_new w (Obj.cells zo 30)
  have hc := heap_alloc_new w (Obj.cells zo 30)
  have h1 := h.kept hb
  go_enter Try.func17, Try.ntmps17
  go_wp2_with (first | ((with_reducible refine at_alloc 30 ?_); refine wpList_alloc_named rfl 30 rfl (zo) (by kernel_rfl) ?_) | (go_at_call 25; (with_reducible refine (bready_no h1).mono ?_); rintro e w1 ⟨rfl, rfl⟩) | ((with_reducible refine at_build 30 ?_); refine wpList_build_named rfl 30 _ rfl zo (by kernel_rfl) ?_) | ((with_reducible refine at_store 30 ?_); refine wpList_store_over rfl 30 _ _ rfl (w.heap.size) (zo) rfl rfl _ _ (hc) (by rw [HZ.out]; kernel_rfl) (rfl) (HA.out) ?_; intro w3 hg3 hs3 ho3 hb3))
  exact post_cell_tmp (g := w.heap.size) (t := 30) (v := .int .i64 1) rfl rfl rfl rfl hg3 Try.underlying30 rfl (by rw [HZ.out]; kernel_rfl) ⟨rfl, hb.trans (hb3 _ (Nat.le_refl _))⟩
theorem breplace_no {w : World} {p : Option Addr} (n x y : Int) (h : NoB w p) : Calls Try.prog 16 #[.pointer p, .int .u64 n, .int .i64 x, .int .i64 y] w fun e w' => e = .returned (.tuple #[.agg pl0, .int .i64 1]) ∧ Below w.heap.size w w' := by
  have HZ := Lib.hid (show pl0.size = 4 from rfl)
  have HA := Lib.hid (show pl0.all (·.oneCell') = true from pl_all)
  have hb := below_new w (Obj.cells pl0 41)
  have hc := heap_alloc_new w (Obj.cells pl0 41)
  have h1 := h.kept hb
  go_enter Try.func16, Try.ntmps16
  go_wp2_with (first | ((with_reducible refine at_alloc 41 ?_); refine wpList_alloc_named rfl 41 rfl pl0 (by kernel_rfl) ?_) | (go_at_call 25; (with_reducible refine (bready_no h1).mono ?_); rintro e w1 ⟨rfl, rfl⟩) | ((with_reducible refine at_build 41 ?_); refine wpList_build_named rfl 41 _ rfl pl0 (by kernel_rfl) ?_) | ((with_reducible refine at_store 41 ?_); refine wpList_store_over rfl 41 _ _ rfl (w.heap.size) (pl0) rfl rfl _ _ (hc) (by rw [HZ.out]; kernel_rfl) (rfl) (HA.out) ?_; intro w3 hg3 hs3 ho3 hb3))
  exact post_cell_tmp (g := w.heap.size) (t := 41) (v := .int .i64 1) rfl rfl rfl rfl hg3 Try.underlying41 rfl (by rw [HZ.out]; kernel_rfl) ⟨rfl, hb.trans (hb3 _ (Nat.le_refl _))⟩
theorem bplace_no {w : World} {p : Option Addr} {B : Array Value} (k : Int) (hB : B.size = 5) (h : NoB w p) : Calls Try.prog 14 #[.pointer p, .agg B, .int .u8 k] w fun e w' => e = .returned (.tuple #[.agg pl0, .int .i64 1]) ∧ Below w.heap.size w w' := by
  have HZ := Lib.hid (show pl0.size = 4 from rfl)
  have HA := Lib.hid (show pl0.all (·.oneCell') = true from pl_all)
  have hb := below_alloc (below_new w (Obj.cells B 30)) (Obj.cells pl0 41)
  have hc : ((w.alloc (Obj.cells B 30)).alloc (Obj.cells pl0 41)).heap[w.heap.size + 1]? = some (.cells pl0 41 (0, 0)) := by repeat (first | exact heap_new (by simp; done) | refine heap_up ?_)
  have h1 := h.kept hb
  go_enter Try.func14, Try.ntmps14
  go_wp2_with (first | ((with_reducible refine at_alloc 41 ?_); refine wpList_alloc_named rfl 41 rfl pl0 (by kernel_rfl) ?_) | (go_at_call 25; (with_reducible refine (bready_no h1).mono ?_); rintro e w1 ⟨rfl, rfl⟩) | ((with_reducible refine at_build 41 ?_); refine wpList_build_named rfl 41 _ rfl pl0 (by kernel_rfl) ?_) | ((with_reducible refine at_store 41 ?_); refine wpList_store_over rfl 41 _ _ rfl (w.heap.size + 1) (pl0) rfl rfl _ _ (hc) (by rw [HZ.out]; kernel_rfl) (rfl) (HA.out) ?_; intro w3 hg3 hs3 ho3 hb3))
  exact post_cell_tmp (g := w.heap.size + 1) (t := 41) (v := .int .i64 1) rfl rfl rfl rfl hg3 Try.underlying41 rfl (by rw [HZ.out]; kernel_rfl) ⟨rfl, hb.trans (hb3 _ (by omega))⟩
theorem bcopy_no {w : World} {p : Option Addr} (h : NoB w p) : Calls Try.prog 18 #[.pointer p] w fun e w' => e = .returned (.pointer none) ∧ w = w' := by
  go_enter Try.func18, Try.ntmps18
  go_wp2_with ((go_at_call 25; (with_reducible refine (bready_no h).mono ?_); rintro e w1 ⟨rfl, rfl⟩))
  go_ret
  exact ⟨rfl, rfl⟩
theorem ball_any {w : World} (p : Option Addr) : Calls Try.prog 24 #[.pointer p] w fun e w' => e = .returned (.func (.func 35) #[] #[.pointer (some ⟨w.heap.size, 0, none⟩)]) ∧ w' = w.alloc (Obj.cells #[.pointer p] 23) := by
  have hmf : ∀ (fn : Fn) (first cap : Array Value) (w : World), (Instr.makeFunc fn first cap).run Try.prog w = .ok (.func fn first cap) w := fun _ _ _ _ => rfl
  go_enter Try.func24, Try.ntmps24
  go_wp2
  go_ret
  exact ⟨rfl, rfl⟩
theorem ball1_no {W : World} {gb l : Nat} {p : Option Addr} (hb : W.heap[gb]? = some (.cells #[.pointer p] 23 (0, 0))) (h : NoB W p) :
    Calls Try.prog 35 #[.func (.yield l) #[] #[], .pointer (some ⟨gb, 0, none⟩)] W fun e W' => (∃ v, e = .returned v) ∧ Below W.heap.size W W' := by
  have cb := cellF (heap_up (o := Obj.cells #[.func (.yield l) #[] #[]] 66) hb)
  have h1 := h.kept (below_new W (Obj.cells #[.func (.yield l) #[] #[]] 66))
  have hbn := below_new W (Obj.cells #[.func (.yield l) #[] #[]] 66)
  refine calls_marks Try.func35 rfl ?_
  simp only [Try.ntmps35, List.size_toArray, List.length_cons, List.length_nil, Nat.reduceAdd, Nat.reduceSub, Array.replicate_succ, Array.replicate_zero, List.push_toArray, List.append_toArray, List.nil_append, List.cons_append]
  go_wp2_with ((go_at_call 25; (with_reducible refine (bready_no h1).mono ?_); rintro e w1 ⟨rfl, rfl⟩))
  exact leaves_nil (results_none rfl _ _ _) ⟨⟨_, rfl⟩, hbn⟩
/-- a range over a function whose rounds never come, and that makes memory -/
theorem range_noneB {P : Program} {g : Operand} {ps : Array Tmp} {assign body : Code} {Q : Exit → Act → World → Prop} {a : Act} {w : World} {gf : Nat} {lb : Array Value} (hg : a.eval g = .func (.func gf) #[] lb) (eg : ∀ args w, (callFunc gf args).run P w = .ok (.enter gf args) w)
    (hit : ∀ l W, Below w.heap.size w W → Calls P gf (#[.func (.yield l) #[] #[]] ++ lb) W fun e W' => (∃ v, e = .returned v) ∧ Below W.heap.size W W')
    (hdone : ∀ D W, w.heap.size ≤ D → Below w.heap.size w W → W.heap[D]? = some (.deferred (some [])) → Q .normal { a with defers := { target := .collected D, args := #[] } :: a.defers } W) :
    (Code.rangeFunc g ps assign body).wp P Q a w := by
  refine (wpIn_wide (n := 9)).1 ?_
  refine wpIn_rangeFunc_ownF (α := Empty) (F := Fence.wide) rfl (by omega) hg trivial eg (encs := fun x => x.elim) (Kp := fun _ _ => True) (S := fun _ => True) (Sp := fun _ => False) (N := 0) (w0 := w) ?_ (fun _ _ => trivial) (fun _ _ _ _ _ _ _ _ => trivial) (Below.refl _ _) (fun x => x.elim)
    (fun _ W => Below w.heap.size w W) (fun _ _ _ => False) (ownFrom_below (Nat.le_refl _) (Nat.le_refl _)) (fun _ _ _ _ _ h => h.elim) (Below.refl _ _) (fun x => x.elim) (fun _ x => x.elim) (fun _ _ x => x.elim)
    (fun D xs W h1 _ h2 h3 => hdone D W h1 h2 h3) (fun D c pre W _ h => h.elim)
  intro l J Jx W hW hJ hJx hY h0
  refine callsIn_wide.2 ((hit l W hW).mono fun e W' ⟨h1, h2⟩ => ?_)
  exact ⟨h1, .inl ⟨[], trivial, hJ _ _ _ _ h0 (grownBy_of_below h2) (fun _ e => by cases e)⟩⟩
end Go.Proofs.Ytmjfbilhalkegaa
