/- A side that is not there, or was not made, refuses: each method. No condition. -/
import Derived.Test.YtmjfbilhalkegaaPost
namespace Go.Proofs.Ytmjfbilhalkegaa
set_option linter.unusedVariables false
set_option linter.unusedSimpArgs false
open Go.RowKit

/-- no side, or one that was not made -/
def NoS (w : World) (p : Option Addr) : Prop := p = none ∨ ∃ g, p = some ⟨g, 0, none⟩ ∧ w.heap[g]? = some (.cells #[.bool false, .bool false, .slice none 0 0] 77 (0, 0))
theorem NoS.kept {w w' : World} {p : Option Addr} (h : NoS w p) (hb : Below w.heap.size w w') : NoS w' p := by
  rcases h with h | ⟨g, h, hg⟩
  · exact .inl h
  · exact .inr ⟨g, h, Ytmjfbilhalkegaa.kept hb hg⟩
theorem sready_no {w : World} {p : Option Addr} (h : NoS w p) : Calls Try.prog 39 #[.pointer p] w fun e w' => e = .returned (.bool false) ∧ w = w' := by
  rcases h with rfl | ⟨g, rfl, hg⟩
  · go_enter Try.func39, Try.ntmps39
    go_wp2
    go_ret
    exact ⟨rfl, rfl⟩
  · have cg := cellF hg
    go_enter Try.func39, Try.ntmps39
    go_wp2
    go_ret
    exact ⟨rfl, rfl⟩
theorem slen_no {w : World} {p : Option Addr} (h : NoS w p) : Calls Try.prog 30 #[.pointer p] w fun e w' => e = .returned (.int .i64 0) ∧ w = w' := by
  go_enter Try.func30, Try.ntmps30
  go_wp2_with ((go_at_call 39; (with_reducible refine (sready_no h).mono ?_); rintro e w1 ⟨rfl, rfl⟩))
  go_ret
  exact ⟨rfl, rfl⟩
theorem scopy_no {w : World} {p : Option Addr} (h : NoS w p) : Calls Try.prog 34 #[.pointer p] w fun e w' => e = .returned (.pointer none) ∧ w = w' := by
  go_enter Try.func34, Try.ntmps34
  go_wp2_with ((go_at_call 39; (with_reducible refine (sready_no h).mono ?_); rintro e w1 ⟨rfl, rfl⟩))
  go_ret
  exact ⟨rfl, rfl⟩
theorem sfind_no {w : World} {p : Option Addr} (n : Int) (h : NoS w p) : Calls Try.prog 44 #[.pointer p, .int .u64 n] w fun e w' => e = .returned (.tuple #[.int .i64 0, .int .i64 1]) ∧ w = w' := by
  go_enter Try.func44, Try.ntmps44
  go_wp2_with ((go_at_call 39; (with_reducible refine (sready_no h).mono ?_); rintro e w1 ⟨rfl, rfl⟩))
  go_ret2
  exact ⟨rfl, rfl⟩
theorem slower_no {w : World} {p : Option Addr} (n x : Int) (h : NoS w p) : Calls Try.prog 32 #[.pointer p, .int .u64 n, .int .i64 x] w fun e w' => e = .returned (.int .i64 1) ∧ w = w' := by
  go_enter Try.func32, Try.ntmps32
  go_wp2_with ((go_at_call 44; (with_reducible refine (sfind_no n h).mono ?_); rintro e w1 ⟨rfl, rfl⟩))
  go_ret
  exact ⟨rfl, rfl⟩
theorem sadd_no {w : World} {p : Option Addr} {B : Array Value} (hB : B.size = 5) (h : NoS w p) : Calls Try.prog 43 #[.pointer p, .agg B] w fun e w' => e = .returned (.int .i64 1) ∧ Below w.heap.size w w' := by
  have h1 := (h.kept (below_new w (Obj.cells #[.pointer p] 54)))
  have h2 := h1.kept (below_new _ (Obj.cells B 30))
  go_enter Try.func43, Try.ntmps43
  go_wp2_with ((go_at_call 39; (with_reducible refine (sready_no h2).mono ?_); rintro e w1 ⟨rfl, rfl⟩))
  go_ret
  exact ⟨rfl, below_alloc (below_new _ _) _⟩
/-- an empty order -/
def zo : Array Value := #[.int .u64 0, .int .u32 0, .bool false, .int .i64 0, .int .i64 0]
theorem zo_size : zo.size = 5 := rfl
theorem zo_all : zo.all (·.oneCell') = true := by kernel_rfl
theorem sget_no {w : World} {p : Option Addr} (n : Int) (h : NoS w p) : Calls Try.prog 37 #[.pointer p, .int .u64 n] w fun e w' => e = .returned (.tuple #[.agg zo, .int .i64 1]) ∧ Below w.heap.size w w' := by
  have h1 := h.kept (below_new w (Obj.cells zo 30))
  have hb := below_new w (Obj.cells zo 30)
  have hc := heap_alloc_new w (Obj.cells zo 30)
  have HZ := Lib.hid zo_size
  have HA := Lib.hid zo_all
  go_enter Try.func37, Try.ntmps37
  go_wp2_with (first | ((with_reducible refine at_alloc 30 ?_); refine wpList_alloc_named rfl 30 rfl zo (by kernel_rfl) ?_) | (go_at_call 44; (with_reducible refine (sfind_no n h1).mono ?_); rintro e w1 ⟨rfl, rfl⟩) | ((with_reducible refine at_build 30 ?_); refine wpList_build_named rfl 30 _ rfl zo (by kernel_rfl) ?_) | ((with_reducible refine at_store 30 ?_); refine wpList_store_over rfl 30 _ _ rfl (w.heap.size) (zo) rfl rfl _ _ (hc) (by rw [HZ.out]; kernel_rfl) (rfl) (HA.out) ?_; intro w3 hg3 hs3 ho3 hb3))
  exact post_cell_tmp (g := w.heap.size) (t := 30) (v := .int .i64 1) rfl rfl rfl rfl hg3 Try.underlying30 rfl (by rw [HZ.out]; kernel_rfl) ⟨rfl, hb.trans (hb3 _ (Nat.le_refl _))⟩
theorem sdrop_no {w : World} {p : Option Addr} (n : Int) (h : NoS w p) : Calls Try.prog 33 #[.pointer p, .int .u64 n] w fun e w' => e = .returned (.tuple #[.agg zo, .int .i64 1]) ∧ Below w.heap.size w w' := by
  have h1 := h.kept (below_new w (Obj.cells zo 30))
  have hb := below_new w (Obj.cells zo 30)
  have hc := heap_alloc_new w (Obj.cells zo 30)
  have HZ := Lib.hid zo_size
  have HA := Lib.hid zo_all
  go_enter Try.func33, Try.ntmps33
  go_wp2_with (first | ((with_reducible refine at_alloc 30 ?_); refine wpList_alloc_named rfl 30 rfl zo (by kernel_rfl) ?_) | (go_at_call 44; (with_reducible refine (sfind_no n h1).mono ?_); rintro e w1 ⟨rfl, rfl⟩) | ((with_reducible refine at_build 30 ?_); refine wpList_build_named rfl 30 _ rfl zo (by kernel_rfl) ?_) | ((with_reducible refine at_store 30 ?_); refine wpList_store_over rfl 30 _ _ rfl (w.heap.size) (zo) rfl rfl _ _ (hc) (by rw [HZ.out]; kernel_rfl) (rfl) (HA.out) ?_; intro w3 hg3 hs3 ho3 hb3))
  exact post_cell_tmp (g := w.heap.size) (t := 30) (v := .int .i64 1) rfl rfl rfl rfl hg3 Try.underlying30 rfl (by rw [HZ.out]; kernel_rfl) ⟨rfl, hb.trans (hb3 _ (Nat.le_refl _))⟩
theorem sfill_no {w : World} {p : Option Addr} (n : Int) (h : NoS w p) : Calls Try.prog 42 #[.pointer p, .int .i64 n] w fun e w' => e = .returned (.tuple #[.agg zo, .int .i64 1]) ∧ Below w.heap.size w w' := by
  have h1 := h.kept (below_new w (Obj.cells zo 30))
  have hb := below_new w (Obj.cells zo 30)
  have hc := heap_alloc_new w (Obj.cells zo 30)
  have HZ := Lib.hid zo_size
  have HA := Lib.hid zo_all
  go_enter Try.func42, Try.ntmps42
  go_wp2_with (first | ((with_reducible refine at_alloc 30 ?_); refine wpList_alloc_named rfl 30 rfl zo (by kernel_rfl) ?_) | (go_at_call 39; (with_reducible refine (sready_no h1).mono ?_); rintro e w1 ⟨rfl, rfl⟩) | ((with_reducible refine at_build 30 ?_); refine wpList_build_named rfl 30 _ rfl zo (by kernel_rfl) ?_) | ((with_reducible refine at_store 30 ?_); refine wpList_store_over rfl 30 _ _ rfl (w.heap.size) (zo) rfl rfl _ _ (hc) (by rw [HZ.out]; kernel_rfl) (rfl) (HA.out) ?_; intro w3 hg3 hs3 ho3 hb3))
  exact post_cell_tmp (g := w.heap.size) (t := 30) (v := .int .i64 1) rfl rfl rfl rfl hg3 Try.underlying30 rfl (by rw [HZ.out]; kernel_rfl) ⟨rfl, hb.trans (hb3 _ (Nat.le_refl _))⟩
theorem sbest_no {w : World} {p : Option Addr} (h : NoS w p) : Calls Try.prog 40 #[.pointer p] w fun e w' => e = .returned (.tuple #[.agg zo, .bool false]) ∧ Below w.heap.size w w' := by
  have h1 := h.kept (below_new w (Obj.cells zo 30))
  have hb := below_new w (Obj.cells zo 30)
  have hc := heap_alloc_new w (Obj.cells zo 30)
  have HZ := Lib.hid zo_size
  have HA := Lib.hid zo_all
  go_enter Try.func40, Try.ntmps40
  go_wp2_with (first | ((with_reducible refine at_alloc 30 ?_); refine wpList_alloc_named rfl 30 rfl zo (by kernel_rfl) ?_) | (go_at_call 39; (with_reducible refine (sready_no h1).mono ?_); rintro e w1 ⟨rfl, rfl⟩) | ((with_reducible refine at_build 30 ?_); refine wpList_build_named rfl 30 _ rfl zo (by kernel_rfl) ?_) | ((with_reducible refine at_store 30 ?_); refine wpList_store_over rfl 30 _ _ rfl (w.heap.size) (zo) rfl rfl _ _ (hc) (by rw [HZ.out]; kernel_rfl) (rfl) (HA.out) ?_; intro w3 hg3 hs3 ho3 hb3))
  exact post_cell_tmp (g := w.heap.size) (t := 30) (v := .bool false) rfl rfl rfl rfl hg3 Try.underlying30 rfl (by rw [HZ.out]; kernel_rfl) ⟨rfl, hb.trans (hb3 _ (Nat.le_refl _))⟩
theorem sall_any {w : World} (p : Option Addr) : Calls Try.prog 36 #[.pointer p] w fun e w' => e = .returned (.func (.func 47) #[] #[.pointer (some ⟨w.heap.size, 0, none⟩)]) ∧ w' = w.alloc (Obj.cells #[.pointer p] 54) := by
  have hmf : ∀ (fn : Fn) (first cap : Array Value) (w : World), (Instr.makeFunc fn first cap).run Try.prog w = .ok (.func fn first cap) w := fun _ _ _ _ => rfl
  go_enter Try.func36, Try.ntmps36
  go_wp2
  go_ret
  exact ⟨rfl, rfl⟩
end Go.Proofs.Ytmjfbilhalkegaa
