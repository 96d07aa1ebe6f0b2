/- A calendar that is not there, or was not made, refuses: each method. No condition. -/
import Derived.Test.YtobokknfpjjdeaaPost
import Derived.Test.YtobokknfpjjdeaaSpec
namespace Go.Proofs.Ytobokknfpjjdeaa
set_option linter.unusedVariables false
set_option linter.unusedSimpArgs false
open Go.RowKit

/-- no calendar, or one that was not made -/
def NoC (w : World) (p : Option Addr) : Prop := p = none ∨ ∃ g, p = some ⟨g, 0, none⟩ ∧ w.heap[g]? = some (.cells #[.bool false, .int .u32 0, .slice none 0 0] 93 (0, 0))
theorem NoC.kept {w w' : World} {p : Option Addr} (h : NoC w p) (hb : Below w.heap.size w w') : NoC w' p := by
  rcases h with h | ⟨g, h, hg⟩
  · exact .inl h
  · exact .inr ⟨g, h, Ytobokknfpjjdeaa.kept hb hg⟩
theorem cready_no {w : World} {p : Option Addr} (h : NoC w p) : Calls Try.prog 57 #[.pointer p] w fun e w' => e = .returned (.bool false) ∧ w = w' := by
  rcases h with rfl | ⟨g, rfl, hg⟩
  · go_enter Try.func57, Try.ntmps57
    go_wp2
    go_ret
    exact ⟨rfl, rfl⟩
  · have cg := cellF hg
    go_enter Try.func57, Try.ntmps57
    go_wp2
    go_ret
    exact ⟨rfl, rfl⟩
theorem cday_no {w : World} {p : Option Addr} (h : NoC w p) : Calls Try.prog 36 #[.pointer p] w fun e w' => e = .returned (.int .u32 0) ∧ w = w' := by
  go_enter Try.func36, Try.ntmps36
  go_wp2_with ((go_at_call 57; (with_reducible refine (cready_no h).mono ?_); rintro e w1 ⟨rfl, rfl⟩))
  go_ret
  exact ⟨rfl, rfl⟩
theorem cnext_no {w : World} {p : Option Addr} (h : NoC w p) : Calls Try.prog 30 #[.pointer p] w fun e w' => e = .returned (.int .i64 1) ∧ w = w' := by
  go_enter Try.func30, Try.ntmps30
  go_wp2_with ((go_at_call 57; (with_reducible refine (cready_no h).mono ?_); rintro e w1 ⟨rfl, rfl⟩))
  go_ret
  exact ⟨rfl, rfl⟩
theorem calive_no {w : World} {p : Option Addr} (n : Int) (h : NoC w p) : Calls Try.prog 61 #[.pointer p, .int .u32 n] w fun e w' => e = .returned (.tuple #[.pointer none, .int .i64 1]) ∧ w = w' := by
  go_enter Try.func61, Try.ntmps61
  go_wp2_with ((go_at_call 57; (with_reducible refine (cready_no h).mono ?_); rintro e w1 ⟨rfl, rfl⟩))
  go_ret2
  exact ⟨rfl, rfl⟩
theorem ccopy_no {w : World} {p : Option Addr} (h : NoC w p) : Calls Try.prog 43 #[.pointer p] w fun e w' => e = .returned (.pointer none) ∧ w = w' := by
  go_enter Try.func43, Try.ntmps43
  go_wp2_with ((go_at_call 57; (with_reducible refine (cready_no h).mono ?_); rintro e w1 ⟨rfl, rfl⟩))
  go_ret
  exact ⟨rfl, rfl⟩
theorem chalt_no {w : World} {p : Option Addr} (n : Int) (b : Bool) (h : NoC w p) : Calls Try.prog 29 #[.pointer p, .int .u32 n, .bool b] w fun e w' => e = .returned (.int .i64 1) ∧ w = w' := by
  go_enter Try.func29, Try.ntmps29
  go_wp2_with ((go_at_call 61; (with_reducible refine (calive_no n h).mono ?_); rintro e w1 ⟨rfl, rfl⟩))
  go_ret
  exact ⟨rfl, rfl⟩
theorem cpub_no {w : World} {p : Option Addr} (n x : Int) (h : NoC w p) : Calls Try.prog 28 #[.pointer p, .int .u32 n, .int .i64 x] w fun e w' => e = .returned (.int .i64 1) ∧ w = w' := by
  go_enter Try.func28, Try.ntmps28
  go_wp2_with ((go_at_call 61; (with_reducible refine (calive_no n h).mono ?_); rintro e w1 ⟨rfl, rfl⟩))
  go_ret
  exact ⟨rfl, rfl⟩
theorem cdue_no {w : World} {p : Option Addr} (n : Int) (h : NoC w p) : Calls Try.prog 35 #[.pointer p, .int .u32 n] w fun e w' => e = .returned (.int .i64 1) ∧ Below w.heap.size w w' := by
  go_enter Try.func35, Try.ntmps35
  go_wp2_with ((go_at_call 61; (with_reducible refine (calive_no n h).mono ?_); rintro e w1 ⟨rfl, rfl⟩))
  go_ret
  exact ⟨rfl, below_new _ _⟩
theorem cexp_no {w : World} {p : Option Addr} (n : Int) (h : NoC w p) : Calls Try.prog 27 #[.pointer p, .int .u32 n] w fun e w' => e = .returned (.int .i64 1) ∧ Below w.heap.size w w' := by
  go_enter Try.func27, Try.ntmps27
  go_wp2_with ((go_at_call 35; (with_reducible refine (cdue_no n h).mono ?_); rintro e w1 ⟨rfl, hb⟩))
  go_ret
  exact ⟨rfl, hb⟩
theorem clist_no {w : World} {p : Option Addr} {A : Array Value} (hA : A.size = 25) (h : NoC w p) : Calls Try.prog 25 #[.pointer p, .agg A] w fun e w' => e = .returned (.int .i64 1) ∧ Below w.heap.size w w' := by
  have h1 := h.kept (below_new w (Obj.cells A 61))
  go_enter Try.func25, Try.ntmps25
  go_wp2_with ((go_at_call 57; (with_reducible refine (cready_no h1).mono ?_); rintro e w1 ⟨rfl, rfl⟩))
  go_ret
  exact ⟨rfl, below_new _ _⟩
/-- an empty contract -/
def cz : Array Value := #[.int .u32 0, .int .u8 0] ++ Array.replicate 21 (.int .i64 0) ++ #[.int .u32 0, .int .i64 0, .int .u8 0, .int .i64 0]
theorem cz_size : cz.size = 27 := by kernel_rfl
theorem cz_all : cz.all (·.oneCell') = true := by kernel_rfl
set_option maxRecDepth 100000 in
theorem cget_no {w : World} {p : Option Addr} (n : Int) (h : NoC w p) : Calls Try.prog 26 #[.pointer p, .int .u32 n] w fun e w' => e = .returned (.tuple #[.agg cz, .int .i64 1]) ∧ Below w.heap.size w w' := by
  have h1 := h.kept (below_new w (Obj.cells cz 65))
  have hb := below_new w (Obj.cells cz 65)
  have hc := heap_alloc_new w (Obj.cells cz 65)
  have HZ := Lib.hid cz_size
  have HA := Lib.hid cz_all
  go_enter Try.func26, Try.ntmps26
  go_wp2_with (first | ((with_reducible refine at_alloc 65 ?_); refine wpList_alloc_named rfl 65 rfl cz (by kernel_rfl) ?_) | (go_at_call 57; (with_reducible refine (cready_no h1).mono ?_); rintro e w1 ⟨rfl, rfl⟩) | ((with_reducible refine at_build 65 ?_); refine wpList_build_named rfl 65 _ rfl cz (by kernel_rfl) ?_) | ((with_reducible refine at_store 65 ?_); refine wpList_store_over rfl 65 _ _ rfl (w.heap.size) (cz) rfl rfl _ _ (hc) (by rw [HZ.out]; kernel_rfl) (rfl) (HA.out) ?_; intro w3 hg3 hs3 ho3 hb3))
  exact post_cell_tmp (g := w.heap.size) (t := 65) (v := .int .i64 1) rfl rfl rfl rfl hg3 Try.underlying65 rfl (by rw [HZ.out]; kernel_rfl) ⟨rfl, hb.trans (hb3 _ (Nat.le_refl _))⟩
theorem call_any {w : World} (p : Option Addr) : Calls Try.prog 34 #[.pointer p] w fun e w' => e = .returned (.func (.func 66) #[] #[.pointer (some ⟨w.heap.size, 0, none⟩)]) ∧ w' = w.alloc (Obj.cells #[.pointer p] 56) := by
  have hmf : ∀ (fn : Fn) (first cap : Array Value) (w : World), (Instr.makeFunc fn first cap).run Try.prog w = .ok (.func fn first cap) w := fun _ _ _ _ => rfl
  go_enter Try.func34, Try.ntmps34
  go_wp2
  go_ret
  exact ⟨rfl, rfl⟩
end Go.Proofs.Ytobokknfpjjdeaa
