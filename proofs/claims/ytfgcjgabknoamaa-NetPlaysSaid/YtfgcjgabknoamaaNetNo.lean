/- net's methods where there is no net, or no such place. No condition. -/
import Derived.Test.YtfgcjgabknoamaaMail
namespace Go.Proofs.Ytfgcjgabknoamaa
set_option linter.unusedVariables false
set_option linter.unusedSimpArgs false
open Go.RowKit

theorem post_cell_tmp {fn : Func} {P : Program} {p q : Tmp} {ty : TypeId} {R : Ending → World → Prop} {a : Act} {w : World} {g : Nat} {t : TypeId} {cs : Array Value} {d : TypeDesc} {v : Value} (h : fn.results = #[.cell p ty, .tmp q])
    (hd0 : a.defers = []) (hp : a.tmps.getD p undef = .pointer (some ⟨g, 0, none⟩)) (hv : a.tmps.getD q undef = v) (hg : w.heap[g]? = some (.cells cs t (0, 0)))
    (hu : P.underlying ty = some d) (hd : (match d with | .struct _ | .array _ _ => true | _ => false) = true) (hi : (P.info? ty).map (·.size) = some cs.size) (hR : R (.returned (.tuple #[.agg cs, v])) w) : bodyPost P fn R .ret a w := by
  refine bodyPost_ret (v := .tuple #[.agg cs, v]) ?_ hd0 hR
  have hp' : a.tmps[p]?.getD undef = .pointer (some ⟨g, 0, none⟩) := by simpa using hp
  have hv' : a.tmps[q]?.getD undef = v := by simpa using hv
  simp [results, h, hp', hv', asAddr, run_loadVar_row w g t ty cs (0, 0) d hg hu hd hi]
/-- an empty mail -/
def mz : Array Value := m3 0 0 (.slice none 0 0)
theorem mz_size : mz.size = 3 := rfl
theorem mz_all : mz.all (·.oneCell') = true := m3_all
set_option maxRecDepth 100000 in
set_option maxHeartbeats 2000000 in
theorem mail_none (i : Int) (w : World) :
    Calls Try.prog 15 #[.pointer none, .int .i64 i] w fun e w' => e = .returned (.tuple #[.agg mz, .int .u64 0, .int .i64 1]) ∧ Below w.heap.size w w' := by
  have hb := below_new w (Obj.cells mz 24)
  have hc := heap_alloc_new w (Obj.cells mz 24)
  have cat := nat_none i (w.alloc (Obj.cells mz 24))
  have HE := Lib.hid (extract_all mz_size)
  have HM0 := Lib.hid (show mz = m3 0 0 (.slice none 0 0) from rfl)
  have HZ := Lib.hid mz_size
  have HA := Lib.hid mz_all
  generalize mz = M0 at *
  go_enter Try.func15, Try.ntmps15
  go_wp2_with (first | ((with_reducible refine at_alloc 24 ?_); refine wpList_alloc_named rfl 24 rfl M0 (by rw [HM0.out]; kernel_rfl) ?_) | ((go_at_call 27; (with_reducible refine (cat).mono ?_); rintro e w1 ⟨rfl, rfl⟩)) | ((with_reducible refine at_load 24 ?_); refine wpList_load_part rfl 24 _ rfl (w.heap.size) (0) rfl _ (M0) _ _ 3 (hc) Try.underlying24 rfl (by kernel_rfl) (by rw [HZ.out]; omega) (M0) (HE.out) ?_) | ((with_reducible refine at_store 24 ?_); refine wpList_store_over rfl 24 _ _ rfl (w.heap.size) (M0) rfl rfl _ _ (hc) (by rw [HZ.out]; kernel_rfl) (rfl) (HA.out) ?_; intro w3 hg3 hs3 ho3 hb3))
  exact post_cell_tmp2 (g := w.heap.size) (t := 24) (v := .int .u64 0) (v2 := .int .i64 1) rfl rfl rfl rfl rfl hg3 Try.underlying24 rfl (by rw [HZ.out]; kernel_rfl) ⟨rfl, hb.trans (hb3 _ (Nat.le_refl _))⟩
set_option maxRecDepth 100000 in
set_option maxHeartbeats 2000000 in
theorem take_none (i : Int) (w : World) :
    Calls Try.prog 13 #[.pointer none, .int .i64 i] w fun e w' => e = .returned (.tuple #[.agg mz, .int .i64 1]) ∧ Below w.heap.size w w' := by
  have hb := below_new w (Obj.cells mz 24)
  have hc := heap_alloc_new w (Obj.cells mz 24)
  have cat := nat_none i (w.alloc (Obj.cells mz 24))
  have HM0 := Lib.hid (show mz = m3 0 0 (.slice none 0 0) from rfl)
  have HZ := Lib.hid mz_size
  have HA := Lib.hid mz_all
  generalize mz = M0 at *
  go_enter Try.func13, Try.ntmps13
  go_wp2_with (first | ((with_reducible refine at_alloc 24 ?_); refine wpList_alloc_named rfl 24 rfl M0 (by rw [HM0.out]; kernel_rfl) ?_) | ((go_at_call 27; (with_reducible refine (cat).mono ?_); rintro e w1 ⟨rfl, rfl⟩)) | ((with_reducible refine at_build 24 ?_); refine wpList_build_named rfl 24 _ rfl M0 (by rw [HM0.out]; kernel_rfl) ?_) | ((with_reducible refine at_store 24 ?_); refine wpList_store_over rfl 24 _ _ rfl (w.heap.size) (M0) rfl rfl _ _ (hc) (by rw [HZ.out]; kernel_rfl) (rfl) (HA.out) ?_; intro w3 hg3 hs3 ho3 hb3))
  exact post_cell_tmp (g := w.heap.size) (t := 24) (v := .int .i64 1) rfl rfl rfl rfl hg3 Try.underlying24 rfl (by rw [HZ.out]; kernel_rfl) ⟨rfl, hb.trans (hb3 _ (Nat.le_refl _))⟩
theorem twice_none (i : Int) (w : World) : Calls Try.prog 10 #[.pointer none, .int .i64 i] w fun e w' => e = .returned (.int .i64 1) ∧ w = w' := by
  go_enter Try.func10, Try.ntmps10
  go_wp2_with ((go_at_call 27; (with_reducible refine (nat_none _ _).mono ?_); rintro e w1 ⟨rfl, rfl⟩))
  go_ret
  exact ⟨rfl, rfl⟩
theorem purge_none (i : Int) (w : World) : Calls Try.prog 22 #[.pointer none, .int .i64 i] w fun e w' => e = .returned (.int .i64 0) ∧ w = w' := by
  go_enter Try.func22, Try.ntmps22
  go_wp2
  go_ret
  exact ⟨rfl, rfl⟩
theorem copy_none (w : World) : Calls Try.prog 24 #[.pointer none] w fun e w' => e = .returned (.pointer none) ∧ w = w' := by
  go_enter Try.func24, Try.ntmps24
  go_wp2
  go_ret
  exact ⟨rfl, rfl⟩
end Go.Proofs.Ytfgcjgabknoamaa
