/- Take where there is no such place, on both sides. Condition: the nets are ones. -/
import Derived.Test.YtfgcjgabknoamaaNetNo
import Derived.Test.YtfgcjgabknoamaaTick
import Derived.Test.YtfgcjgabknoamaaRn28
namespace Go.Proofs.Ytfgcjgabknoamaa
set_option linter.unusedVariables false
set_option linter.unusedSimpArgs false
open Go.RowKit

set_option maxRecDepth 100000 in
theorem take_out (g base k : Nat) (F T Ag : Nat → Int) (S : Nat → Value) (Ln : Nat → Nat) (X : Nat → Nat → Int) (i : Int) (w : World) (hN : NetIs w g base k F T Ag S Ln X) (hi : ¬ (0 ≤ i ∧ i < k)) :
    Calls Try.prog 13 #[.pointer (some ⟨g, 0, none⟩), .int .i64 i] w fun e w' => e = .returned (.tuple #[.agg mz, .int .i64 7]) ∧ Below w.heap.size w w' := by
  have hbw := below_new w (Obj.cells mz 24)
  have hc := heap_alloc_new w (Obj.cells mz 24)
  have ca := nat_any g base k F T Ag S Ln X i (w.alloc (Obj.cells mz 24)) (hN.kept hbw)
  rw [show atE k i = 7 by unfold atE; rw [if_neg hi]] at ca
  have HMS := Lib.hid mz_size
  have HMA := Lib.hid mz_all
  clear hN
  go_enter Try.func13, Try.ntmps13
  go_wp2_with (first | ((with_reducible refine at_alloc 24 ?_); refine wpList_alloc_named rfl 24 rfl mz (by kernel_rfl) ?_) | (go_at_call 27; (with_reducible refine (ca).mono ?_); rintro e w1 ⟨rfl, rfl⟩) | ((with_reducible refine at_build 24 ?_); refine wpList_build_named rfl 24 _ rfl mz (by kernel_rfl) ?_) | ((with_reducible refine at_store 24 ?_); refine wpList_store_over rfl 24 _ _ rfl (w.heap.size) (mz) rfl rfl _ _ (hc) (by rw [HMS.out]; kernel_rfl) (rfl) (HMA.out) ?_; intro w3 hg3 hs3 ho3 hb3))
  exact post_cell_tmp (g := w.heap.size) (t := 24) (v := .int .i64 7) rfl rfl rfl rfl hg3 Try.underlying24 rfl (by kernel_rfl) ⟨rfl, hbw.trans (hb3 _ (Nat.le_refl _))⟩
set_option maxRecDepth 100000 in
theorem rtake_out {w : World} {g base k : Nat} {now : Int} {F T At : Nat → Int} {S : Nat → Value} {Ln : Nat → Nat} {X : Nat → Nat → Int} {v : Value} (i : Int) (h : RNet w g base k now F T At S Ln X v) (hi : ¬ (0 ≤ i ∧ i < k)) :
    Calls Try.prog 18 #[.pointer (some ⟨g, 0, none⟩), .int .i64 i] w fun e w' => e = .returned (.tuple #[.agg mz, .int .i64 7]) ∧ Below w.heap.size w w' := by
  have hbw := below_new w (Obj.cells mz 24)
  have hc := heap_alloc_new w (Obj.cells mz 24)
  have ca := rthere_any i (h.kept hbw)
  rw [decide_eq_false hi] at ca
  have HMS := Lib.hid mz_size
  have HMA := Lib.hid mz_all
  clear h
  go_enter Try.func18, Try.ntmps18
  go_wp2_with (first | ((with_reducible refine at_alloc 24 ?_); refine wpList_alloc_named rfl 24 rfl mz (by kernel_rfl) ?_) | (go_at_call 31; (with_reducible refine (ca).mono ?_); rintro e w1 ⟨rfl, rfl⟩) | ((with_reducible refine at_build 24 ?_); refine wpList_build_named rfl 24 _ rfl mz (by kernel_rfl) ?_) | ((with_reducible refine at_store 24 ?_); refine wpList_store_over rfl 24 _ _ rfl (w.heap.size) (mz) rfl rfl _ _ (hc) (by rw [HMS.out]; kernel_rfl) (rfl) (HMA.out) ?_; intro w3 hg3 hs3 ho3 hb3))
  exact post_cell_tmp (g := w.heap.size) (t := 24) (v := .int .i64 7) rfl rfl rfl rfl hg3 Try.underlying24 rfl (by kernel_rfl) ⟨rfl, hbw.trans (hb3 _ (Nat.le_refl _))⟩
theorem rtwice_out {w : World} {g base k : Nat} {now : Int} {F T At : Nat → Int} {S : Nat → Value} {Ln : Nat → Nat} {X : Nat → Nat → Int} {v : Value} (i : Int) (h : RNet w g base k now F T At S Ln X v) (hi : ¬ (0 ≤ i ∧ i < k)) :
    Calls Try.prog 20 #[.pointer (some ⟨g, 0, none⟩), .int .i64 i] w fun e w' => e = .returned (.int .i64 7) ∧ w = w' := by
  have ca := rthere_any i h
  rw [decide_eq_false hi] at ca
  clear h
  go_enter Try.func20, Try.ntmps20
  go_wp2_with ((go_at_call 31; (with_reducible refine (ca).mono ?_); rintro e w1 ⟨rfl, rfl⟩))
  go_ret
  exact ⟨rfl, rfl⟩
end Go.Proofs.Ytfgcjgabknoamaa
