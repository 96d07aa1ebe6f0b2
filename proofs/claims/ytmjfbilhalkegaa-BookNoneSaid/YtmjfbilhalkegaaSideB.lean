/- Best of a side that has orders. Condition: the side is one. -/
import Derived.Test.YtmjfbilhalkegaaSideM
namespace Go.Proofs.Ytmjfbilhalkegaa
set_option linter.unusedVariables false
set_option linter.unusedSimpArgs false
open Go.RowKit

set_option maxRecDepth 100000 in
theorem sbest_yes {w : World} {g base k : Nat} {buy : Bool} {L : Nat → Array Value} (h : SideIs w g base k buy L) (hk : 0 < k) : Calls Try.prog 40 #[.pointer (some ⟨g, 0, none⟩)] w fun e w' => e = .returned (.tuple #[.agg (L 0), .bool true]) ∧ Below w.heap.size w w' := by
  have hb := below_new w (Obj.cells zo 30)
  have hc := heap_alloc_new w (Obj.cells zo 30)
  have h1 := h.kept hb
  have cr := sready_yes h1
  obtain ⟨v, hg, hrow⟩ := h1.row
  obtain ⟨ra, rc, rfl, hR, hkr, hrc, _⟩ := own_rows (c := 5) (fun i => (h1.ord i).size) hrow
  obtain ⟨gb, off, A, fr, rfl, hgA, hszA, hexA⟩ := hR 0 hk
  have cg := cellF hg
  have HA := Lib.hid hgA
  have HZ := Lib.hid zo_size
  have HM := Lib.hid (h.ord 0).size
  have HMa := Lib.hid (h.ord 0).all
  have HX := Lib.hid (show A.extract off (off + 5) = L 0 by simpa using hexA)
  have HS := Lib.hid (show off + 5 ≤ A.size by omega)
  clear hexA hszA hR hrow h1 h hgA
  generalize L 0 = M at *
  have hk0 : ¬ (k : Int) = 0 := by omega
  have hk1 : (0 : Int) < k := by omega
  go_enter Try.func40, Try.ntmps40
  go_wp2_with (first | ((with_reducible refine at_alloc 30 ?_); refine wpList_alloc_named rfl 30 rfl zo (by kernel_rfl) ?_) | (go_at_call 39; (with_reducible refine (cr).mono ?_); rintro e w1 ⟨rfl, rfl⟩) | ((with_reducible refine at_load 30 ?_); refine wpList_load_part rfl 30 _ rfl (gb) (off) rfl _ (A) _ _ 5 (HA.out) Try.underlying30 rfl (by kernel_rfl) (by have := HS.out; omega) (M) (HX.out) ?_) | ((with_reducible refine at_store 30 ?_); refine wpList_store_over rfl 30 _ _ rfl (w.heap.size) (M) rfl rfl _ _ (hc) (by rw [HM.out]; kernel_rfl) (by rw [HM.out]; rfl) (HMa.out) ?_; intro w3 hg3 hs3 ho3 hb3))
  exact post_cell_tmp (g := w.heap.size) (t := 30) (v := .bool true) rfl rfl rfl rfl hg3 Try.underlying30 rfl (by rw [HM.out]; kernel_rfl) ⟨rfl, hb.trans (hb3 _ (Nat.le_refl _))⟩
end Go.Proofs.Ytmjfbilhalkegaa
