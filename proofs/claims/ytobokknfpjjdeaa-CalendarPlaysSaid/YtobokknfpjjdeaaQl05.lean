/- Get on both calendars; a calendar copied; another small contract. Condition: the calendars are alike. -/
import Derived.Test.YtobokknfpjjdeaaPl05
import Derived.Test.YtobokknfpjjdeaaCalC
import Derived.Test.YtobokknfpjjdeaaKnown05
namespace Go.Proofs.Ytobokknfpjjdeaa
set_option linter.unusedVariables false
set_option linter.unusedSimpArgs false
open Go.RowKit

theorem eql_con {A : Array Value} (h : IsCon A) (w : World) : (binOp .eql 65 (.agg A) (.agg A)).run Try.prog w = .ok (.bool true) w := by
  rw [run_eql_struct, eq_con h w]; rfl
theorem cz_con : IsCon cz := by
  refine ⟨rfl, ?_, IsN_of (n := 0) rfl ⟨by decide, by decide⟩, IsN_of (n := 0) rfl ⟨by decide, by decide⟩⟩
  rw [show cz.extract 0 25 = z25s from by kernel_rfl]
  refine ⟨rfl, IsN_of (n := 0) rfl ⟨by decide, by decide⟩, IsN_of (n := 0) rfl ⟨by decide, by decide⟩, ?_, IsN_of (n := 0) rfl ⟨by decide, by decide⟩, IsN_of (n := 0) rfl ⟨by decide, by decide⟩⟩
  intro i h1 h2
  have : i = 2 ∨ i = 3 ∨ i = 4 ∨ i = 5 ∨ i = 6 ∨ i = 7 ∨ i = 8 ∨ i = 9 ∨ i = 10 ∨ i = 11 ∨ i = 12 ∨ i = 13 ∨ i = 14 ∨ i = 15 ∨ i = 16 ∨ i = 17 ∨ i = 18 ∨ i = 19 ∨ i = 20 ∨ i = 21 ∨ i = 22 := by omega
  rcases this with rfl | rfl | rfl | rfl | rfl | rfl | rfl | rfl | rfl | rfl | rfl | rfl | rfl | rfl | rfl | rfl | rfl | rfl | rfl | rfl | rfl <;> exact IsN_of rfl ⟨by decide, by decide⟩
theorem both_get (k : Nat) (day : Int) (L : Nat → Array Value) (n : Int) (hL : ∀ i, IsCon (L i)) : ∃ (X : Array Value) (r : Int), IsCon X ∧
    (∀ w g base, CalIs w g base k day L → Calls Try.prog 26 #[.pointer (some ⟨g, 0, none⟩), .int .u32 n] w fun e w' => e = .returned (.tuple #[.agg X, .int .i64 r]) ∧ Below w.heap.size w w') ∧
    (∀ w g base v, RIs w g base k day L v → Calls Try.prog 45 #[.pointer (some ⟨g, 0, none⟩), .int .u32 n] w fun e w' => e = .returned (.tuple #[.agg X, .int .i64 r]) ∧ Below w.heap.size w w') := by
  rcases thereL L k n with hn | ⟨i, hi, hn⟩
  · exact ⟨cz, 7, cz_con, fun w g base h => cget_out h hn, fun w g base v h => rget_out h hn⟩
  · exact ⟨L i, 0, hL i, fun w g base h => cget_in h hi hn, fun w g base v h => rget_in h hi hn⟩
def kq (a b : Int) : Array Value := #[.int .u32 77, .int .u8 1, .int .i64 1, .int .i64 1, .int .i64 0, .int .i64 9, .int .i64 a, .int .i64 b, .int .i64 0, .int .i64 0, .int .i64 0, .int .i64 0, .int .i64 0, .int .i64 0, .int .i64 0, .int .i64 0, .int .i64 0, .int .i64 0, .int .i64 0, .int .i64 0, .int .i64 0, .int .i64 0, .int .i64 0, .int .u32 4294967295, .int .i64 10]
theorem kq_spec : IsSpec (kq 1 (-1)) := by
  refine ⟨rfl, IsN_of (n := 77) rfl ⟨by decide, by decide⟩, IsN_of (n := 1) rfl ⟨by decide, by decide⟩, ?_, IsN_of (n := 4294967295) rfl ⟨by decide, by decide⟩, IsN_of (n := 10) rfl ⟨by decide, by decide⟩⟩
  intro i h1 h2
  have : i = 2 ∨ i = 3 ∨ i = 4 ∨ i = 5 ∨ i = 6 ∨ i = 7 ∨ i = 8 ∨ i = 9 ∨ i = 10 ∨ i = 11 ∨ i = 12 ∨ i = 13 ∨ i = 14 ∨ i = 15 ∨ i = 16 ∨ i = 17 ∨ i = 18 ∨ i = 19 ∨ i = 20 ∨ i = 21 ∨ i = 22 := by omega
  rcases this with rfl | rfl | rfl | rfl | rfl | rfl | rfl | rfl | rfl | rfl | rfl | rfl | rfl | rfl | rfl | rfl | rfl | rfl | rfl | rfl | rfl <;> exact IsN_of rfl ⟨by decide, by decide⟩
theorem kqfin : (((kq 0 0).setIfInBounds 6 (.int .i64 1)).setIfInBounds 7 (.int .i64 (-1))).extract 0 25 = kq 1 (-1) := by kernel_rfl
set_option maxRecDepth 100000 in
set_option maxHeartbeats 1000000 in
theorem small77 (w : World) :
    Calls Try.prog 44 #[.int .u32 77, .int .u32 4294967295] w fun e w' => e = .returned (.agg (kq 1 (-1))) ∧ Below w.heap.size w w' := by
  have s1 : (kq 0 0)[6]? = some (.int .i64 0) := rfl
  have s2 : ∀ x, ((kq 0 0).setIfInBounds 6 x)[7]? = some (.int .i64 0) := fun _ => rfl
  have H0 := Lib.hid (show (kq 0 0).size = 25 from rfl)
  have H1 := Lib.hid (show z25s.size = 25 from rfl)
  have H2 := Lib.hid (show (kq 1 (-1)).size = 25 from rfl)
  have H3 := Lib.hid (show (kq 1 (-1)).all (·.oneCell') = true from by kernel_rfl)
  have H4 := Lib.hid (show (kq 0 0).all (·.oneCell') = true by kernel_rfl)
  go_enter Try.func44, Try.ntmps44
  go_wp2_with (first | ((with_reducible refine at_alloc 61 ?_); refine wpList_alloc_named rfl 61 rfl (z25s) (by kernel_rfl) ?_) | ((with_reducible refine at_build 61 ?_); refine wpList_build_named rfl 61 _ rfl (kq 0 0) (by kernel_rfl) ?_) | ((with_reducible refine at_store 61 ?_); refine wpList_store_new rfl 61 _ _ rfl (kq 0 0) _ _ _ rfl (by simp) rfl (by rw [H0.out]; kernel_rfl) (by rw [H0.out]; rfl) (H4.out) ?_) | ((with_reducible refine at_load 61 ?_); refine wpList_load_part rfl 61 _ rfl (w.heap.size + 1) (0) rfl _ (((kq 0 0).setIfInBounds 6 (.int .i64 1)).setIfInBounds 7 (.int .i64 (-1))) _ _ 25 (by repeat (first | exact heap_new (by simp; done) | refine heap_up ?_)) Try.underlying61 rfl (by kernel_rfl) (by simp [H0.out]) (kq 1 (-1)) (kqfin) ?_) | ((with_reducible refine at_store 61 ?_); refine wpList_store_over rfl 61 _ _ rfl (w.heap.size) (kq 1 (-1)) rfl rfl _ _ (heap_up (heap_alloc_new _ _)) (by rw [H2.out]; kernel_rfl) (by rw [H2.out]; exact H1.out) (H3.out) ?_; intro w2 hg2 hs2 ho2 hb2))
  exact bodyPost_ret (results_cell_any rfl _ _ _ _ _ _ rfl hg2 Try.underlying61 rfl (by rw [H2.out]; kernel_rfl)) rfl ⟨rfl, (below_alloc (below_new _ _) _).trans (hb2 _ (Nat.le_refl _))⟩
def cz3 : Array Value := #[.bool false, .int .u32 0, .slice none 0 0]
set_option maxRecDepth 100000 in
set_option maxHeartbeats 1000000 in
theorem ccopy_any {w : World} {g base k : Nat} {day : Int} {L : Nat → Array Value} (h : CalIs w g base k day L) :
    Calls Try.prog 43 #[.pointer (some ⟨g, 0, none⟩)] w fun e w' => ∃ g', e = .returned (.pointer (some ⟨g', 0, none⟩)) ∧ CalIs w' g' w.heap.size k day L ∧ Below w.heap.size w w' := by
  have cr := Lib.hid (cready_yes h)
  have HC := Lib.hid h
  obtain ⟨v, hg, hrow⟩ := h.row
  obtain ⟨ra, rc, rfl, hR, hkr, hrc, hrz⟩ := own_rows (c := 27) (fun i => (h.con i).size) hrow
  have hk := h.hk
  have HX := Lib.hid (show (#[.bool true, .int .u32 day, .slice ra k rc] : Array Value).size = 3 from rfl)
  have HXA := Lib.hid (show (#[.bool true, .int .u32 day, .slice ra k rc] : Array Value).all (·.oneCell') = true from by simp [Value.oneCell'])
  obtain ⟨X, hX⟩ : ∃ X : Array Value, X = #[.bool true, .int .u32 day, .slice ra k rc] := ⟨_, rfl⟩
  rw [← hX] at hg HX HXA
  have x2 : X[2]? = some (.slice ra k rc) := by rw [hX]; rfl
  have HXE := Lib.hid hX
  have HXX := Lib.hid (extract_all HX.out)
  have hgw : g < w.heap.size := (Array.getElem?_eq_some_iff.1 hg).1
  have hb1 := below_new w (Obj.cells X 93)
  have hg1 := heap_up (o := Obj.cells X 93) hg
  have hn1 := heap_alloc_new w (Obj.cells X 93)
  have c1 := cellF hg1
  have CC := Lib.hid (cclone_any ra rc k L (w.alloc (Obj.cells X 93)) h.con (rowsT_kept hR hb1) (by omega) hrz)
  clear h hR hrz hrow hX
  go_enter Try.func43, Try.ntmps43
  go_wp2_with (first | (go_at_call 57; (with_reducible refine (cr.out).mono ?_); rintro e w1 ⟨rfl, rfl⟩) | ((with_reducible refine at_load 93 ?_); refine wpList_load_part rfl 93 _ rfl (g) (0) rfl _ (X) _ _ 3 (hg) Try.underlying93 rfl (by kernel_rfl) (by rw [HX.out]; omega) (X) (HXX.out) ?_) | ((with_reducible refine at_alloc 93 ?_); refine wpList_alloc_named rfl 93 rfl (cz3) (by kernel_rfl) ?_) | ((with_reducible refine at_store 93 ?_); refine wpList_store_new rfl 93 _ _ rfl (X) _ _ _ rfl (by simp) rfl (by rw [HX.out]; kernel_rfl) (by rw [HX.out]; rfl) (HXA.out) ?_) | (go_at_call 63; (with_reducible refine (CC.out).mono ?_); rintro e w3 ⟨v', rfl, ho, hb3⟩; obtain ⟨aC, cC, rfl⟩ := own_form ho; have HO := Lib.hid ho; have HB3 := Lib.hid hb3; have hn3 := Ytobokknfpjjdeaa.kept hb3 hn1; have cn3 := cellF hn3; have fn3 := (cells_of hn3).2.1; have HN3 := Lib.hid hn3; clear ho hb3))
  go_ret
  have hs := heap_set (i := 2) (v := .slice aC k cC) HN3.out
  rw [HXE.out] at hs
  refine ⟨_, rfl, ⟨⟨_, hs, ?_⟩, HC.out.con, HC.out.srt, Nat.le_refl _, HC.out.hk, HC.out.hd⟩, below_set (hb1.trans (HB3.out.mono (by simp))) (Nat.le_refl _)⟩
  refine ownsRow_setCell_other (Go.Joins.ownsRow_le HO.out (by simp)) (fun e => ?_) _
  have h9 : (w.alloc (Obj.cells X 93)).heap.size ≤ w.heap.size := (HO.out.lt _ e).1
  rw [show (w.alloc (Obj.cells X 93)).heap.size = w.heap.size + 1 from by simp] at h9
  omega
end Go.Proofs.Ytobokknfpjjdeaa
