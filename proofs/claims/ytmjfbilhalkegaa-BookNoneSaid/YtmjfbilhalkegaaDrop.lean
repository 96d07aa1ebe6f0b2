/- Drop, Lower and find of a side; Fill where it refuses. Condition: the side is one. -/
import Derived.Test.YtmjfbilhalkegaaFill
namespace Go.Proofs.Ytmjfbilhalkegaa
set_option linter.unusedVariables false
set_option linter.unusedSimpArgs false
open Go.RowKit

theorem sfind_yes {w : World} {g base k : Nat} {buy : Bool} {L : Nat → Array Value} (n : Int) {i : Nat} (h : SideIs w g base k buy L) (hi : fi (fun j => decide (N (L j) 0 = n)) k = i) :
    Calls Try.prog 44 #[.pointer (some ⟨g, 0, none⟩), .int .u64 n] w fun e w' => e = .returned (.tuple #[.int .i64 i, .int .i64 0]) ∧ Below w.heap.size w w' := by
  have cr := sready_yes h
  have ca := sat_any n h
  rw [hi] at ca
  go_enter Try.func44, Try.ntmps44
  go_wp2_with (first | (go_at_call 39; (with_reducible refine (cr).mono ?_); rintro e w1 ⟨rfl, rfl⟩) | (go_at_call 48; (with_reducible refine (ca).mono ?_); rintro e w1 ⟨rfl, hb⟩))
  go_ret2
  exact ⟨rfl, hb⟩
theorem sfind_out {w : World} {g base k : Nat} {buy : Bool} {L : Nat → Array Value} (n : Int) (h : SideIs w g base k buy L) (hi : fi (fun j => decide (N (L j) 0 = n)) k = -1) :
    Calls Try.prog 44 #[.pointer (some ⟨g, 0, none⟩), .int .u64 n] w fun e w' => e = .returned (.tuple #[.int .i64 0, .int .i64 7]) ∧ Below w.heap.size w w' := by
  have cr := sready_yes h
  have ca := sat_any n h
  rw [hi] at ca
  go_enter Try.func44, Try.ntmps44
  go_wp2_with (first | (go_at_call 39; (with_reducible refine (cr).mono ?_); rintro e w1 ⟨rfl, rfl⟩) | (go_at_call 48; (with_reducible refine (ca).mono ?_); rintro e w1 ⟨rfl, hb⟩))
  go_ret2
  exact ⟨rfl, hb⟩
theorem sdrop_out {w : World} {g base k : Nat} {buy : Bool} {L : Nat → Array Value} (n : Int) (h : SideIs w g base k buy L) (hi : fi (fun j => decide (N (L j) 0 = n)) k = -1) :
    Calls Try.prog 33 #[.pointer (some ⟨g, 0, none⟩), .int .u64 n] w fun e w' => e = .returned (.tuple #[.agg zo, .int .i64 7]) ∧ Below w.heap.size w w' := by
  have h1 := h.kept (below_new w (Obj.cells zo 30))
  have hb0 := below_new w (Obj.cells zo 30)
  have hc := heap_alloc_new w (Obj.cells zo 30)
  have HZ := Lib.hid zo_size
  have HA := Lib.hid zo_all
  have cf := sfind_out n h1 hi
  clear h h1 hi
  go_enter Try.func33, Try.ntmps33
  go_wp2_with (first | ((with_reducible refine at_alloc 30 ?_); refine wpList_alloc_named rfl 30 rfl zo (by kernel_rfl) ?_) | (go_at_call 44; (with_reducible refine (cf).mono ?_); rintro e w1 ⟨rfl, hb1⟩; have hc1 := Ytmjfbilhalkegaa.kept hb1 hc) | ((with_reducible refine at_build 30 ?_); refine wpList_build_named rfl 30 _ rfl zo (by kernel_rfl) ?_) | ((with_reducible refine at_store 30 ?_); refine wpList_store_over rfl 30 _ _ rfl (w.heap.size) (zo) rfl rfl _ _ (hc1) (by rw [HZ.out]; kernel_rfl) (rfl) (HA.out) ?_; intro w3 hg3 hs3 ho3 hb3))
  exact post_cell_tmp (g := w.heap.size) (t := 30) (v := .int .i64 7) rfl rfl rfl rfl hg3 Try.underlying30 rfl (by rw [HZ.out]; kernel_rfl) ⟨rfl, (below_then hb0 hb1).trans (hb3 _ (Nat.le_refl _))⟩
theorem slower_out {w : World} {g base k : Nat} {buy : Bool} {L : Nat → Array Value} (n x : Int) (h : SideIs w g base k buy L) (hi : fi (fun j => decide (N (L j) 0 = n)) k = -1) :
    Calls Try.prog 32 #[.pointer (some ⟨g, 0, none⟩), .int .u64 n, .int .i64 x] w fun e w' => e = .returned (.int .i64 7) ∧ Below w.heap.size w w' := by
  have cf := sfind_out n h hi
  clear h hi
  go_enter Try.func32, Try.ntmps32
  go_wp2_with ((go_at_call 44; (with_reducible refine (cf).mono ?_); rintro e w1 ⟨rfl, hb1⟩))
  go_ret
  exact ⟨rfl, hb1⟩
set_option maxHeartbeats 1000000 in
theorem slower_in {w : World} {g base k : Nat} {buy : Bool} {L : Nat → Array Value} (n x : Int) {i : Nat} (h : SideIs w g base k buy L) (hi : fi (fun j => decide (N (L j) 0 = n)) k = i) (hx : F64 x) :
    Calls Try.prog 32 #[.pointer (some ⟨g, 0, none⟩), .int .u64 n, .int .i64 x] w fun e w' => (e = .returned (.int .i64 2) ∧ ¬ (1 ≤ x ∧ x ≤ N (L i) 4) ∧ Below w.heap.size w w') ∨
      (e = .returned (.int .i64 0) ∧ (1 ≤ x ∧ x ≤ N (L i) 4) ∧ SideIs w' g base k buy (lo L i x) ∧ Below base w w' ∧ Ko g w w') := by
  have cf := sfind_yes n h hi
  have hik := (fi_at k i hi).1
  obtain ⟨gb, rc, A, hA, hbb, hsz, hkr, hrc, htk⟩ := h.at_row (by omega)
  have HF := Lib.hid (fun (w1 : World) (hb1 : Below w.heap.size w w1) => side_set h hA hbb hsz hkr hrc htk hik hx hb1)
  have hc4 := hA.cell (i := i) (j := 4) hik (by omega)
  rw [(h.ord i).l.1] at hc4
  have hfi := fi_bd (q := fun j => decide (N (L j) 0 = n)) k
  have HA := Lib.hid hA
  have hiz : (i : Int) < k := by omega
  clear h hi hA htk hfi
  generalize hN : N (L i) 4 = y at *
  clear hN
  have hA := HA.out
  by_cases h1 : x < 1
  · go_enter Try.func32, Try.ntmps32
    go_wp2_with ((go_at_call 44; (with_reducible refine (cf).mono ?_); rintro e w1 ⟨rfl, hb1⟩; have hA1 := hA.kept hb1; have c1 := cellF hA1.1; have c2 := cellF hA1.2.1))
    go_ret
    exact .inl ⟨rfl, by omega, hb1⟩
  · by_cases h2 : y < x
    · go_enter Try.func32, Try.ntmps32
      go_wp2_with ((go_at_call 44; (with_reducible refine (cf).mono ?_); rintro e w1 ⟨rfl, hb1⟩; have hA1 := hA.kept hb1; have c1 := cellF hA1.1; have c2 := cellF hA1.2.1))
      go_ret
      exact .inl ⟨rfl, by omega, hb1⟩
    · go_enter Try.func32, Try.ntmps32
      go_wp2_with ((go_at_call 44; (with_reducible refine (cf).mono ?_); rintro e w1 ⟨rfl, hb1⟩; have hA1 := hA.kept hb1; have c1 := cellF hA1.1; have c2 := cellF hA1.2.1; have f2 := (cells_of hA1.2.1).2.1))
      go_ret
      obtain ⟨q1, q2, q3, _⟩ := HF.out w1 hb1
      exact .inr ⟨rfl, by omega, q1, q2, q3⟩
theorem sfill_zero {w : World} {g base : Nat} {buy : Bool} {L : Nat → Array Value} (n : Int) (h : SideIs w g base 0 buy L) :
    Calls Try.prog 42 #[.pointer (some ⟨g, 0, none⟩), .int .i64 n] w fun e w' => e = .returned (.tuple #[.agg zo, .int .i64 7]) ∧ Below w.heap.size w w' := by
  have h1 := h.kept (below_new w (Obj.cells zo 30))
  have hb0 := below_new w (Obj.cells zo 30)
  have hc := heap_alloc_new w (Obj.cells zo 30)
  have HZ := Lib.hid zo_size
  have HA := Lib.hid zo_all
  have cr := sready_yes h1
  obtain ⟨v, hg, hrow⟩ := h1.row
  obtain ⟨ra, rc, rfl, _⟩ := own_rows (c := 5) (fun i => (h1.ord i).size) hrow
  have cg := cellF hg
  clear h h1 hrow
  go_enter Try.func42, Try.ntmps42
  go_wp2_with (first | ((with_reducible refine at_alloc 30 ?_); refine wpList_alloc_named rfl 30 rfl zo (by kernel_rfl) ?_) | (go_at_call 39; (with_reducible refine (cr).mono ?_); rintro e w1 ⟨rfl, rfl⟩) | ((with_reducible refine at_build 30 ?_); refine wpList_build_named rfl 30 _ rfl zo (by kernel_rfl) ?_) | ((with_reducible refine at_store 30 ?_); refine wpList_store_over rfl 30 _ _ rfl (w.heap.size) (zo) rfl rfl _ _ (hc) (by rw [HZ.out]; kernel_rfl) (rfl) (HA.out) ?_; intro w3 hg3 hs3 ho3 hb3))
  exact post_cell_tmp (g := w.heap.size) (t := 30) (v := .int .i64 7) rfl rfl rfl rfl hg3 Try.underlying30 rfl (by rw [HZ.out]; kernel_rfl) ⟨rfl, hb0.trans (hb3 _ (Nat.le_refl _))⟩
set_option maxHeartbeats 1000000 in
theorem sfill_bad {w : World} {g base k : Nat} {buy : Bool} {L : Nat → Array Value} (n : Int) (h : SideIs w g base k buy L) (hk : 0 < k) (hn : n < 1 ∨ N (L 0) 4 < n) :
    Calls Try.prog 42 #[.pointer (some ⟨g, 0, none⟩), .int .i64 n] w fun e w' => e = .returned (.tuple #[.agg zo, .int .i64 2]) ∧ Below w.heap.size w w' := by
  have h1 := h.kept (below_new w (Obj.cells zo 30))
  have hb0 := below_new w (Obj.cells zo 30)
  have hc := heap_alloc_new w (Obj.cells zo 30)
  have HZ := Lib.hid zo_size
  have HA := Lib.hid zo_all
  have cr := sready_yes h1
  obtain ⟨gb, rc, B, hB, _⟩ := h1.at_row hk
  have cg := cellF hB.1
  have ca := cellF hB.2.1
  have hc4 := hB.cell (i := 0) (j := 4) hk (by omega)
  rw [(h.ord 0).l.1, show 0 * 5 + 4 = 4 from rfl] at hc4
  have hk0 : ¬ (k : Int) = 0 := by omega
  have hk1 : (0 : Int) < k := by omega
  clear h h1 hB
  generalize N (L 0) 4 = y at *
  by_cases h1 : n < 1
  · clear hn
    go_enter Try.func42, Try.ntmps42
    go_wp2_with (first | ((with_reducible refine at_alloc 30 ?_); refine wpList_alloc_named rfl 30 rfl zo (by kernel_rfl) ?_) | (go_at_call 39; (with_reducible refine (cr).mono ?_); rintro e w1 ⟨rfl, rfl⟩) | ((with_reducible refine at_build 30 ?_); refine wpList_build_named rfl 30 _ rfl zo (by kernel_rfl) ?_) | ((with_reducible refine at_store 30 ?_); refine wpList_store_over rfl 30 _ _ rfl (w.heap.size) (zo) rfl rfl _ _ (hc) (by rw [HZ.out]; kernel_rfl) (rfl) (HA.out) ?_; intro w3 hg3 hs3 ho3 hb3))
    exact post_cell_tmp (g := w.heap.size) (t := 30) (v := .int .i64 2) rfl rfl rfl rfl hg3 Try.underlying30 rfl (by rw [HZ.out]; kernel_rfl) ⟨rfl, hb0.trans (hb3 _ (Nat.le_refl _))⟩
  · have h2 : y < n := by omega
    clear hn
    go_enter Try.func42, Try.ntmps42
    go_wp2_with (first | ((with_reducible refine at_alloc 30 ?_); refine wpList_alloc_named rfl 30 rfl zo (by kernel_rfl) ?_) | (go_at_call 39; (with_reducible refine (cr).mono ?_); rintro e w1 ⟨rfl, rfl⟩) | ((with_reducible refine at_build 30 ?_); refine wpList_build_named rfl 30 _ rfl zo (by kernel_rfl) ?_) | ((with_reducible refine at_store 30 ?_); refine wpList_store_over rfl 30 _ _ rfl (w.heap.size) (zo) rfl rfl _ _ (hc) (by rw [HZ.out]; kernel_rfl) (rfl) (HA.out) ?_; intro w3 hg3 hs3 ho3 hb3))
    exact post_cell_tmp (g := w.heap.size) (t := 30) (v := .int .i64 2) rfl rfl rfl rfl hg3 Try.underlying30 rfl (by rw [HZ.out]; kernel_rfl) ⟨rfl, hb0.trans (hb3 _ (Nat.le_refl _))⟩
set_option maxRecDepth 100000 in
set_option maxHeartbeats 2000000 in
theorem sdrop_in {w : World} {g base k : Nat} {buy : Bool} {L : Nat → Array Value} (n : Int) {i : Nat} (h : SideIs w g base k buy L) (hi : fi (fun j => decide (N (L j) 0 = n)) k = i) :
    Calls Try.prog 33 #[.pointer (some ⟨g, 0, none⟩), .int .u64 n] w fun e w' => e = .returned (.tuple #[.agg (L i), .int .i64 0]) ∧ SideIs w' g base (k - 1) buy (rem L i) ∧ Below base w w' ∧ Ko g w w' := by
  have h1 := h.kept (below_new w (Obj.cells zo 30))
  have hb0 := below_new w (Obj.cells zo 30)
  have hc := heap_alloc_new w (Obj.cells zo 30)
  have HZ := Lib.hid zo_size
  have HA := Lib.hid zo_all
  have cf := sfind_yes n h1 hi
  have hik := (fi_at k i hi).1
  obtain ⟨gb, rc, A, hR, hbb, hsz, hkr, hrc, htk⟩ := h.at_row (by omega)
  have HR := Lib.hid hR
  have HH := Lib.hid h
  have hgw := (cells_of hR.1).2.2
  have hgb := (cells_of hR.2.1).2.2
  have HOW := Lib.hid (show w.ownsRow base 30 5 (.slice (some ⟨gb, 0, none⟩) k rc) k (flat L k) from ⟨flatc_len (fun i => (h.ord i).size) k, .inr ⟨gb, rc, A, rfl, hbb, hR.2.1, hkr, by unfold maxLen; omega, hsz, htk⟩⟩)
  have HM := Lib.hid (h.ord i).size
  have HMA := Lib.hid (h.ord i).all
  have HMX := Lib.hid (extract_all (h.ord i).size)
  have HOS := Lib.hid h.ord
  have hiz : (i : Int) < k := by omega
  have hk9 := h.hk
  generalize hLi : L i = M at *
  have HLI := Lib.hid hLi
  clear h h1 hi htk hR hLi
  go_enter Try.func33, Try.ntmps33
  go_wp2_with (first | ((with_reducible refine at_alloc 30 ?_); refine wpList_alloc_named rfl 30 rfl zo (by kernel_rfl) ?_) | (go_at_call 44; (with_reducible refine (cf).mono ?_); rintro e w1 ⟨rfl, hb1⟩; have hb01 := below_then hb0 hb1; have hc1 := Ytmjfbilhalkegaa.kept hb1 hc; have hR1 := HR.out.kept hb01; have c1 := cellF hR1.1; have hA1 := hR1.2.1; have hbm := below_then hb01 (below_new w1 (Obj.cells M 30)); have cm := cellF (heap_up (o := Obj.cells M 30) hR1.1); have HX := Lib.hid (hR1.2.2 i hik); clear hR1; have hm1 := heap_alloc_new w1 (Obj.cells M 30); have hcm := heap_up (o := Obj.cells M 30) hc1) | ((with_reducible refine at_load 30 ?_); refine wpList_load_part rfl 30 _ rfl (gb) (i * 5) rfl _ (A) _ _ 5 (hA1) Try.underlying30 rfl (by kernel_rfl) (HX.out.1) (M) (by rw [← HLI.out]; exact HX.out.2) ?_) | ((with_reducible refine at_store 30 ?_); refine wpList_store_new rfl 30 _ _ rfl (M) _ _ _ rfl (by simp) rfl (by rw [HM.out]; kernel_rfl) (by rw [HM.out]; rfl) (HMA.out) ?_) | (go_at_call 45; (with_reducible refine (delo_any base k i L (some ⟨gb, 0, none⟩) rc _ (fun j => (HOS.out j).size) (fun j => (HOS.out j).all) (own_below hbm HOW.out) hik).mono ?_); rintro e w5 ⟨rfl, ho5, hb5, hoth⟩; have hsh := side_shrunk HH.out HR.out.1 hbm (own_below hbm HOW.out) hoth hb5 ho5; have cg5 := cellF hsh.1; have fg5 := (cells_of hsh.1).2.1; have hszw := hb01.size; have hm6 := heap_set_other (g := g) (i := 2) (v := Value.slice (some ⟨gb, 0, none⟩) (k - 1) rc) ((hoth w1.heap.size (by simp [Value.ownBlock]; omega)).trans hm1) (by omega); have hz6 := heap_set_other (g := g) (i := 2) (v := Value.slice (some ⟨gb, 0, none⟩) (k - 1) rc) ((hoth w.heap.size (by simp [Value.ownBlock]; omega)).trans hcm) (by omega)) | ((with_reducible refine at_load 30 ?_); refine wpList_load_part rfl 30 _ rfl (w1.heap.size) (0) rfl _ (M) _ _ 5 (hm6) Try.underlying30 rfl (by kernel_rfl) (by rw [HM.out]; omega) (M) (HMX.out) ?_) | ((with_reducible refine at_store 30 ?_); refine wpList_store_over rfl 30 _ _ rfl (w.heap.size) (M) rfl rfl _ _ (hz6) (by rw [HM.out]; kernel_rfl) (by rw [HM.out]; rfl) (HMA.out) ?_; intro w3 hg5 hs5 ho6 hb6))
  have hB6 := hb6 _ (Nat.le_refl _)
  obtain ⟨hsh1, f1, f2, f3, _⟩ := hsh
  have hbg := f1.bg
  obtain ⟨vr, hgr, hrow⟩ := f1.row
  have hvr : vr = .slice (some ⟨gb, 0, none⟩) (k - 1) rc := by
    have := heap_set (i := 2) (v := Value.slice (some ⟨gb, 0, none⟩) (k - 1) rc) hsh1
    rw [hgr] at this
    simpa using this
  have hF1 : SideIs w3 g base (k - 1) buy (rem L i) := ⟨⟨vr, (ho6 g (by omega)).trans hgr, hrow.kept (row := some w.heap.size) ⟨hB6.os, hB6.tape, hB6.output, hB6.size, fun j _ hne => ho6 j (fun e => hne (by rw [e]))⟩ (.inr (by rw [hvr]; simp [Value.ownBlock]; omega))⟩, f1.ord, hbg, f1.hk⟩
  refine post_cell_tmp (g := w.heap.size) (t := 30) (v := .int .i64 0) rfl rfl rfl rfl hg5 Try.underlying30 rfl (by rw [HM.out]; kernel_rfl) ⟨rfl, hF1, f2.trans (hB6.mono (by omega)), ?_⟩
  exact f3.trans (fun j o ho hj hcc => (ho6 j (fun e => by subst e; rw [hz6] at hcc; exact ho _ _ (Option.some.inj hcc).symm)).trans hcc)
end Go.Proofs.Ytmjfbilhalkegaa
