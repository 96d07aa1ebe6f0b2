/- What is known of a small calendar comes out as it is said; no condition. -/
import Derived.Test.YtobokknfpjjdeaaCalL
namespace Go.Proofs.Ytobokknfpjjdeaa
set_option linter.unusedVariables false
set_option linter.unusedSimpArgs false
open Go.RowKit

def z25s : Array Value := #[.int .u32 0, .int .u8 0, .int .i64 0, .int .i64 0, .int .i64 0, .int .i64 0, .int .i64 0, .int .i64 0, .int .i64 0, .int .i64 0, .int .i64 0, .int .i64 0, .int .i64 0, .int .i64 0, .int .i64 0, .int .i64 0, .int .i64 0, .int .i64 0, .int .i64 0, .int .i64 0, .int .i64 0, .int .i64 0, .int .i64 0, .int .u32 0, .int .i64 0]
def kp (a b : Int) : Array Value := #[.int .u32 3, .int .u8 1, .int .i64 1, .int .i64 1, .int .i64 0, .int .i64 9, .int .i64 a, .int .i64 b, .int .i64 0, .int .i64 0, .int .i64 0, .int .i64 0, .int .i64 0, .int .i64 0, .int .i64 0, .int .i64 0, .int .i64 0, .int .i64 0, .int .i64 0, .int .i64 0, .int .i64 0, .int .i64 0, .int .i64 0, .int .u32 2, .int .i64 10]
theorem kp_spec : IsSpec (kp 1 (-1)) := by
  refine ⟨rfl, IsN_of (n := 3) rfl ⟨by decide, by decide⟩, IsN_of (n := 1) rfl ⟨by decide, by decide⟩, ?_, IsN_of (n := 2) rfl ⟨by decide, by decide⟩, IsN_of (n := 10) rfl ⟨by decide, by decide⟩⟩
  intro i h1 h2
  have : i = 2 ∨ i = 3 ∨ i = 4 ∨ i = 5 ∨ i = 6 ∨ i = 7 ∨ i = 8 ∨ i = 9 ∨ i = 10 ∨ i = 11 ∨ i = 12 ∨ i = 13 ∨ i = 14 ∨ i = 15 ∨ i = 16 ∨ i = 17 ∨ i = 18 ∨ i = 19 ∨ i = 20 ∨ i = 21 ∨ i = 22 := by omega
  rcases this with rfl | rfl | rfl | rfl | rfl | rfl | rfl | rfl | rfl | rfl | rfl | rfl | rfl | rfl | rfl | rfl | rfl | rfl | rfl | rfl | rfl <;> exact IsN_of rfl ⟨by decide, by decide⟩
theorem kp_may : mayB (kp 1 (-1)) = true := by kernel_rfl
theorem kp_price : ipB (kp 1 (-1)) 12 = true := by kernel_rfl
theorem results_cell_any {fn : Func} {P : Program} {p : Tmp} {ty : TypeId} (h : fn.results = #[.cell p ty]) (tmps : Array Value) (w : World) (g : Nat) (t : TypeId) (cs : Array Value) (d : TypeDesc)
    (hp : tmps.getD p undef = .pointer (some ⟨g, 0, none⟩)) (hg : w.heap[g]? = some (.cells cs t (0, 0)))
    (hu : P.underlying ty = some d) (hd : (match d with | .struct _ | .array _ _ => true | _ => false) = true) (hi : (P.info? ty).map (·.size) = some cs.size) :
    (results fn tmps).run P w = .ok (.agg cs) w := results_cell_row h tmps w g t cs (0, 0) d hp hg hu hd hi
theorem kfin : (((kp 0 0).setIfInBounds 6 (.int .i64 1)).setIfInBounds 7 (.int .i64 (-1))).extract 0 25 = kp 1 (-1) := by kernel_rfl
set_option maxRecDepth 100000 in
set_option maxHeartbeats 1000000 in
theorem small05 (w : World) :
    Calls Try.prog 44 #[.int .u32 3, .int .u32 2] w fun e w' => e = .returned (.agg (kp 1 (-1))) ∧ Below w.heap.size w w' := by
  have s1 : (kp 0 0)[6]? = some (.int .i64 0) := rfl
  have s2 : ∀ x, ((kp 0 0).setIfInBounds 6 x)[7]? = some (.int .i64 0) := fun _ => rfl
  have H0 := Lib.hid (show (kp 0 0).size = 25 from rfl)
  have H1 := Lib.hid (show z25s.size = 25 from rfl)
  have H2 := Lib.hid (show (kp 1 (-1)).size = 25 from rfl)
  have H3 := Lib.hid (show (kp 1 (-1)).all (·.oneCell') = true from by kernel_rfl)
  have H4 := Lib.hid (show (kp 0 0).all (·.oneCell') = true by kernel_rfl)
  go_enter Try.func44, Try.ntmps44
  go_wp2_with (first | ((with_reducible refine at_alloc 61 ?_); refine wpList_alloc_named rfl 61 rfl (z25s) (by kernel_rfl) ?_) | ((with_reducible refine at_build 61 ?_); refine wpList_build_named rfl 61 _ rfl (kp 0 0) (by kernel_rfl) ?_) | ((with_reducible refine at_store 61 ?_); refine wpList_store_new rfl 61 _ _ rfl (kp 0 0) _ _ _ rfl (by simp) rfl (by rw [H0.out]; kernel_rfl) (by rw [H0.out]; rfl) (H4.out) ?_) | ((with_reducible refine at_load 61 ?_); refine wpList_load_part rfl 61 _ rfl (w.heap.size + 1) (0) rfl _ (((kp 0 0).setIfInBounds 6 (.int .i64 1)).setIfInBounds 7 (.int .i64 (-1))) _ _ 25 (by repeat (first | exact heap_new (by simp; done) | refine heap_up ?_)) Try.underlying61 rfl (by kernel_rfl) (by simp [H0.out]) (kp 1 (-1)) (kfin) ?_) | ((with_reducible refine at_store 61 ?_); refine wpList_store_over rfl 61 _ _ rfl (w.heap.size) (kp 1 (-1)) rfl rfl _ _ (heap_up (heap_alloc_new _ _)) (by rw [H2.out]; kernel_rfl) (by rw [H2.out]; exact H1.out) (H3.out) ?_; intro w2 hg2 hs2 ho2 hb2))
  exact bodyPost_ret (results_cell_any rfl _ _ _ _ _ _ rfl hg2 Try.underlying61 rfl (by rw [H2.out]; kernel_rfl)) rfl ⟨rfl, (below_alloc (below_new _ _) _).trans (hb2 _ (Nat.le_refl _))⟩
theorem cnew_any (w : World) : Calls Try.prog 23 #[] w fun e w' => e = .returned (.pointer (some ⟨w.heap.size, 0, none⟩)) ∧ CalIs w' w.heap.size w.heap.size 0 0 (fun _ => conA (kp 1 (-1)) 10) ∧ Below w.heap.size w w' := by
  go_enter Try.func23, Try.ntmps23
  go_wp2
  go_ret
  exact ⟨rfl, ⟨⟨_, heap_alloc_new _ _, World.ownsRow_nil _ _ _ _⟩, fun _ => conA_con kp_spec (by unfold F64; omega), fun i j _ h => by omega, Nat.le_refl _, by omega, by omega⟩, below_new _ _⟩
/-- the calendar of one contract -/
def K1 : Nat → Array Value := snoc (fun _ => conA (kp 1 (-1)) 10) 0 (conA (kp 1 (-1)) (N (kp 1 (-1)) 24))
theorem K1_0 : K1 0 = conA (kp 1 (-1)) 10 := by kernel_rfl
set_option maxRecDepth 100000 in
set_option maxHeartbeats 2000000 in
theorem known05 (w : World) :
    Calls Try.prog 24 #[] w fun e w' => e = .returned (.bool true) ∧ Below w.heap.size w w' := by
  have hne : ∀ (w : World) (g : Nat), (binOp .eql 56 (.pointer (some ⟨g, 0, none⟩)) (.pointer none)).run Try.prog w = .ok (.bool false) w := fun _ _ => by kernel_rfl
  have HR := Lib.hid (show (pr K1 0 12 0).size = 27 by kernel_rfl)
  have HRA := Lib.hid (show (pr K1 0 12 0).all (·.oneCell') = true by kernel_rfl)
  have HR2 := Lib.hid (show (pr K1 0 12 0)[26]? = some (.int .i64 12) by kernel_rfl)
  have HR1 := Lib.hid (show (pr K1 0 12 0)[25]? = some (.int .u8 1) by kernel_rfl)
  have HL := Lib.hid (fun (w : World) (g : Nat) (h : CalIs w g g 0 0 (fun _ => conA (kp 1 (-1)) 10)) => show Calls Try.prog 25 #[.pointer (some ⟨g, 0, none⟩), .agg (kp 1 (-1))] w fun e w' => e = .returned (.int .i64 0) ∧ CalIs w' g g 1 0 K1 ∧ Below g w w' from
    clist_end h kp_spec kp_may (fun i hi => by omega) (by rw [show N (kp 1 (-1)) 23 = 2 by kernel_rfl]; decide) (by omega))
  have HP := Lib.hid (fun (w : World) (g : Nat) (h : CalIs w g g 1 0 K1) => cpub_in (n := 3) (i := 0) 12 h (by omega) (by kernel_rfl) (by rw [show N (K1 0) 25 = 1 by kernel_rfl]; decide) (by unfold F64; omega) (by rw [K1_0, conA_ext rfl]; exact kp_price))
  have HG := Lib.hid (fun (w : World) (g : Nat) (h : CalIs w g g 1 0 (pr K1 0 12)) => cget_in (n := 3) (i := 0) h (by omega) (by kernel_rfl))
  have HD := Lib.hid (fun (w : World) (g : Nat) (h : CalIs w g g 1 0 (pr K1 0 12)) => cdue_early (n := 3) (i := 0) h (by omega) (by kernel_rfl) (by rw [show N (pr K1 0 12 0) 25 = 1 by kernel_rfl]; decide) (by rw [show N (pr K1 0 12 0) 23 = 2 by kernel_rfl]; decide))
  generalize pr K1 0 12 0 = M at *
  go_enter Try.func24, Try.ntmps24
  go_wp2_with (first | (go_at_call 23; (with_reducible refine (cnew_any _).mono ?_); rintro e w1 ⟨rfl, hN1, hb1⟩) | (go_at_call 44; (with_reducible refine (small05 _).mono ?_); rintro e w2 ⟨rfl, hb2⟩) | (go_at_call 25; (with_reducible refine (HL.out _ _ (hN1.kept hb2)).mono ?_); rintro e w3 ⟨rfl, hN3, hb3⟩) | (go_at_call 28; (with_reducible refine (HP.out _ _ hN3).mono ?_); rintro e w4 ⟨rfl, hN4, hb4⟩) | (go_at_call 26; (with_reducible refine (HG.out _ _ hN4).mono ?_); rintro e w5 ⟨rfl, hb5⟩) | ((with_reducible refine at_alloc 65 ?_); refine wpList_alloc_named rfl 65 rfl cz (by kernel_rfl) ?_) | ((with_reducible refine at_store 65 ?_); refine wpList_store_over rfl 65 _ _ rfl (w5.heap.size) (M) rfl rfl _ _ (heap_alloc_new _ _) (by rw [HR.out]; kernel_rfl) (by rw [HR.out]; exact cz_size) (HRA.out) ?_; intro w6 hg6 hs6 ho6 hb6; have c6 := cellF hg6; have m26 := HR2.out; have m25 := HR1.out; have hb56 := (below_new w5 (Obj.cells cz 65)).trans (hb6 _ (Nat.le_refl _)); have hN6 := (hN4.kept hb5).kept hb56) | (go_at_call 35; (with_reducible refine (HD.out _ _ hN6).mono ?_); rintro e w7 ⟨rfl, hb7⟩))
  go_ret
  have q1 := below_then hb1 hb2
  have q2 := q1.trans hb3
  have q3 := q2.trans hb4
  exact ⟨rfl, below_then (below_then (below_then q3 hb5) hb56) hb7⟩
end Go.Proofs.Ytobokknfpjjdeaa
