/- The document's numbers: Of, Zero, Plus, Minus, Int, told. Condition: each digit is one. -/
import Derived.Test.YtanfhjfpdgjphaaNum
import Derived.Test.YtanfhjfpdgjphaaTail
namespace Go.Proofs.Ytanfhjfpdgjphaa
set_option linter.unusedVariables false
set_option linter.unusedSimpArgs false
open Go.RowKit

theorem bodyPost_cell {fn : Func} {P : Program} {p : Tmp} {ty : TypeId} {R : Ending → World → Prop} {a : Act} {w : World} {g : Nat} {t : TypeId} {cs : Array Value} {d : TypeDesc} (h : fn.results = #[.cell p ty])
    (hp : a.tmps.getD p undef = .pointer (some ⟨g, 0, none⟩)) (hd0 : a.defers = []) (hg : w.heap[g]? = some (.cells cs t (0, 0)))
    (hu : P.underlying ty = some d) (hd : (match d with | .struct _ | .array _ _ => true | _ => false) = true) (hi : (P.info? ty).map (·.size) = some cs.size) (hR : R (.returned (.agg cs)) w) : bodyPost P fn R .ret a w :=
  bodyPost_ret (results_cell_any h _ _ _ _ _ _ hp hg hu hd hi) hd0 hR

theorem nk_bd {n : Int} (h : 0 ≤ n ∧ n < 18446744073709551616) : ∀ k, 0 ≤ nk n k ∧ nk n k < 18446744073709551616
  | 0 => h
  | k + 1 => by have := nk_bd h k; rw [nk]; omega
set_option maxHeartbeats 1000000 in
theorem of_any (x : Int) (w : World) (hx : F64 x) :
    Calls Try.prog 35 #[.int .i64 x] w fun e w' => e = .returned (.agg (nm (decide (x < 0)) (oD (if x < 0 then -x else x) 4))) ∧ Below w.heap.size w w' := by
  unfold F64 at hx
  by_cases h0 : x < 0
  · rw [if_pos h0]
    have HS := Lib.hid (show decide (x < 0) = true from decide_eq_true h0)
    rw [HS.out]
    obtain ⟨m, hm⟩ : ∃ m : Int, m = -x := ⟨_, rfl⟩
    rw [← hm]
    obtain rfl : x = -m := by omega
    have h0' : 0 < m := by omega
    clear hm HS
    have hsz : (nm true z12).size = 13 := nm_size z12_D.size
    have HZ := Lib.hid hsz
    clear hsz
    go_enter Try.func35, Try.ntmps35
    go_wp2_with (first | ((with_reducible refine at_alloc 47 ?_); refine wpList_alloc_named rfl 47 rfl (nm false z12) (by kernel_rfl) ?_) | ((with_reducible refine at_buildP 47 ?_); refine wpList_build_sign rfl _ rfl true rfl ?_) | ((with_reducible refine at_store 47 ?_); refine wpList_store_new rfl 47 _ _ rfl (nm true z12) _ _ _ rfl (by simp) rfl (by rw [HZ.out]; kernel_rfl) (by rw [HZ.out]; exact nm_size z12_D.size) (nm_all z12_D) ?_))
    have hZs : (nm false z12).size = 13 := nm_size z12_D.size
    have HZs := Lib.hid hZs
    clear hZs HZ
    generalize hX0 : nm true z12 = X0 at *
    generalize hZ0 : nm false z12 = Z0 at *
    have HX0 := Lib.hid hX0
    clear hX0 hZ0
    go_loopg [3, 5] 4 (fun gh c i wr => ∃ k : Nat, k ≤ 4 ∧ gh = 4 - k ∧ c = .int .u64 (nk m k) ∧ i = .int .i64 k ∧ wr.heap[w.heap.size]? = some (.cells Z0 47 (0, 0)) ∧
      wr.heap[w.heap.size + 1]? = some (.cells (nm true (oD m k)) 47 (0, 0)) ∧ Below w.heap.size w wr)
    case atStart => exact ⟨0, by omega, by omega, by show _ = Value.int .u64 m; congr 1; omega, rfl, by repeat (first | exact heap_new (by simp; done) | refine heap_up ?_), by rw [show nm true (oD m 0) = _ from HX0.out]; exact (by repeat (first | exact heap_new (by simp; done) | refine heap_up ?_)), below_alloc (below_new _ _) _⟩
    case round =>
      obtain ⟨k, hk, rfl, rfl, rfl, hgZ, hgA, hb⟩ := hrel
      have hD := oD_D m k
      by_cases hlt : k < 4
      · have hn := nk_bd (n := m) (by omega) k
        have ha := (hD.c k (by omega)).1
        rw [← nm_at true] at ha
        have ha' : (nm true (oD m k))[1 + k]? = some (.int .u64 (N (oD m k) k)) := ha
        have HP := Lib.hid (show nm true (oD m (k + 1)) = (nm true (oD m k)).setIfInBounds (1 + k) (.int .u64 (nk m k % 65536)) from by rw [nm_set]; rfl)
        have HC := Lib.hid (show nk m (k + 1) = nk m k / 65536 from rfl)
        obtain ⟨c4, f4, _⟩ := cells_of hgA
        clear ha hD
        generalize nk m k = c at *
        generalize N (oD m k) k = x at *
        go_wp2
        go_roundg (4 - (k + 1))
        case measure => omega
        case rel => exact ⟨k + 1, by omega, rfl, by rw [HC.out], by go_num, heap_set_other hgZ (by omega), by rw [HP.out]; exact heap_set hgA, set_below hb (by omega)⟩
      · obtain rfl : k = 4 := by omega
        have HE := Lib.hid (extract_all (nm_size (s := true) hD.size))
        have HS := Lib.hid (nm_size (s := true) hD.size)
        have HA := Lib.hid (nm_all (s := true) hD)
        clear hD
        generalize hXX : nm true (oD m 4) = X at *
        have HXX := Lib.hid hXX
        clear hXX
        go_wp2_with (first | ((with_reducible refine at_load 47 ?_); refine wpList_load_part rfl 47 _ rfl (w.heap.size + 1) (0) rfl _ (X) _ _ 13 (hgA) Try.underlying47 rfl (by kernel_rfl) (by rw [HS.out]; omega) (X) (HE.out) ?_) | ((with_reducible refine at_store 47 ?_); refine wpList_store_over rfl 47 _ _ rfl (w.heap.size) (X) rfl rfl _ _ (hgZ) (by rw [HS.out]; kernel_rfl) (by rw [HS.out]; exact HZs.out) (HA.out) ?_; intro w1 hg1 hs1 ho1 hb1))
        exact bodyPost_ret (results_cell_any rfl _ _ _ _ _ _ rfl hg1 Try.underlying47 rfl (by rw [HS.out]; kernel_rfl)) rfl ⟨by rw [HXX.out], hb.trans (hb1 _ (Nat.le_refl _))⟩
  · rw [if_neg h0]
    have HS := Lib.hid (show decide (x < 0) = false from decide_eq_false h0)
    rw [HS.out]
    clear HS
    obtain ⟨m, hm⟩ : ∃ m : Int, m = x := ⟨_, rfl⟩
    subst hm
    have h0' : 0 ≤ m := by omega
    have hsz : (nm false z12).size = 13 := nm_size z12_D.size
    have HZ := Lib.hid hsz
    clear hsz
    go_enter Try.func35, Try.ntmps35
    go_wp2_with (first | ((with_reducible refine at_alloc 47 ?_); refine wpList_alloc_named rfl 47 rfl (nm false z12) (by kernel_rfl) ?_) | ((with_reducible refine at_buildP 47 ?_); refine wpList_build_sign rfl _ rfl false rfl ?_) | ((with_reducible refine at_store 47 ?_); refine wpList_store_new rfl 47 _ _ rfl (nm false z12) _ _ _ rfl (by simp) rfl (by rw [HZ.out]; kernel_rfl) rfl (nm_all z12_D) ?_))
    have hZs : (nm false z12).size = 13 := nm_size z12_D.size
    have HZs := Lib.hid hZs
    clear hZs HZ
    generalize hZ0 : nm false z12 = Z0 at *
    have hX0 := hZ0
    have HX0 := Lib.hid hX0
    clear hX0 hZ0
    go_loopg [3, 5] 4 (fun gh c i wr => ∃ k : Nat, k ≤ 4 ∧ gh = 4 - k ∧ c = .int .u64 (nk m k) ∧ i = .int .i64 k ∧ wr.heap[w.heap.size]? = some (.cells Z0 47 (0, 0)) ∧
      wr.heap[w.heap.size + 1]? = some (.cells (nm false (oD m k)) 47 (0, 0)) ∧ Below w.heap.size w wr)
    case atStart => exact ⟨0, by omega, by omega, rfl, rfl, heap_alloc2_old _ _ _, by rw [show nm false (oD m 0) = _ from HX0.out]; exact heap_alloc2_new _ _ _, below_alloc (below_new _ _) _⟩
    case round =>
      obtain ⟨k, hk, rfl, rfl, rfl, hgZ, hgA, hb⟩ := hrel
      have hD := oD_D m k
      by_cases hlt : k < 4
      · have hn := nk_bd (n := m) (by omega) k
        have ha := (hD.c k (by omega)).1
        rw [← nm_at false] at ha
        have ha' : (nm false (oD m k))[1 + k]? = some (.int .u64 (N (oD m k) k)) := ha
        have HP := Lib.hid (show nm false (oD m (k + 1)) = (nm false (oD m k)).setIfInBounds (1 + k) (.int .u64 (nk m k % 65536)) from by rw [nm_set]; rfl)
        have HC := Lib.hid (show nk m (k + 1) = nk m k / 65536 from rfl)
        obtain ⟨c4, f4, _⟩ := cells_of hgA
        clear ha hD
        generalize nk m k = c at *
        generalize N (oD m k) k = x at *
        go_wp2
        go_roundg (4 - (k + 1))
        case measure => omega
        case rel => exact ⟨k + 1, by omega, rfl, by rw [HC.out], by go_num, heap_set_other hgZ (by omega), by rw [HP.out]; exact heap_set hgA, set_below hb (by omega)⟩
      · obtain rfl : k = 4 := by omega
        have HE := Lib.hid (extract_all (nm_size (s := false) hD.size))
        have HS := Lib.hid (nm_size (s := false) hD.size)
        have HA := Lib.hid (nm_all (s := false) hD)
        clear hD
        generalize hXX : nm false (oD m 4) = X at *
        have HXX := Lib.hid hXX
        clear hXX
        go_wp2_with (first | ((with_reducible refine at_load 47 ?_); refine wpList_load_part rfl 47 _ rfl (w.heap.size + 1) (0) rfl _ (X) _ _ 13 (hgA) Try.underlying47 rfl (by kernel_rfl) (by rw [HS.out]; omega) (X) (HE.out) ?_) | ((with_reducible refine at_store 47 ?_); refine wpList_store_over rfl 47 _ _ rfl (w.heap.size) (X) rfl rfl _ _ (hgZ) (by rw [HS.out]; kernel_rfl) (by rw [HS.out]; exact HZs.out) (HA.out) ?_; intro w1 hg1 hs1 ho1 hb1))
        exact bodyPost_ret (results_cell_any rfl _ _ _ _ _ _ rfl hg1 Try.underlying47 rfl (by rw [HS.out]; kernel_rfl)) rfl ⟨by rw [HXX.out], hb.trans (hb1 _ (Nat.le_refl _))⟩
end Go.Proofs.Ytanfhjfpdgjphaa
