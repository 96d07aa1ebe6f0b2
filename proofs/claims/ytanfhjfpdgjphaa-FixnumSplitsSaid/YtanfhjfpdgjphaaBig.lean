/- The document's numbers of twelve digits: less, plus, minus of their sizes. Condition: each digit is one. -/
import Derived.Test.YtanfhjfpdgjphaaDig
import Derived.Test.YtanfhjfpdgjphaaQuiet
import Derived.Deep.LoopGhost
namespace Go.Proofs.Ytanfhjfpdgjphaa
set_option linter.unusedVariables false
set_option linter.unusedSimpArgs false
open Go.RowKit


set_option maxHeartbeats 1000000 in
theorem less_any (A B : Array Value) (w : World) (hA : IsD A) (hB : IsD B) :
    Calls Try.prog 48 #[.agg A, .agg B] w fun e w' => e = .returned (.bool (decide (lv A 12 < lv B 12))) ∧ Below w.heap.size w w' := by
  have HA := Lib.hid hA
  have HB := Lib.hid hB
  clear hA hB
  go_enter Try.func48, Try.ntmps48
  go_wp2
  obtain ⟨w2, hw2⟩ : ∃ w2, w2 = (w.alloc (.cells A 45)).alloc (.cells B 45) := ⟨_, rfl⟩
  have hgA0 : w2.heap[w.heap.size]? = some (.cells A 45 (0, 0)) := by rw [hw2]; exact (by repeat (first | exact heap_new (by simp; done) | refine heap_up ?_))
  have hgB0 : w2.heap[w.heap.size + 1]? = some (.cells B 45 (0, 0)) := by rw [hw2]; exact (by repeat (first | exact heap_new (by simp; done) | refine heap_up ?_))
  have hb0 : Below w.heap.size w w2 := by rw [hw2]; exact below_alloc (below_new _ _) _
  rw [← hw2]
  clear hw2
  go_loopg [5] 12 (fun gh i wr => ∃ (k : Nat) (v : Int), k ≤ 12 ∧ k = gh ∧ i = .int .i64 v ∧ v = (k : Int) - 1 ∧ (∀ j, k ≤ j → j < 12 → N A j = N B j) ∧ Below w2.heap.size w2 wr)
  case atStart => exact ⟨12, 11, by omega, by omega, rfl, by omega, fun j h1 h2 => by omega, Below.refl _ _⟩
  case round =>
    obtain ⟨k, v, hk, rfl, rfl, hv, he, hb⟩ := hrel
    have HE := Lib.hid he
    clear he
    have hgA := Ytanfhjfpdgjphaa.kept hb hgA0
    have hgB := Ytanfhjfpdgjphaa.kept hb hgB0
    cases k with
    | zero =>
      obtain rfl : v = -1 := by omega
      clear hv
      have HF := Lib.hid (show decide (lv A 12 < lv B 12) = false by rw [decide_eq_false_iff_not, lv_same (fun j hj => HE.out j (by omega) hj)]; omega)
      go_wp2
      go_ret
      exact ⟨by rw [HF.out]; rfl, below_then hb0 hb⟩
    | succ m =>
      obtain rfl : v = (m : Int) := by omega
      clear hv
      have hm12 : m < 12 := by omega
      have hmi : (m : Int) < 12 := by omega
      obtain ⟨a0, a1, a2⟩ := HA.out.c m (by omega)
      obtain ⟨b0, b1, b2⟩ := HB.out.c m (by omega)
      have HX := Lib.hid (show N A m = N B m → ∀ j, m ≤ j → j < 12 → N A j = N B j from fun h j h1 h2 => by
        by_cases e : j = m
        · subst e; exact h
        · exact HE.out j (by omega) h2)
      have HL := Lib.hid (show N A m ≠ N B m → decide (N A m < N B m) = decide (lv A 12 < lv B 12) from fun h => by
        rw [decide_eq_decide]
        constructor
        · exact fun h1 => lv_less HA.out HB.out (by omega) h1 (fun j h2 h3 => HE.out j (by omega) h3)
        · intro h1
          rcases Int.lt_trichotomy (N A m) (N B m) with h2 | h2 | h2
          · exact h2
          · exact absurd h2 h
          · have := lv_less HB.out HA.out (by omega) h2 (fun j h3 h4 => (HE.out j (by omega) h4).symm)
            omega)
      generalize N A m = x at *
      generalize N B m = y at *
      by_cases hxy : x = y
      · clear hk
        have hq : (x == y) = true := by simpa using hxy
        go_wp2
        refine wp_region_below (by kernel_rfl) (by kernel_rfl) ?_
        repeat (first | ((with_reducible apply q_skip); (case hw => rfl); (try simp only [Act.put, List.setIfInBounds_toArray, List.set_cons_zero, List.set_cons_succ])) | ((with_reducible apply q_val); (case hw => rfl); (case hv => intro wq hbq; have hcq := cellF (Ytanfhjfpdgjphaa.kept hbq hgA); have hcr := cellF (Ytanfhjfpdgjphaa.kept hbq hgB); go_simp; try rfl); (try simp only [Act.put, List.setIfInBounds_toArray, List.set_cons_zero, List.set_cons_succ])))
        refine q_nil ?_
        intro w4 hb4
        go_wp2
        go_roundg m
        case measure => omega
        case rel => exact ⟨m, (m : Int) - 1, by omega, rfl, by go_num, by omega, HX.out hxy, below_then hb hb4⟩
      · clear hk
        have hq : (x == y) = false := by simpa using hxy
        go_wp2
        refine wp_region_below (by kernel_rfl) (by kernel_rfl) ?_
        repeat (first | ((with_reducible apply q_skip); (case hw => rfl); (try simp only [Act.put, List.setIfInBounds_toArray, List.set_cons_zero, List.set_cons_succ])) | ((with_reducible apply q_val); (case hw => rfl); (case hv => intro wq hbq; have hcq := cellF (Ytanfhjfpdgjphaa.kept hbq hgA); have hcr := cellF (Ytanfhjfpdgjphaa.kept hbq hgB); go_simp; try rfl); (try simp only [Act.put, List.setIfInBounds_toArray, List.set_cons_zero, List.set_cons_succ])))
        refine q_nil ?_
        intro w4 hb4
        go_wp2
        have hgA' := Ytanfhjfpdgjphaa.kept hb4 hgA
        have hgB' := Ytanfhjfpdgjphaa.kept hb4 hgB
        clear hgA hgB
        have hgA := hgA'
        have hgB := hgB'
        refine wp_region_below (by kernel_rfl) (by kernel_rfl) ?_
        repeat (first | ((with_reducible apply q_skip); (case hw => rfl); (try simp only [Act.put, List.setIfInBounds_toArray, List.set_cons_zero, List.set_cons_succ])) | ((with_reducible apply q_val); (case hw => rfl); (case hv => intro wq hbq; have hcq := cellF (Ytanfhjfpdgjphaa.kept hbq hgA); have hcr := cellF (Ytanfhjfpdgjphaa.kept hbq hgB); go_simp; try rfl); (try simp only [Act.put, List.setIfInBounds_toArray, List.set_cons_zero, List.set_cons_succ])))
        refine q_nil ?_
        intro w5 hb5
        go_wp2
        go_ret
        exact ⟨by rw [← HL.out hxy]; rfl, below_then hb0 (below_then (below_then hb hb4) hb5)⟩

def z12 : Array Value := #[.int .u64 0, .int .u64 0, .int .u64 0, .int .u64 0, .int .u64 0, .int .u64 0, .int .u64 0, .int .u64 0, .int .u64 0, .int .u64 0, .int .u64 0, .int .u64 0]
theorem IsD.all {D : Array Value} (h : IsD D) : D.all (·.oneCell') = true := all_one fun i v hv => by
  have hi : i < 12 := by have := (Array.getElem?_eq_some_iff.1 hv).1; rw [h.size] at this; exact this
  rw [(h.c i hi).1] at hv
  injection hv with hv
  subst hv
  rfl
theorem set_below {W w : World} {B g i : Nat} {v : Value} (h : Below B W w) (hg : B ≤ g) : Below B W (w.setCell ⟨g, i, none⟩ v) :=
  ⟨h.os, h.tape, h.output, by simp [World.setCell]; exact h.size, fun k hk => by rw [heap_setCell_other w ⟨g, i, none⟩ k v (fun e => by simp at e; omega)]; exact h.block k hk⟩
theorem results_cell_any {fn : Func} {P : Program} {p : Tmp} {ty : TypeId} (h : fn.results = #[.cell p ty]) (tmps : Array Value) (w : World) (g : Nat) (t : TypeId) (cs : Array Value) (d : TypeDesc)
    (hp : tmps.getD p undef = .pointer (some ⟨g, 0, none⟩)) (hg : w.heap[g]? = some (.cells cs t (0, 0)))
    (hu : P.underlying ty = some d) (hd : (match d with | .struct _ | .array _ _ => true | _ => false) = true) (hi : (P.info? ty).map (·.size) = some cs.size) :
    (results fn tmps).run P w = .ok (.agg cs) w := results_cell_row h tmps w g t cs (0, 0) d hp hg hu hd hi

set_option maxHeartbeats 1000000 in
theorem plus_any (A B : Array Value) (w : World) (hA : IsD A) (hB : IsD B) :
    Calls Try.prog 52 #[.agg A, .agg B] w fun e w' => e = .returned (.agg (pl A B 12)) ∧ Below w.heap.size w w' := by
  have HA := Lib.hid hA
  have HB := Lib.hid hB
  clear hA hB
  go_enter Try.func52, Try.ntmps52
  go_wp2_with (first | ((with_reducible refine at_alloc 45 ?_); refine wpList_alloc_named rfl 45 rfl (z12) (by kernel_rfl) ?_))
  go_loopg [5, 6] 12 (fun gh c i wr => ∃ k : Nat, k ≤ 12 ∧ gh = 12 - k ∧ c = .int .u64 (cd A B k) ∧ i = .int .i64 k ∧ wr.heap[w.heap.size]? = some (.cells (pl A B k) 45 (0, 0)) ∧
    wr.heap[w.heap.size + 1]? = some (.cells B 45 (0, 0)) ∧ wr.heap[w.heap.size + 2]? = some (.cells z12 45 (0, 0)) ∧ Below w.heap.size w wr)
  case atStart => exact ⟨0, by omega, by omega, rfl, rfl, by repeat (first | exact heap_new (by simp; done) | refine heap_up ?_), by repeat (first | exact heap_new (by simp; done) | refine heap_up ?_), by repeat (first | exact heap_new (by simp; done) | refine heap_up ?_), below_alloc (below_alloc (below_new _ _) _) _⟩
  case round =>
    obtain ⟨k, hk, rfl, rfl, rfl, hgA, hgB, hgZ, hb⟩ := hrel
    by_cases hlt : k < 12
    · obtain ⟨a0, a1, a2⟩ := HA.out.c k hlt
      obtain ⟨b0, b1, b2⟩ := HB.out.c k hlt
      have hcd := cd_bd HA.out HB.out k hk
      have ap := pl_later A B k k (Nat.le_refl _)
      rw [a0] at ap
      have HP := Lib.hid (show pl A B (k + 1) = (pl A B k).setIfInBounds k (.int .u64 ((cd A B k + N A k + N B k) % 65536)) from rfl)
      have HC := Lib.hid (show cd A B (k + 1) = (cd A B k + N A k + N B k) / 65536 from rfl)
      clear a0
      generalize cd A B k = c at *
      generalize N A k = x at *
      generalize N B k = y at *
      go_wp2
      refine wp_region_below (by kernel_rfl) (by kernel_rfl) ?_
      repeat (first | ((with_reducible apply q_skip); (case hw => rfl); (try simp only [Act.put, List.setIfInBounds_toArray, List.set_cons_zero, List.set_cons_succ])) | ((with_reducible apply q_val); (case hw => rfl); (case hv => intro wq hbq; have hcq := cellF (Ytanfhjfpdgjphaa.kept hbq hgA); have hcr := cellF (Ytanfhjfpdgjphaa.kept hbq hgB); go_simp; try rfl); (try simp only [Act.put, List.setIfInBounds_toArray, List.set_cons_zero, List.set_cons_succ])))
      refine q_nil ?_
      intro w4 hb4
      have hgA4 := Ytanfhjfpdgjphaa.kept hb4 hgA
      obtain ⟨c4, f4, _⟩ := cells_of hgA4
      go_wp2
      go_roundg (12 - (k + 1))
      case measure => omega
      case rel => exact ⟨k + 1, by omega, rfl, by rw [HC.out], by go_num, by rw [HP.out]; exact heap_set hgA4, heap_set_other (Ytanfhjfpdgjphaa.kept hb4 hgB) (by omega), heap_set_other (Ytanfhjfpdgjphaa.kept hb4 hgZ) (by omega),
        set_below (below_then hb hb4) (Nat.le_refl _)⟩
    · obtain rfl : k = 12 := by omega
      have hD := pl_D HA.out (B := B)
      have HE := Lib.hid (extract_all hD.size)
      go_wp2_with (first | ((with_reducible refine at_load 45 ?_); refine wpList_load_part rfl 45 _ rfl (w.heap.size) (0) rfl _ (pl A B 12) _ _ 12 (hgA) Try.underlying45 rfl (by kernel_rfl) (by rw [hD.size]; omega) (pl A B 12) (HE.out) ?_) | ((with_reducible refine at_store 45 ?_); refine wpList_store_over rfl 45 _ _ rfl (w.heap.size + 2) (pl A B 12) rfl rfl _ _ (hgZ) (by rw [hD.size]; kernel_rfl) (by rw [hD.size]; rfl) (hD.all) ?_; intro w1 hg1 hs1 ho1 hb1))
      exact bodyPost_ret (results_cell_any rfl _ _ _ _ _ _ rfl hg1 Try.underlying45 rfl (by rw [hD.size]; kernel_rfl)) rfl ⟨rfl, hb.trans (hb1 _ (by omega))⟩

set_option maxHeartbeats 1000000 in
theorem minus_any (A B : Array Value) (w : World) (hA : IsD A) (hB : IsD B) :
    Calls Try.prog 51 #[.agg A, .agg B] w fun e w' => e = .returned (.agg (mi A B 12)) ∧ Below w.heap.size w w' := by
  have HA := Lib.hid hA
  have HB := Lib.hid hB
  clear hA hB
  go_enter Try.func51, Try.ntmps51
  go_wp2_with (first | ((with_reducible refine at_alloc 45 ?_); refine wpList_alloc_named rfl 45 rfl (z12) (by kernel_rfl) ?_))
  go_loopg [5, 6] 12 (fun gh c i wr => ∃ k : Nat, k ≤ 12 ∧ gh = 12 - k ∧ c = .int .u64 (bw A B k) ∧ i = .int .i64 k ∧ wr.heap[w.heap.size]? = some (.cells (mi A B k) 45 (0, 0)) ∧
    wr.heap[w.heap.size + 1]? = some (.cells B 45 (0, 0)) ∧ wr.heap[w.heap.size + 2]? = some (.cells z12 45 (0, 0)) ∧ Below w.heap.size w wr)
  case atStart => exact ⟨0, by omega, by omega, rfl, rfl, by repeat (first | exact heap_new (by simp; done) | refine heap_up ?_), by repeat (first | exact heap_new (by simp; done) | refine heap_up ?_), by repeat (first | exact heap_new (by simp; done) | refine heap_up ?_), below_alloc (below_alloc (below_new _ _) _) _⟩
  case round =>
    obtain ⟨k, hk, rfl, rfl, rfl, hgA, hgB, hgZ, hb⟩ := hrel
    by_cases hlt : k < 12
    · obtain ⟨a0, a1, a2⟩ := HA.out.c k hlt
      obtain ⟨b0, b1, b2⟩ := HB.out.c k hlt
      have hcd := bw_bd HA.out HB.out k hk
      have ap := mi_later A B k k (Nat.le_refl _)
      rw [a0] at ap
      have HP := Lib.hid (show mi A B (k + 1) = (mi A B k).setIfInBounds k (.int .u64 ((65536 + N A k - N B k - bw A B k) % 65536)) from rfl)
      have HC := Lib.hid (show bw A B (k + 1) = 1 - (65536 + N A k - N B k - bw A B k) / 65536 from rfl)
      clear a0
      generalize bw A B k = c at *
      generalize N A k = x at *
      generalize N B k = y at *
      go_wp2
      refine wp_region_below (by kernel_rfl) (by kernel_rfl) ?_
      repeat (first | ((with_reducible apply q_skip); (case hw => rfl); (try simp only [Act.put, List.setIfInBounds_toArray, List.set_cons_zero, List.set_cons_succ])) | ((with_reducible apply q_val); (case hw => rfl); (case hv => intro wq hbq; have hcq := cellF (Ytanfhjfpdgjphaa.kept hbq hgA); have hcr := cellF (Ytanfhjfpdgjphaa.kept hbq hgB); go_simp; try rfl); (try simp only [Act.put, List.setIfInBounds_toArray, List.set_cons_zero, List.set_cons_succ])))
      refine q_nil ?_
      intro w4 hb4
      have hgA4 := Ytanfhjfpdgjphaa.kept hb4 hgA
      obtain ⟨c4, f4, _⟩ := cells_of hgA4
      go_wp2
      go_roundg (12 - (k + 1))
      case measure => omega
      case rel => exact ⟨k + 1, by omega, rfl, by rw [HC.out], by go_num, by rw [HP.out]; exact heap_set hgA4, heap_set_other (Ytanfhjfpdgjphaa.kept hb4 hgB) (by omega), heap_set_other (Ytanfhjfpdgjphaa.kept hb4 hgZ) (by omega),
        set_below (below_then hb hb4) (Nat.le_refl _)⟩
    · obtain rfl : k = 12 := by omega
      have hD := mi_D HA.out (B := B)
      have HE := Lib.hid (extract_all hD.size)
      go_wp2_with (first | ((with_reducible refine at_load 45 ?_); refine wpList_load_part rfl 45 _ rfl (w.heap.size) (0) rfl _ (mi A B 12) _ _ 12 (hgA) Try.underlying45 rfl (by kernel_rfl) (by rw [hD.size]; omega) (mi A B 12) (HE.out) ?_) | ((with_reducible refine at_store 45 ?_); refine wpList_store_over rfl 45 _ _ rfl (w.heap.size + 2) (mi A B 12) rfl rfl _ _ (hgZ) (by rw [hD.size]; kernel_rfl) (by rw [hD.size]; rfl) (hD.all) ?_; intro w1 hg1 hs1 ho1 hb1))
      exact bodyPost_ret (results_cell_any rfl _ _ _ _ _ _ rfl hg1 Try.underlying45 rfl (by rw [hD.size]; kernel_rfl)) rfl ⟨rfl, hb.trans (hb1 _ (by omega))⟩
end Go.Proofs.Ytanfhjfpdgjphaa
