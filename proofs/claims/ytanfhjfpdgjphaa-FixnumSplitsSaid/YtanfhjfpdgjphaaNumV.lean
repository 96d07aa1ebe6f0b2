/- The document's numbers: Zero, Plus, Minus, Int, told. Condition: each digit is one. -/
import Derived.Test.YtanfhjfpdgjphaaNumW
namespace Go.Proofs.Ytanfhjfpdgjphaa
set_option linter.unusedVariables false
set_option linter.unusedSimpArgs false
open Go.RowKit

theorem mapM_all {α β : Type} {f : α → Option β} {g : α → β} : ∀ l : List α, (∀ x ∈ l, f x = some (g x)) → l.mapM f = some (l.map g)
  | [], _ => rfl
  | x :: l, h => by rw [List.mapM_cons, h x (by simp), mapM_all l (fun y hy => h y (by simp [hy]))]; rfl
theorem kl_dig {D : Array Value} (h : IsD D) : Try.prog.keyLits 2 45 D.toList = some ((List.range 12).map fun i => Lit.int .u64 (N D i)) := by
  have c1 : Try.prog.cellsOf 38 = 1 := by kernel_rfl
  have c12 : Try.prog.cellsOf 45 = 12 := by kernel_rfl
  unfold Program.keyLits
  rw [Try.underlying45]
  simp only [c12, Array.length_toList, h.size, if_true]
  rw [mapM_all (g := fun i => [Lit.int .u64 (N D i)]) (List.range 12) (fun i hi => by
    have hi' := List.mem_range.1 hi
    obtain ⟨h1, h2, h3⟩ := h.c i hi'
    rw [c1, Nat.mul_one]
    have h1' : D.toList[i]? = some (.int .u64 (N D i)) := by rw [Array.getElem?_toList]; exact h1
    have hlt : i < D.toList.length := (List.getElem?_eq_some_iff.1 h1').1
    have e : (D.toList.drop i).take 1 = [.int .u64 (N D i)] := by
      rw [List.drop_eq_getElem_cons hlt, List.take_succ_cons, List.take_zero, (List.getElem?_eq_some_iff.1 h1').2]
    rw [e]
    unfold Program.keyLits
    rw [Try.underlying38]
    have hw : (Lit.int .u64 (N D i)).wf = true := WalkArith.wf_u64 ⟨h2, by omega⟩
    simp [hw])]
  rfl
theorem eq_dig {D : Array Value} (h : IsD D) (w : World) : (binOp .eql 45 (.agg D) (.agg z12)).run Try.prog w = .ok (.bool (decide (lv D 12 = 0))) w := by
  have c12 : Try.prog.cellsOf 45 = 12 := by kernel_rfl
  have hf : ∀ E : Array Value, E.size = 12 → (Value.agg E).formed Try.prog 45 = true := fun E hE => by
    simp [Value.formed, Try.underlying45, c12, hE]
  obtain ⟨r, h1, h2⟩ := run_equalIn_deep (P := Try.prog) 9998 2 45 (by kernel_rfl) w 2 2 (.agg D) (.agg z12) ((List.range 12).map fun i => Lit.int .u64 (N D i)) ((List.range 12).map fun i => Lit.int .u64 (N z12 i)) (hf D h.size) (hf z12 rfl) (kl_dig h) (kl_dig z12_D)
  rw [show (9998 + 2 : Nat) = 10000 from rfl] at h1
  rw [run_eql_struct, h1]
  have h3 : r = decide (lv D 12 = 0) := by
    rw [Bool.eq_iff_iff, h2, decide_eq_true_eq, lv_zero h]
    constructor
    · intro h4 j hj
      have h5 := congrArg (fun l => l[j]?) h4
      simp only [List.getElem?_map, List.getElem?_range hj, Option.map_some, Option.some.injEq, Lit.int.injEq, true_and] at h5
      rw [h5, z12_N]
    · intro h4
      apply List.map_congr_left
      intro i hi
      rw [h4 i (List.mem_range.1 hi), z12_N]
  rw [h3]
  rfl

set_option maxHeartbeats 1000000 in
theorem zero_any (s : Bool) (D : Array Value) (w : World) (hD : IsD D) :
    Calls Try.prog 47 #[.agg (nm s D)] w fun e w' => e = .returned (.bool (decide (lv D 12 = 0))) ∧ Below w.heap.size w w' := by
  have HE := Lib.hid (nm_ext (s := s) hD.size)
  have HS := Lib.hid (nm_size (s := s) hD.size)
  have heq := eq_dig hD
  have hgt : Try.prog.eqGuardType Try.prog.depth 45 = false := by kernel_rfl
  clear hD
  generalize decide (lv D 12 = 0) = b at *
  generalize hX : nm s D = X at *
  clear hX
  go_enter Try.func47, Try.ntmps47
  go_wp2_with (first | ((with_reducible refine at_load 45 ?_); refine wpList_load_part rfl 45 _ rfl (w.heap.size) (1) rfl _ (X) _ _ 12 (heap_alloc_new _ _) Try.underlying45 rfl (by kernel_rfl) (by rw [HS.out]; omega) (D) (HE.out) ?_) | ((with_reducible refine at_build 45 ?_); refine wpList_build_named rfl 45 _ rfl (z12) (by kernel_rfl) ?_))
  go_ret
  exact ⟨rfl, below_new _ _⟩

set_option maxHeartbeats 1000000 in
theorem neg_any (s : Bool) (D : Array Value) (w : World) (hD : IsD D) :
    Calls Try.prog 39 #[.agg (nm s D)] w fun e w' => e = .returned (.agg (nm (!s) D)) ∧ Below w.heap.size w w' := by
  have HE := Lib.hid (nm_ext (s := s) hD.size)
  have HS := Lib.hid (nm_size (s := s) hD.size)
  have HD := Lib.hid hD.size
  have n0 := nm_0 s D
  have HS2 := Lib.hid (nm_size (s := !s) hD.size)
  have HA2 := Lib.hid (nm_all (s := !s) hD)
  have HZs := Lib.hid (show (nm false z12).size = 13 from nm_size z12_D.size)
  clear hD
  generalize hX : nm s D = X at *
  clear hX
  go_enter Try.func39, Try.ntmps39
  go_wp2_with (first | ((with_reducible refine at_alloc 47 ?_); refine wpList_alloc_named rfl 47 rfl (nm false z12) (by kernel_rfl) ?_) | ((with_reducible refine at_load 45 ?_); refine wpList_load_part rfl 45 _ rfl (w.heap.size) (1) rfl _ (X) _ _ 12 (heap_alloc2_old _ _ _) Try.underlying45 rfl (by kernel_rfl) (by rw [HS.out]; omega) (D) (HE.out) ?_) | ((with_reducible refine at_buildP 47 ?_); refine wpList_build_num rfl _ _ rfl (!s) D rfl rfl HD.out ?_) | ((with_reducible refine at_store 47 ?_); refine wpList_store_over rfl 47 _ _ rfl (w.heap.size + 1) (nm (!s) D) rfl rfl _ _ (heap_alloc2_new _ _ _) (by rw [HS2.out]; kernel_rfl) (by rw [HS2.out]; exact HZs.out) (HA2.out) ?_; intro w1 hg1 hs1 ho1 hb1))
  exact bodyPost_ret (results_cell_any rfl _ _ _ _ _ _ rfl hg1 Try.underlying47 rfl (by rw [HS2.out]; kernel_rfl)) rfl ⟨rfl, (below_alloc (below_new _ _) _).trans (hb1 _ (by omega))⟩

/-- what Plus answers -/
def psS (s : Bool) (A : Array Value) (t : Bool) (B : Array Value) : Bool := if s = t then s else if lv A 12 < lv B 12 then t else s
def psD (s : Bool) (A : Array Value) (t : Bool) (B : Array Value) : Array Value := if s = t then pl A B 12 else if lv A 12 < lv B 12 then mi B A 12 else mi A B 12
theorem ps_D {s t : Bool} {A B : Array Value} (hA : IsD A) (hB : IsD B) : IsD (psD s A t B) := by
  unfold psD
  split
  · exact pl_D hA
  · split
    · exact mi_D hB
    · exact mi_D hA
theorem ps_val {s t : Bool} {A B : Array Value} (hA : IsD A) (hB : IsD B) (h : lv A 12 + lv B 12 < P16 12) :
    sv (psS s A t B) (psD s A t B) = sv s A + sv t B ∧ lv (psD s A t B) 12 ≤ lv A 12 + lv B 12 := by
  have a0 := (lv_bd hA 12 (by omega)).1
  have b0 := (lv_bd hB 12 (by omega)).1
  unfold psS psD sv
  by_cases e : s = t
  · subst e
    rw [if_pos rfl, if_pos rfl, pl_val hA hB h]
    cases s
    · simp
    · simp; omega
  · rw [if_neg e, if_neg e]
    by_cases hl : lv A 12 < lv B 12
    · rw [if_pos hl, if_pos hl, mi_val hB hA (by omega)]
      cases s <;> cases t <;> simp at e ⊢ <;> omega
    · rw [if_neg hl, if_neg hl, mi_val hA hB (by omega)]
      cases s <;> cases t <;> simp at e ⊢ <;> omega

theorem op_store_over {P : Program} {o : Oper} {a : Act} {w : World} {K : Act → World → Prop} {Q : Exit → Act → World → Prop} (ty : TypeId) (x y : Operand) (ho : o.op = .store ty x y)
    (g : Nat) (S : Array Value) (hx : a.eval x = .pointer (some ⟨g, 0, none⟩)) (hy : a.eval y = .agg S)
    (t : TypeId) (old : Array Value) (hg : w.heap[g]? = some (.cells old t (0, 0))) (hi : (P.info? ty).map (·.size) = some S.size)
    (hold : old.size = S.size) (h1 : S.all (·.oneCell') = true)
    (h : ∀ w1 : World, w1.heap[g]? = some (.cells S t (0, 0)) → (∀ B, B ≤ g → Below B w w1) → K (a.put o.dst undef) w1) : o.wp P a w K Q :=
  wp_store_row ty x y ho g S hx hy t old hg hi hold h1 (h _ (setRow_heap w g old S t _ hg)
    (fun B hB => ⟨rfl, rfl, rfl, Nat.le_of_eq (setRow_size _ _ _).symm, fun k hk => setRow_other w g k S (by omega)⟩))

set_option maxRecDepth 100000 in
set_option maxHeartbeats 2000000 in
theorem add_any (s t : Bool) (A B : Array Value) (w : World) (hA : IsD A) (hB : IsD B) :
    Calls Try.prog 38 #[.agg (nm s A), .agg (nm t B)] w fun e w' => e = .returned (.agg (nm (psS s A t B) (psD s A t B))) ∧ Below w.heap.size w w' := by
  by_cases e : s = t
  · have hst : (s == t) = true := by simpa using e
    obtain ⟨R, hRe⟩ : ∃ R, R = pl A B 12 := ⟨_, rfl⟩
    have hR : IsD R := by rw [hRe]; exact pl_D hA
    have HRS := Lib.hid (show psS s A t B = s by unfold psS; rw [if_pos e])
    have HRR := Lib.hid (show psD s A t B = R by unfold psD; rw [if_pos e, hRe])
    have cp := fun w => plus_any A B w hA hB
    rw [← hRe] at cp
    clear hRe e
    have HSX := Lib.hid (nm_size (s := s) hA.size)
    have HSY := Lib.hid (nm_size (s := t) hB.size)
    have HEX := Lib.hid (nm_ext (s := s) hA.size)
    have HEY := Lib.hid (nm_ext (s := t) hB.size)
    have HNs := Lib.hid (nm_size (s := s) hR.size)
    have HNa := Lib.hid (nm_all (s := s) hR)
    have HRs := Lib.hid hR.size
    have HZs := Lib.hid (show (nm false z12).size = 13 from nm_size z12_D.size)
    have n0 := nm_0 s A
    have m0 := nm_0 t B
    have HLS := Lib.hid (fun w => less_any A B w hA hB)
    clear hA hB hR
    generalize hX : nm s A = X at *
    generalize hY : nm t B = Y at *
    generalize hZ0 : nm false z12 = Z0 at *
    clear hX hY hZ0
    go_enter Try.func38, Try.ntmps38
    go_wp2_with (first | ((with_reducible refine at_alloc 47 ?_); refine wpList_alloc_named rfl 47 rfl (Z0) (by kernel_rfl) ?_))
    obtain ⟨w3, hw3⟩ : ∃ w3, w3 = ((w.alloc (.cells X 47)).alloc (.cells Y 47)).alloc (.cells Z0 47) := ⟨_, rfl⟩
    have hgX : w3.heap[w.heap.size]? = some (.cells X 47 (0, 0)) := by rw [hw3]; exact (by repeat (first | exact heap_new (by simp; done) | refine heap_up ?_))
    have hgY : w3.heap[w.heap.size + 1]? = some (.cells Y 47 (0, 0)) := by rw [hw3]; exact (by repeat (first | exact heap_new (by simp; done) | refine heap_up ?_))
    have hgZ : w3.heap[w.heap.size + 2]? = some (.cells Z0 47 (0, 0)) := by rw [hw3]; exact (by repeat (first | exact heap_new (by simp; done) | refine heap_up ?_))
    have hb0 : Below w.heap.size w w3 := by rw [hw3]; exact below_alloc (below_alloc (below_new _ _) _) _
    rw [← hw3]
    clear hw3
    refine wp_region_tail 8 (by kernel_rfl) (by kernel_rfl) (by kernel_rfl) (by kernel_rfl) rfl rfl (by kernel_rfl) (by kernel_rfl) ?_
    simp only [List.take, List.getD, List.getElem?_cons_succ, List.getElem?_cons_zero, Option.getD]
    repeat (first | ((with_reducible apply q_skip); (case hw => rfl); (try simp only [Act.put, List.setIfInBounds_toArray, List.set_cons_zero, List.set_cons_succ])) | ((with_reducible refine at_qload 45 ?_); refine q_load_part (by rfl) 45 _ rfl (w.heap.size) (1) rfl _ (X) _ 12 (hgX) Try.underlying45 rfl (by kernel_rfl) (by rw [HSX.out]; omega) (A) (HEX.out) ?_; try simp only [Act.put, List.setIfInBounds_toArray, List.set_cons_zero, List.set_cons_succ]) | ((with_reducible refine at_qload 45 ?_); refine q_load_part (by rfl) 45 _ rfl (w.heap.size + 1) (1) rfl _ (Y) _ 12 (hgY) Try.underlying45 rfl (by kernel_rfl) (by rw [HSY.out]; omega) (B) (HEY.out) ?_; try simp only [Act.put, List.setIfInBounds_toArray, List.set_cons_zero, List.set_cons_succ]) | ((with_reducible refine at_qcall 52 ?_); refine q_call_below _ 52 _ (by rfl) (cp) (fun wq hbq => by go_simp) ?_; try simp only [Act.put, List.setIfInBounds_toArray, List.set_cons_zero, List.set_cons_succ]) | ((with_reducible refine at_qcall 51 ?_); refine q_call_below _ 51 _ (by rfl) (cp) (fun wq hbq => by go_simp) ?_; try simp only [Act.put, List.setIfInBounds_toArray, List.set_cons_zero, List.set_cons_succ]) | ((with_reducible refine at_qbuild 47 ?_); refine q_build_num (by rfl) _ _ rfl s R rfl rfl HRs.out ?_; try simp only [Act.put, List.setIfInBounds_toArray, List.set_cons_zero, List.set_cons_succ]) | ((with_reducible apply q_val); (case hw => rfl); (case hv => intro wq hbq; have hcq := cellF (Ytanfhjfpdgjphaa.kept hbq hgX); have hcr := cellF (Ytanfhjfpdgjphaa.kept hbq hgY); go_simp; try rfl); (try simp only [Act.put, List.setIfInBounds_toArray, List.set_cons_zero, List.set_cons_succ])))
    refine q_nil ?_
    intro w4 hb4
    have hgZ4 := Ytanfhjfpdgjphaa.kept hb4 hgZ
    have hs0 := hb0.size
    have hs4 := hb4.size
    refine op_store_over 47 _ _ rfl (w.heap.size + 2) (nm s R) rfl rfl 47 Z0 hgZ4 (by rw [HNs.out]; kernel_rfl) (by rw [HNs.out]; exact HZs.out) HNa.out ?_
    intro w5 hg5 hb5
    go_wp2
    exact bodyPost_ret (results_cell_any rfl _ _ _ _ _ _ rfl hg5 Try.underlying47 rfl (by rw [HNs.out]; kernel_rfl)) rfl ⟨by rw [HRS.out, HRR.out], (below_then hb0 hb4).trans (hb5 _ (by omega))⟩
  · have hst : (s == t) = false := by simpa using e
    by_cases hl : lv A 12 < lv B 12
    · have hld : decide (lv A 12 < lv B 12) = true := by simpa using hl
      obtain ⟨R, hRe⟩ : ∃ R, R = mi B A 12 := ⟨_, rfl⟩
      have hR : IsD R := by rw [hRe]; exact mi_D hB
      have HRS := Lib.hid (show psS s A t B = t by unfold psS; rw [if_neg e, if_pos hl])
      have HRR := Lib.hid (show psD s A t B = R by unfold psD; rw [if_neg e, if_pos hl, hRe])
      have cp := fun w => minus_any B A w hB hA
      rw [← hRe] at cp
      have HLD := Lib.hid hld
      clear hRe e hl hld
      have HSX := Lib.hid (nm_size (s := s) hA.size)
      have HSY := Lib.hid (nm_size (s := t) hB.size)
      have HEX := Lib.hid (nm_ext (s := s) hA.size)
      have HEY := Lib.hid (nm_ext (s := t) hB.size)
      have HNs := Lib.hid (nm_size (s := t) hR.size)
      have HNa := Lib.hid (nm_all (s := t) hR)
      have HRs := Lib.hid hR.size
      have HZs := Lib.hid (show (nm false z12).size = 13 from nm_size z12_D.size)
      have n0 := nm_0 s A
      have m0 := nm_0 t B
      have HLS := Lib.hid (fun w => less_any A B w hA hB)
      clear hA hB hR
      generalize hX : nm s A = X at *
      generalize hY : nm t B = Y at *
      generalize hZ0 : nm false z12 = Z0 at *
      clear hX hY hZ0
      go_enter Try.func38, Try.ntmps38
      go_wp2_with (first | ((with_reducible refine at_alloc 47 ?_); refine wpList_alloc_named rfl 47 rfl (Z0) (by kernel_rfl) ?_) | ((with_reducible refine at_load 45 ?_); refine wpList_load_part rfl 45 _ rfl (w.heap.size) (1) rfl _ (X) _ _ 12 (by repeat (first | exact heap_new (by simp; done) | refine heap_up ?_)) Try.underlying45 rfl (by kernel_rfl) (by rw [HSX.out]; omega) (A) (HEX.out) ?_) | ((with_reducible refine at_load 45 ?_); refine wpList_load_part rfl 45 _ rfl (w.heap.size + 1) (1) rfl _ (Y) _ _ 12 (by repeat (first | exact heap_new (by simp; done) | refine heap_up ?_)) Try.underlying45 rfl (by kernel_rfl) (by rw [HSY.out]; omega) (B) (HEY.out) ?_) | (go_at_call 48; (with_reducible refine (HLS.out _).mono ?_); rintro e w3 ⟨rfl, hb3⟩; rw [HLD.out]; have hgX := kept (g := w.heap.size) (o := .cells X 47) hb3 (by repeat (first | exact heap_new (by simp; done) | refine heap_up ?_)); have hgY := kept (g := w.heap.size + 1) (o := .cells Y 47) hb3 (by repeat (first | exact heap_new (by simp; done) | refine heap_up ?_)); have hgZ := kept (g := w.heap.size + 2) (o := .cells Z0 47) hb3 (by repeat (first | exact heap_new (by simp; done) | refine heap_up ?_)); have hb0 := below_then (below_alloc (below_alloc (below_new w _) _) _) hb3))
      refine wp_region_tail 8 (by kernel_rfl) (by kernel_rfl) (by kernel_rfl) (by kernel_rfl) rfl rfl (by kernel_rfl) (by kernel_rfl) ?_
      simp only [List.take, List.getD, List.getElem?_cons_succ, List.getElem?_cons_zero, Option.getD]
      repeat (first | ((with_reducible apply q_skip); (case hw => rfl); (try simp only [Act.put, List.setIfInBounds_toArray, List.set_cons_zero, List.set_cons_succ])) | ((with_reducible refine at_qload 45 ?_); refine q_load_part (by rfl) 45 _ rfl (w.heap.size) (1) rfl _ (X) _ 12 (hgX) Try.underlying45 rfl (by kernel_rfl) (by rw [HSX.out]; omega) (A) (HEX.out) ?_; try simp only [Act.put, List.setIfInBounds_toArray, List.set_cons_zero, List.set_cons_succ]) | ((with_reducible refine at_qload 45 ?_); refine q_load_part (by rfl) 45 _ rfl (w.heap.size + 1) (1) rfl _ (Y) _ 12 (hgY) Try.underlying45 rfl (by kernel_rfl) (by rw [HSY.out]; omega) (B) (HEY.out) ?_; try simp only [Act.put, List.setIfInBounds_toArray, List.set_cons_zero, List.set_cons_succ]) | ((with_reducible refine at_qcall 52 ?_); refine q_call_below _ 52 _ (by rfl) (cp) (fun wq hbq => by go_simp) ?_; try simp only [Act.put, List.setIfInBounds_toArray, List.set_cons_zero, List.set_cons_succ]) | ((with_reducible refine at_qcall 51 ?_); refine q_call_below _ 51 _ (by rfl) (cp) (fun wq hbq => by go_simp) ?_; try simp only [Act.put, List.setIfInBounds_toArray, List.set_cons_zero, List.set_cons_succ]) | ((with_reducible refine at_qbuild 47 ?_); refine q_build_num (by rfl) _ _ rfl t R rfl rfl HRs.out ?_; try simp only [Act.put, List.setIfInBounds_toArray, List.set_cons_zero, List.set_cons_succ]) | ((with_reducible apply q_val); (case hw => rfl); (case hv => intro wq hbq; have hcq := cellF (Ytanfhjfpdgjphaa.kept hbq hgX); have hcr := cellF (Ytanfhjfpdgjphaa.kept hbq hgY); go_simp; try rfl); (try simp only [Act.put, List.setIfInBounds_toArray, List.set_cons_zero, List.set_cons_succ])))
      refine q_nil ?_
      intro w4 hb4
      have hgZ4 := Ytanfhjfpdgjphaa.kept hb4 hgZ
      have hs0 := hb0.size
      have hs4 := hb4.size
      refine op_store_over 47 _ _ rfl (w.heap.size + 2) (nm t R) rfl rfl 47 Z0 hgZ4 (by rw [HNs.out]; kernel_rfl) (by rw [HNs.out]; exact HZs.out) HNa.out ?_
      intro w5 hg5 hb5
      go_wp2
      exact bodyPost_ret (results_cell_any rfl _ _ _ _ _ _ rfl hg5 Try.underlying47 rfl (by rw [HNs.out]; kernel_rfl)) rfl ⟨by rw [HRS.out, HRR.out], (below_then hb0 hb4).trans (hb5 _ (by omega))⟩
    · have hld : decide (lv A 12 < lv B 12) = false := by simpa using hl
      obtain ⟨R, hRe⟩ : ∃ R, R = mi A B 12 := ⟨_, rfl⟩
      have hR : IsD R := by rw [hRe]; exact mi_D hA
      have HRS := Lib.hid (show psS s A t B = s by unfold psS; rw [if_neg e, if_neg hl])
      have HRR := Lib.hid (show psD s A t B = R by unfold psD; rw [if_neg e, if_neg hl, hRe])
      have cp := fun w => minus_any A B w hA hB
      rw [← hRe] at cp
      have HLD := Lib.hid hld
      clear hRe e hl hld
      have HSX := Lib.hid (nm_size (s := s) hA.size)
      have HSY := Lib.hid (nm_size (s := t) hB.size)
      have HEX := Lib.hid (nm_ext (s := s) hA.size)
      have HEY := Lib.hid (nm_ext (s := t) hB.size)
      have HNs := Lib.hid (nm_size (s := s) hR.size)
      have HNa := Lib.hid (nm_all (s := s) hR)
      have HRs := Lib.hid hR.size
      have HZs := Lib.hid (show (nm false z12).size = 13 from nm_size z12_D.size)
      have n0 := nm_0 s A
      have m0 := nm_0 t B
      have HLS := Lib.hid (fun w => less_any A B w hA hB)
      clear hA hB hR
      generalize hX : nm s A = X at *
      generalize hY : nm t B = Y at *
      generalize hZ0 : nm false z12 = Z0 at *
      clear hX hY hZ0
      go_enter Try.func38, Try.ntmps38
      go_wp2_with (first | ((with_reducible refine at_alloc 47 ?_); refine wpList_alloc_named rfl 47 rfl (Z0) (by kernel_rfl) ?_) | ((with_reducible refine at_load 45 ?_); refine wpList_load_part rfl 45 _ rfl (w.heap.size) (1) rfl _ (X) _ _ 12 (by repeat (first | exact heap_new (by simp; done) | refine heap_up ?_)) Try.underlying45 rfl (by kernel_rfl) (by rw [HSX.out]; omega) (A) (HEX.out) ?_) | ((with_reducible refine at_load 45 ?_); refine wpList_load_part rfl 45 _ rfl (w.heap.size + 1) (1) rfl _ (Y) _ _ 12 (by repeat (first | exact heap_new (by simp; done) | refine heap_up ?_)) Try.underlying45 rfl (by kernel_rfl) (by rw [HSY.out]; omega) (B) (HEY.out) ?_) | (go_at_call 48; (with_reducible refine (HLS.out _).mono ?_); rintro e w3 ⟨rfl, hb3⟩; rw [HLD.out]; have hgX := kept (g := w.heap.size) (o := .cells X 47) hb3 (by repeat (first | exact heap_new (by simp; done) | refine heap_up ?_)); have hgY := kept (g := w.heap.size + 1) (o := .cells Y 47) hb3 (by repeat (first | exact heap_new (by simp; done) | refine heap_up ?_)); have hgZ := kept (g := w.heap.size + 2) (o := .cells Z0 47) hb3 (by repeat (first | exact heap_new (by simp; done) | refine heap_up ?_)); have hb0 := below_then (below_alloc (below_alloc (below_new w _) _) _) hb3))
      refine wp_region_tail 8 (by kernel_rfl) (by kernel_rfl) (by kernel_rfl) (by kernel_rfl) rfl rfl (by kernel_rfl) (by kernel_rfl) ?_
      simp only [List.take, List.getD, List.getElem?_cons_succ, List.getElem?_cons_zero, Option.getD]
      repeat (first | ((with_reducible apply q_skip); (case hw => rfl); (try simp only [Act.put, List.setIfInBounds_toArray, List.set_cons_zero, List.set_cons_succ])) | ((with_reducible refine at_qload 45 ?_); refine q_load_part (by rfl) 45 _ rfl (w.heap.size) (1) rfl _ (X) _ 12 (hgX) Try.underlying45 rfl (by kernel_rfl) (by rw [HSX.out]; omega) (A) (HEX.out) ?_; try simp only [Act.put, List.setIfInBounds_toArray, List.set_cons_zero, List.set_cons_succ]) | ((with_reducible refine at_qload 45 ?_); refine q_load_part (by rfl) 45 _ rfl (w.heap.size + 1) (1) rfl _ (Y) _ 12 (hgY) Try.underlying45 rfl (by kernel_rfl) (by rw [HSY.out]; omega) (B) (HEY.out) ?_; try simp only [Act.put, List.setIfInBounds_toArray, List.set_cons_zero, List.set_cons_succ]) | ((with_reducible refine at_qcall 52 ?_); refine q_call_below _ 52 _ (by rfl) (cp) (fun wq hbq => by go_simp) ?_; try simp only [Act.put, List.setIfInBounds_toArray, List.set_cons_zero, List.set_cons_succ]) | ((with_reducible refine at_qcall 51 ?_); refine q_call_below _ 51 _ (by rfl) (cp) (fun wq hbq => by go_simp) ?_; try simp only [Act.put, List.setIfInBounds_toArray, List.set_cons_zero, List.set_cons_succ]) | ((with_reducible refine at_qbuild 47 ?_); refine q_build_num (by rfl) _ _ rfl s R rfl rfl HRs.out ?_; try simp only [Act.put, List.setIfInBounds_toArray, List.set_cons_zero, List.set_cons_succ]) | ((with_reducible apply q_val); (case hw => rfl); (case hv => intro wq hbq; have hcq := cellF (Ytanfhjfpdgjphaa.kept hbq hgX); have hcr := cellF (Ytanfhjfpdgjphaa.kept hbq hgY); go_simp; try rfl); (try simp only [Act.put, List.setIfInBounds_toArray, List.set_cons_zero, List.set_cons_succ])))
      refine q_nil ?_
      intro w4 hb4
      have hgZ4 := Ytanfhjfpdgjphaa.kept hb4 hgZ
      have hs0 := hb0.size
      have hs4 := hb4.size
      refine op_store_over 47 _ _ rfl (w.heap.size + 2) (nm s R) rfl rfl 47 Z0 hgZ4 (by rw [HNs.out]; kernel_rfl) (by rw [HNs.out]; exact HZs.out) HNa.out ?_
      intro w5 hg5 hb5
      go_wp2
      exact bodyPost_ret (results_cell_any rfl _ _ _ _ _ _ rfl hg5 Try.underlying47 rfl (by rw [HNs.out]; kernel_rfl)) rfl ⟨by rw [HRS.out, HRR.out], (below_then hb0 hb4).trans (hb5 _ (by omega))⟩
end Go.Proofs.Ytanfhjfpdgjphaa
