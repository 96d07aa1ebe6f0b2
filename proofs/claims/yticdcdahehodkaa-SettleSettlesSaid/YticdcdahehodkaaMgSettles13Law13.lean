/- Texts that Settles13Law stands on, one behind the other, part 13. Conditions: each theorem names its own. -/
import Derived.Test.YticdcdahehodkaaMgSettles13Law12
/-! The document's numbers: the quotient, rounded down, and the rest, bit by bit. Condition: each digit is one; the divisor is not 0 and less than half of what twelve digits hold. -/
namespace Go.Proofs.Yticdcdahehodkaa
set_option linter.unusedVariables false
set_option linter.unusedSimpArgs false
open Go.RowKit

theorem ediv_by (a c : Int) {b : Int} (hb : 0 ≤ b) : a / (b * c) = a / b / c := by
  rw [Int.ediv_ediv, if_neg (by omega)]
  simp
/-- what is left behind j bits, one bit -/
def up (A : Array Value) (j : Nat) : Int := lv A 12 / ((2 ^ j : Nat) : Int)
def bt (A : Array Value) (j : Nat) : Int := up A j % 2
theorem up_s (A : Array Value) (j : Nat) : up A j = 2 * up A (j + 1) + bt A j := by
  unfold bt up
  rw [Nat.pow_succ]
  have : ((2 ^ j * 2 : Nat) : Int) = ((2 ^ j : Nat) : Int) * 2 := by simp
  rw [this, ediv_by _ _ (Int.natCast_nonneg _)]
  omega
theorem bt_bd (A : Array Value) (j : Nat) : 0 ≤ bt A j ∧ bt A j ≤ 1 := by unfold bt; omega
theorem P16_2 (k : Nat) : P16 k = ((2 ^ (16 * k) : Nat) : Int) := by
  unfold P16
  rw [Nat.pow_mul]
theorem up_top {A : Array Value} (hA : IsD A) : up A 192 = 0 := by
  have h := lv_bd hA 12 (by omega)
  unfold up
  rw [P16_2] at h
  exact Int.ediv_eq_zero_of_lt h.1 h.2
theorem up_nn {A : Array Value} (hA : IsD A) (j : Nat) : 0 ≤ up A j := by
  have h := lv_bd hA 12 (by omega)
  exact Int.ediv_nonneg h.1 (Int.natCast_nonneg _)
theorem up_0 (A : Array Value) : up A 0 = lv A 12 := by unfold up; simp
theorem up_le {A : Array Value} (hA : IsD A) (j : Nat) : up A j ≤ lv A 12 := by
  have h := lv_bd hA 12 (by omega)
  unfold up
  exact Int.ediv_le_self _ h.1
theorem bt_digit {A : Array Value} (hA : IsD A) {j : Nat} (hj : j < 192) : bt A j = N A (j / 16) / ((2 ^ (j % 16) : Nat) : Int) % 2 := by
  obtain ⟨m, s, hs, rfl⟩ : ∃ m s, s < 16 ∧ j = 16 * m + s := ⟨j / 16, j % 16, by omega, by omega⟩
  have e1 : (16 * m + s) / 16 = m := by omega
  have e2 : (16 * m + s) % 16 = s := by omega
  rw [e1, e2]
  unfold bt up
  rw [Nat.pow_add]
  have e3 : ((2 ^ (16 * m) * 2 ^ s : Nat) : Int) = P16 m * ((2 ^ s : Nat) : Int) := by rw [P16_2]; simp
  rw [e3, ediv_by _ _ (by have := P16_pos m; omega)]
  obtain ⟨u, hu⟩ := lv_split A (m + 1) (12 - (m + 1))
  rw [show m + 1 + (12 - (m + 1)) = 12 by omega, show lv A (m + 1) = lv A m + N A m * P16 m from rfl, P16_s] at hu
  have hb := lv_bd hA m (by omega)
  have hp := P16_pos m
  have e4 : lv A 12 / P16 m = N A m + 65536 * u := by
    rw [hu, show lv A m + N A m * P16 m + 65536 * P16 m * u = lv A m + (N A m + 65536 * u) * P16 m by grind, Int.add_mul_ediv_right _ _ (by omega), Int.ediv_eq_zero_of_lt hb.1 hb.2]
    omega
  rw [e4]
  have h16 : s = 0 ∨ s = 1 ∨ s = 2 ∨ s = 3 ∨ s = 4 ∨ s = 5 ∨ s = 6 ∨ s = 7 ∨ s = 8 ∨ s = 9 ∨ s = 10 ∨ s = 11 ∨ s = 12 ∨ s = 13 ∨ s = 14 ∨ s = 15 := by omega
  clear hj e1 e2 e3 hs hu hb hp e4
  generalize N A m = n
  rcases h16 with rfl | rfl | rfl | rfl | rfl | rfl | rfl | rfl | rfl | rfl | rfl | rfl | rfl | rfl | rfl | rfl <;> simp <;> omega
theorem sh_00 (A : Array Value) (hA : IsD A) : ∀ k, N (sh A 0 (k + 1)) 0 = 2 * N A 0 % 65536
  | 0 => by
    unfold sh
    rw [N_seti (by rw [(sh_Dk hA 0).size]; decide)]
    simp [bc]
  | k + 1 => by
    rw [← sh_00 A hA k]
    conv => lhs; unfold sh
    rw [N_setj (by omega)]
theorem sh_0 (A : Array Value) (hA : IsD A) : N (sh A 0 12) 0 ≤ 65534 := by
  rw [sh_00 A hA 11]
  omega
/-- one round -/
theorem over_step {A B Q R : Array Value} {j : Nat} (hA : IsD A) (hQ : IsD Q) (hR : IsD R) (hB : IsD B) (h0 : 0 < lv B 12) (h2 : 2 * lv B 12 ≤ P16 12)
    (hv : lv Q 12 * lv B 12 + lv R 12 = up A (j + 1)) (hr : lv R 12 < lv B 12) :
    lv (sh R (bt A j) 12) 12 = 2 * lv R 12 + bt A j ∧ lv (sh Q 0 12) 12 = 2 * lv Q 12 := by
  have hb := bt_bd A j
  have r0 := (lv_bd hR 12 (by omega)).1
  have q0 := (lv_bd hQ 12 (by omega)).1
  refine ⟨sh_val hR hb (by omega), ?_⟩
  have hx := lv_bd hA 12 (by omega)
  have h3 := up_s A j
  have h4 := up_le hA j
  have h5 : lv Q 12 ≤ lv Q 12 * lv B 12 := by
    have := Int.mul_le_mul_of_nonneg_left (show 1 ≤ lv B 12 by omega) q0
    rwa [Int.mul_one] at this
  rw [sh_val hQ (by omega) (by omega)]
  omega

/-- the rest's sizes, as the loop has them -/
structure Ov (A B Q R : Array Value) (j : Nat) : Prop where
  q : IsD Q
  r : IsD R
  v : lv Q 12 * lv B 12 + lv R 12 = up A j
  l : lv R 12 < lv B 12
def rQ (Q R B : Array Value) : Array Value := if lv R 12 < lv B 12 then Q else Q.setIfInBounds 0 (.int .u64 (N Q 0 + 1))
def rR (R B : Array Value) : Array Value := if lv R 12 < lv B 12 then R else mi R B 12
theorem Ov.go {A B Q R : Array Value} {j : Nat} (h : Ov A B Q R (j + 1)) (hA : IsD A) (hB : IsD B) (h0 : 0 < lv B 12) (h2 : 2 * lv B 12 ≤ P16 12) :
    Ov A B (rQ (sh Q 0 12) (sh R (bt A j) 12) B) (rR (sh R (bt A j) 12) B) j := by
  obtain ⟨e1, e2⟩ := over_step hA h.q h.r hB h0 h2 h.v h.l
  have hR := sh_Dk (b := bt A j) h.r 12
  have hQ := sh_Dk (b := 0) h.q 12
  have hl := h.l
  have hv := h.v
  have hu := up_s A j
  have hb := bt_bd A j
  unfold rQ rR
  by_cases hlt : lv (sh R (bt A j) 12) 12 < lv B 12
  · rw [if_pos hlt, if_pos hlt]
    refine ⟨hQ, hR, ?_, hlt⟩
    rw [e1, e2, Int.mul_assoc]
    omega
  · rw [if_neg hlt, if_neg hlt]
    have s0 := sh_0 Q h.q
    have s1 := (hQ.c 0 (by omega)).2.1
    have hmv := mi_val hR hB (by omega)
    refine ⟨hQ.set (by omega), mi_D hR, ?_, by rw [hmv]; omega⟩
    rw [lv_upd hQ (by omega) 12 (by omega), if_pos (by omega), hmv, e1, e2, show P16 0 = 1 from by decide]
    have e3 : (2 * lv Q 12 + (N (sh Q 0 12) 0 + 1 - N (sh Q 0 12) 0) * 1) * lv B 12 = 2 * (lv Q 12 * lv B 12) + lv B 12 := by grind
    rw [e3]
    omega

theorem lv_z : lv z12 12 = 0 := by decide
theorem up_start {A : Array Value} (hA : IsD A) {B : Array Value} (h0 : 0 < lv B 12) : Ov A B z12 z12 192 :=
  ⟨z12_D, z12_D, by rw [up_top hA, lv_z]; simp, by rw [lv_z]; exact h0⟩
theorem op_load_whole {P : Program} {o : Oper} {a : Act} {w : World} {K : Act → World → Prop} {Q : Exit → Act → World → Prop} (ty : TypeId) (x : Operand) (ho : o.op = .load ty x)
    (g : Nat) (hx : a.eval x = .pointer (some ⟨g, 0, none⟩)) (t : TypeId) (cs : Array Value) (fr : Nat × Nat) (d : TypeDesc) (n : Nat) (hg : w.heap[g]? = some (.cells cs t fr))
    (hu : P.underlying ty = some d) (hd : (match d with | .struct _ | .array _ _ => true | _ => false) = true) (hi : (P.info? ty).map (·.size) = some n) (hn : cs.size = n)
    (h : K (a.put o.dst (.agg cs)) w) : o.wp P a w K Q :=
  wp_load_part ty x ho g 0 hx t cs fr d n hg hu hd hi (by omega) (by rw [show cs.extract 0 (0 + n) = cs by rw [Nat.zero_add]; exact extract_all hn]; exact h)
theorem post_cell_cell {fn : Func} {P : Program} {p q : Tmp} {ty : TypeId} {R : Ending → World → Prop} {a : Act} {w : World} {g g2 : Nat} {t t2 : TypeId} {cs cs2 : Array Value} {d : TypeDesc} (h : fn.results = #[.cell p ty, .cell q ty])
    (hp : a.tmps.getD p undef = .pointer (some ⟨g, 0, none⟩)) (hq : a.tmps.getD q undef = .pointer (some ⟨g2, 0, none⟩)) (hd0 : a.defers = []) (hg : w.heap[g]? = some (.cells cs t (0, 0))) (hg2 : w.heap[g2]? = some (.cells cs2 t2 (0, 0)))
    (hu : P.underlying ty = some d) (hd : (match d with | .struct _ | .array _ _ => true | _ => false) = true) (hi : (P.info? ty).map (·.size) = some cs.size) (hi2 : (P.info? ty).map (·.size) = some cs2.size) (hR : R (.returned (.tuple #[.agg cs, .agg cs2])) w) : bodyPost P fn R .ret a w := by
  refine bodyPost_ret (v := .tuple #[.agg cs, .agg cs2]) ?_ hd0 hR
  have hp' : a.tmps[p]?.getD undef = .pointer (some ⟨g, 0, none⟩) := by simpa using hp
  have hq' : a.tmps[q]?.getD undef = .pointer (some ⟨g2, 0, none⟩) := by simpa using hq
  simp [results, h, hp', hq', asAddr, run_loadVar_row w g t ty cs (0, 0) d hg hu hd hi, run_loadVar_row w g2 t2 ty cs2 (0, 0) d hg2 hu hd hi2]
/-- what Over answers -/
def OvRes (s t : Bool) (A B : Array Value) (e : Ending) : Prop :=
  ∃ (S : Bool) (C Q R : Array Value), e = .returned (.tuple #[.agg (nm S C), .agg (nm false R)]) ∧ IsD C ∧ Ov A B Q R 0 ∧ (S, C) = (if (s != t) = true ∧ lv R 12 ≠ 0 then (psS true Q (oS (-1)) (oV (-1)), psD true Q (oS (-1)) (oV (-1))) else (s != t, Q))
set_option maxRecDepth 100000 in
set_option maxHeartbeats 2000000 in
theorem over_any (s t : Bool) (A B : Array Value) (w : World) (hA : IsD A) (hB : IsD B) (h0 : 0 < lv B 12) (h2 : 2 * lv B 12 ≤ P16 12) :
    Calls Try.prog 40 #[.agg (nm s A), .agg (nm t B)] w fun e w' =>
      OvRes s t A B e ∧ Below w.heap.size w w' := by
  have HA := Lib.hid hA
  have HB := Lib.hid hB
  have H0 := Lib.hid h0
  have H2 := Lib.hid h2
  have n0 := nm_0 s A
  have m0 := nm_0 t B
  have HNX := Lib.hid (fun i => nm_at s A i)
  have HEY := Lib.hid (nm_ext (s := t) hB.size)
  have HSX := Lib.hid (nm_size (s := s) hA.size)
  have HSY := Lib.hid (nm_size (s := t) hB.size)
  have HZs := Lib.hid (show (nm false z12).size = 13 from nm_size z12_D.size)
  clear hA hB h0 h2
  generalize hX : nm s A = X at *
  generalize hY : nm t B = Y at *
  generalize hZ0 : nm false z12 = Z0 at *
  clear hX hY
  have HZ0 := Lib.hid hZ0
  clear hZ0
  go_enter Try.func40, Try.ntmps40
  go_wp2_with (first | ((with_reducible refine at_alloc 58 ?_); refine wpList_alloc_named rfl 58 rfl (Z0) (by kernel_rfl) ?_) | ((with_reducible refine at_alloc 56 ?_); refine wpList_alloc_named rfl 56 rfl (z12) (by kernel_rfl) ?_))
  go_loopg [8] 192 (fun gh i wr => ∃ (k : Nat) (v : Int) (Q R : Array Value), k ≤ 192 ∧ k = gh ∧ i = .int .i64 v ∧ v = (k : Int) - 1 ∧ Ov A B Q R k ∧ wr.heap[w.heap.size]? = some (.cells X 58 (0, 0)) ∧
    wr.heap[w.heap.size + 1]? = some (.cells Y 58 (0, 0)) ∧ wr.heap[w.heap.size + 2]? = some (.cells Z0 58 (0, 0)) ∧ wr.heap[w.heap.size + 3]? = some (.cells Z0 58 (0, 0)) ∧
    wr.heap[w.heap.size + 4]? = some (.cells Q 56 (0, 0)) ∧ wr.heap[w.heap.size + 5]? = some (.cells R 56 (0, 0)) ∧ Below w.heap.size w wr)
  case atStart => exact ⟨192, 191, z12, z12, by omega, rfl, rfl, by omega, up_start HA.out H0.out, heap_up (heap_up (heap_up (heap_up (heap_up (heap_alloc_new _ _))))), heap_up (heap_up (heap_up (heap_up (heap_new (by simp))))), heap_up (heap_up (heap_up (heap_new (by simp)))), heap_up (heap_up (heap_new (by simp))), heap_up (heap_new (by simp)), heap_new (by simp), below_alloc (below_alloc (below_alloc (below_alloc (below_alloc (below_new _ _) _) _) _) _) _⟩
  case round =>
    obtain ⟨k, v, Q, R, hk, hgk, rfl, hv, hov, hgX, hgY, hgO, hgP, hgQ, hgR, hb⟩ := hrel
    subst hgk
    have HO := Lib.hid hov
    clear hov
    cases k with
    | zero =>
      obtain rfl : v = -1 := by omega
      clear hv
      obtain ⟨bx, hbx⟩ : ∃ bx, (s != t) = bx := ⟨_, rfl⟩
      have hbe : (s == t) = !bx := by rw [← hbx]; cases s <;> cases t <;> rfl
      have HBX := Lib.hid hbx
      clear hbx
      have hRD := HO.out.r
      have hQD := HO.out.q
      have HRs := Lib.hid hRD.size
      have HQs := Lib.hid hQD.size
      have HRE := Lib.hid (extract_all hRD.size)
      have HQE := Lib.hid (extract_all hQD.size)
      have H9s := Lib.hid (nm_size (s := false) hRD.size)
      have H9a := Lib.hid (nm_all (s := false) hRD)
      have H10s := Lib.hid (nm_size (s := bx) hQD.size)
      have H10a := Lib.hid (nm_all (s := bx) hQD)
      have n10 := nm_0 bx Q
      have cz := fun w => zero_any false R w hRD
      have HRD := Lib.hid hRD
      have HQD := Lib.hid hQD
      clear hRD hQD
      have hgX9 := heap_up (o := Obj.cells (nm false R) 58) hgX
      have hgY9 := heap_up (o := Obj.cells (nm false R) 58) hgY
      have hgQ9 := heap_up (o := Obj.cells (nm false R) 58) hgQ
      have hg9 := heap_up (o := Obj.cells (nm bx Q) 58) (heap_alloc_new wr (Obj.cells (nm false R) 58))
      have hg10 := heap_alloc2_new wr (Obj.cells (nm false R) 58) (Obj.cells (nm bx Q) 58)
      obtain ⟨cX9, _, _⟩ := cells_of hgX9
      obtain ⟨cY9, _, _⟩ := cells_of hgY9
      obtain ⟨c10, _, _⟩ := cells_of hg10
      have hgOA := heap_up (o := Obj.cells (nm bx Q) 58) (heap_up (o := Obj.cells (nm false R) 58) hgO)
      have hgPA := heap_up (o := Obj.cells (nm bx Q) 58) (heap_up (o := Obj.cells (nm false R) 58) hgP)
      have hBA := below_alloc (below_alloc hb (Obj.cells (nm false R) 58)) (Obj.cells (nm bx Q) 58)
      cases bx
      · change (s == t) = true at hbe
        go_wp2_with (first | ((with_reducible refine at_load 56 ?_); refine wpList_load_part rfl 56 _ rfl (w.heap.size + 5) (0) rfl _ (R) _ _ 12 (hgR) Try.underlying56 rfl (by kernel_rfl) (by rw [HRs.out]; omega) (R) (HRE.out) ?_) | ((with_reducible refine at_buildP 58 ?_); refine wpList_build_num rfl _ _ rfl false R rfl rfl HRs.out ?_) | ((with_reducible refine at_alloc 58 ?_); refine wpList_alloc_named rfl 58 rfl Z0 (by rw [← HZ0.out]; kernel_rfl) ?_) | ((with_reducible refine at_store 58 ?_); refine wpList_store_new rfl 58 _ _ rfl (nm false R) _ _ _ rfl (by simp) rfl (by rw [H9s.out]; kernel_rfl) (by rw [H9s.out]; exact HZs.out) H9a.out ?_) | ((with_reducible refine at_load 56 ?_); refine wpList_load_part rfl 56 _ rfl (w.heap.size + 4) (0) rfl _ (Q) _ _ 12 (hgQ9) Try.underlying56 rfl (by kernel_rfl) (by rw [HQs.out]; omega) (Q) (HQE.out) ?_) | ((with_reducible refine at_buildP 58 ?_); refine wpList_build_num rfl _ _ rfl false Q rfl rfl HQs.out ?_) | ((with_reducible refine at_store 58 ?_); refine wpList_store_new rfl 58 _ _ rfl (nm false Q) _ _ _ rfl (by simp) rfl (by rw [H10s.out]; kernel_rfl) (by rw [H10s.out]; exact HZs.out) H10a.out ?_))
        obtain ⟨wf, hwf⟩ : ∃ wf, wf = (wr.alloc (Obj.cells (nm false R) 58)).alloc (Obj.cells (nm false Q) 58) := ⟨_, rfl⟩
        rw [← hwf] at hg10 hg9 hgOA hgPA hBA
        rw [← hwf]
        have hf10 := hg10
        have hf9 := hg9
        have hfO := hgOA
        have hfP := hgPA
        have hBf0 := hBA
        have hws : w.heap.size + 5 < wr.heap.size := (Array.getElem?_eq_some_iff.1 hgR).1
        have HFINAL := Lib.hid (show OvRes s t A B (.returned (.tuple #[.agg (nm false Q), .agg (nm false R)])) from
          ⟨false, Q, Q, R, rfl, HQD.out, HO.out, by rw [HBX.out]; simp⟩)
        have HCs := H10s
        have HCa := H10a
        clear hwf hg10 hg9 hgOA hgPA hBA hgX hgY hgO hgP hgQ hgR hb hgX9 hgY9 hgQ9 cX9 cY9 c10 cz
        generalize nm false Q = C10 at *
        refine wp_region_any (by kernel_rfl) ?_
        have hx10 : ({ wf with drawn := wf.drawn + 1 } : World).heap[wr.heap.size + 1]? = some (.cells C10 58 (0, 0)) := hf10
        have hx9 : ({ wf with drawn := wf.drawn + 1 } : World).heap[wr.heap.size]? = some (.cells (nm false R) 58 (0, 0)) := hf9
        have hxO : ({ wf with drawn := wf.drawn + 1 } : World).heap[w.heap.size + 2]? = some (.cells Z0 58 (0, 0)) := hfO
        have hxP : ({ wf with drawn := wf.drawn + 1 } : World).heap[w.heap.size + 3]? = some (.cells Z0 58 (0, 0)) := hfP
        have hBf := below_drawn (n := wf.drawn + 1) hBf0
        clear hf10 hf9 hfO hfP hBf0
        refine wpAny_ready (rs := [0, 1]) (by kernel_rfl) (by decide) ?_
        refine AllReady.cons rfl (fun K' hK => ?_) (AllReady.cons rfl (fun K' hK => ?_) AllReady.nil)
        · rw [if_pos (by rfl)]
          refine op_load_whole 58 _ rfl (wr.heap.size + 1) rfl _ C10 _ _ 13 hx10 Try.underlying58 rfl (by kernel_rfl) HCs.out (hK _ _ ?_)
          simp only [Act.put, List.setIfInBounds_toArray, List.set_cons_zero, List.set_cons_succ]
          refine wpAny_ready (rs := [1, 2]) (by kernel_rfl) (by decide) ?_
          refine AllReady.cons rfl (fun K' hK => ?_) (AllReady.cons rfl (fun K' hK => ?_) AllReady.nil)
          · rw [if_pos (by rfl)]
            refine op_load_whole 58 _ rfl wr.heap.size rfl _ (nm false R) _ _ 13 hx9 Try.underlying58 rfl (by kernel_rfl) H9s.out (hK _ _ ?_)
            simp only [Act.put, List.setIfInBounds_toArray, List.set_cons_zero, List.set_cons_succ]
            refine wpAny_ready (rs := [2]) (by kernel_rfl) (by decide) ?_
            refine AllReady.cons rfl (fun K' hK => ?_) AllReady.nil
            rw [if_pos (by rfl)]
            refine op_store_over' 58 _ _ rfl (w.heap.size + 2) C10 rfl rfl 58 Z0 hxO (by rw [HCs.out]; kernel_rfl) (by rw [HCs.out]; exact HZs.out) HCa.out ?_
            intro wa hxO1 hoa hba
            have hx9' := (hoa _ (by omega)).trans hx9
            have hxP' := (hoa _ (by omega)).trans hxP
            have hB1 := hBf.trans (hba _ (by omega))
            clear hx9 hxP hBf hx10 hxO
            have hx9 := hx9'
            have hxP := hxP'
            have hBf := hB1
            clear hx9' hxP' hB1
            refine hK _ _ ?_
            try simp only [Act.put]
            refine wpAny_ready (rs := [3]) (by kernel_rfl) (by decide) ?_
            refine AllReady.cons rfl (fun K' hK => ?_) AllReady.nil
            rw [if_pos (by rfl)]
            refine op_store_over' 58 _ _ rfl (w.heap.size + 3) (nm false R) rfl rfl 58 Z0 hxP (by rw [H9s.out]; kernel_rfl) (by rw [H9s.out]; exact HZs.out) H9a.out ?_
            intro wb hxP1 hob hbb
            have hxO2 := (hob _ (by omega)).trans hxO1
            have hB2 := hBf.trans (hbb _ (by omega))
            refine hK _ _ ?_
            refine wpAny_done (by kernel_rfl) ?_ _
            try simp only [Act.put]
            go_wp2
            exact post_cell_cell (g := w.heap.size + 2) (g2 := w.heap.size + 3) rfl rfl rfl rfl hxO2 hxP1 Try.underlying58 rfl (by rw [HCs.out]; kernel_rfl) (by rw [H9s.out]; kernel_rfl) ⟨HFINAL.out, hB2⟩
          · rw [if_pos (by rfl)]
            refine op_store_over' 58 _ _ rfl (w.heap.size + 2) C10 rfl rfl 58 Z0 hxO (by rw [HCs.out]; kernel_rfl) (by rw [HCs.out]; exact HZs.out) HCa.out ?_
            intro wa hxO1 hoa hba
            have hx9' := (hoa _ (by omega)).trans hx9
            have hxP' := (hoa _ (by omega)).trans hxP
            have hB1 := hBf.trans (hba _ (by omega))
            clear hx9 hxP hBf hx10 hxO
            have hx9 := hx9'
            have hxP := hxP'
            have hBf := hB1
            clear hx9' hxP' hB1
            refine hK _ _ ?_
            try simp only [Act.put]
            refine wpAny_ready (rs := [1]) (by kernel_rfl) (by decide) ?_
            refine AllReady.cons rfl (fun K' hK => ?_) AllReady.nil
            rw [if_pos (by rfl)]
            refine op_load_whole 58 _ rfl wr.heap.size rfl _ (nm false R) _ _ 13 hx9 Try.underlying58 rfl (by kernel_rfl) H9s.out (hK _ _ ?_)
            simp only [Act.put, List.setIfInBounds_toArray, List.set_cons_zero, List.set_cons_succ]
            refine wpAny_ready (rs := [3]) (by kernel_rfl) (by decide) ?_
            refine AllReady.cons rfl (fun K' hK => ?_) AllReady.nil
            rw [if_pos (by rfl)]
            refine op_store_over' 58 _ _ rfl (w.heap.size + 3) (nm false R) rfl rfl 58 Z0 hxP (by rw [H9s.out]; kernel_rfl) (by rw [H9s.out]; exact HZs.out) H9a.out ?_
            intro wb hxP1 hob hbb
            have hxO2 := (hob _ (by omega)).trans hxO1
            have hB2 := hBf.trans (hbb _ (by omega))
            refine hK _ _ ?_
            refine wpAny_done (by kernel_rfl) ?_ _
            try simp only [Act.put]
            go_wp2
            exact post_cell_cell (g := w.heap.size + 2) (g2 := w.heap.size + 3) rfl rfl rfl rfl hxO2 hxP1 Try.underlying58 rfl (by rw [HCs.out]; kernel_rfl) (by rw [H9s.out]; kernel_rfl) ⟨HFINAL.out, hB2⟩
        · rw [if_pos (by rfl)]
          refine op_load_whole 58 _ rfl wr.heap.size rfl _ (nm false R) _ _ 13 hx9 Try.underlying58 rfl (by kernel_rfl) H9s.out (hK _ _ ?_)
          simp only [Act.put, List.setIfInBounds_toArray, List.set_cons_zero, List.set_cons_succ]
          refine wpAny_ready (rs := [0]) (by kernel_rfl) (by decide) ?_
          refine AllReady.cons rfl (fun K' hK => ?_) AllReady.nil
          rw [if_pos (by rfl)]
          refine op_load_whole 58 _ rfl (wr.heap.size + 1) rfl _ C10 _ _ 13 hx10 Try.underlying58 rfl (by kernel_rfl) HCs.out (hK _ _ ?_)
          simp only [Act.put, List.setIfInBounds_toArray, List.set_cons_zero, List.set_cons_succ]
          refine wpAny_ready (rs := [2]) (by kernel_rfl) (by decide) ?_
          refine AllReady.cons rfl (fun K' hK => ?_) AllReady.nil
          rw [if_pos (by rfl)]
          refine op_store_over' 58 _ _ rfl (w.heap.size + 2) C10 rfl rfl 58 Z0 hxO (by rw [HCs.out]; kernel_rfl) (by rw [HCs.out]; exact HZs.out) HCa.out ?_
          intro wa hxO1 hoa hba
          have hx9' := (hoa _ (by omega)).trans hx9
          have hxP' := (hoa _ (by omega)).trans hxP
          have hB1 := hBf.trans (hba _ (by omega))
          clear hx9 hxP hBf hx10 hxO
          have hx9 := hx9'
          have hxP := hxP'
          have hBf := hB1
          clear hx9' hxP' hB1
          refine hK _ _ ?_
          try simp only [Act.put]
          refine wpAny_ready (rs := [3]) (by kernel_rfl) (by decide) ?_
          refine AllReady.cons rfl (fun K' hK => ?_) AllReady.nil
          rw [if_pos (by rfl)]
          refine op_store_over' 58 _ _ rfl (w.heap.size + 3) (nm false R) rfl rfl 58 Z0 hxP (by rw [H9s.out]; kernel_rfl) (by rw [H9s.out]; exact HZs.out) H9a.out ?_
          intro wb hxP1 hob hbb
          have hxO2 := (hob _ (by omega)).trans hxO1
          have hB2 := hBf.trans (hbb _ (by omega))
          refine hK _ _ ?_
          refine wpAny_done (by kernel_rfl) ?_ _
          try simp only [Act.put]
          go_wp2
          exact post_cell_cell (g := w.heap.size + 2) (g2 := w.heap.size + 3) rfl rfl rfl rfl hxO2 hxP1 Try.underlying58 rfl (by rw [HCs.out]; kernel_rfl) (by rw [H9s.out]; kernel_rfl) ⟨HFINAL.out, hB2⟩
      · change (s == t) = false at hbe
        have hws : w.heap.size + 5 < wr.heap.size := (Array.getElem?_eq_some_iff.1 hgR).1
        by_cases hz : lv R 12 = 0
        · rw [decide_eq_true hz] at cz
          go_wp2_with (first | ((with_reducible refine at_load 56 ?_); refine wpList_load_part rfl 56 _ rfl (w.heap.size + 5) (0) rfl _ (R) _ _ 12 (hgR) Try.underlying56 rfl (by kernel_rfl) (by rw [HRs.out]; omega) (R) (HRE.out) ?_) | ((with_reducible refine at_buildP 58 ?_); refine wpList_build_num rfl _ _ rfl false R rfl rfl HRs.out ?_) | ((with_reducible refine at_alloc 58 ?_); refine wpList_alloc_named rfl 58 rfl Z0 (by rw [← HZ0.out]; kernel_rfl) ?_) | ((with_reducible refine at_store 58 ?_); refine wpList_store_new rfl 58 _ _ rfl (nm false R) _ _ _ rfl (by simp) rfl (by rw [H9s.out]; kernel_rfl) (by rw [H9s.out]; exact HZs.out) H9a.out ?_) | ((with_reducible refine at_load 56 ?_); refine wpList_load_part rfl 56 _ rfl (w.heap.size + 4) (0) rfl _ (Q) _ _ 12 (hgQ9) Try.underlying56 rfl (by kernel_rfl) (by rw [HQs.out]; omega) (Q) (HQE.out) ?_) | ((with_reducible refine at_buildP 58 ?_); refine wpList_build_num rfl _ _ rfl true Q rfl rfl HQs.out ?_) | ((with_reducible refine at_store 58 ?_); refine wpList_store_new rfl 58 _ _ rfl (nm true Q) _ _ _ rfl (by simp) rfl (by rw [H10s.out]; kernel_rfl) (by rw [H10s.out]; exact HZs.out) H10a.out ?_) | ((with_reducible refine at_load 58 ?_); refine wpList_load_part rfl 58 _ rfl (wr.heap.size) (0) rfl _ (nm false R) _ _ 13 (hg9) Try.underlying58 rfl (by kernel_rfl) (by rw [H9s.out]; omega) (nm false R) (extract_all H9s.out) ?_) | (go_at_call 29; (with_reducible refine (cz _).mono ?_); rintro e w1 ⟨rfl, hb1⟩))
          have hf10 := Yticdcdahehodkaa.kept hb1 hg10
          have hf9 := Yticdcdahehodkaa.kept hb1 hg9
          have hfO := Yticdcdahehodkaa.kept hb1 hgOA
          have hfP := Yticdcdahehodkaa.kept hb1 hgPA
          have hBf0 := below_then hBA hb1
          obtain ⟨wf, hwf⟩ : ∃ wf, wf = w1 := ⟨_, rfl⟩
          rw [← hwf] at hf10 hf9 hfO hfP hBf0
          rw [← hwf]
          have HFINAL := Lib.hid (show OvRes s t A B (.returned (.tuple #[.agg (nm true Q), .agg (nm false R)])) from
            ⟨true, Q, Q, R, rfl, HQD.out, HO.out, by rw [HBX.out]; simp [hz]⟩)
          have HCs := H10s
          have HCa := H10a
          clear hwf hg10 hg9 hgOA hgPA hBA hgX hgY hgO hgP hgQ hgR hb hgX9 hgY9 hgQ9 cX9 cY9 c10 cz hb1
          generalize nm true Q = C10 at *
          refine wp_region_any (by kernel_rfl) ?_
          have hx10 : ({ wf with drawn := wf.drawn + 1 } : World).heap[wr.heap.size + 1]? = some (.cells C10 58 (0, 0)) := hf10
          have hx9 : ({ wf with drawn := wf.drawn + 1 } : World).heap[wr.heap.size]? = some (.cells (nm false R) 58 (0, 0)) := hf9
          have hxO : ({ wf with drawn := wf.drawn + 1 } : World).heap[w.heap.size + 2]? = some (.cells Z0 58 (0, 0)) := hfO
          have hxP : ({ wf with drawn := wf.drawn + 1 } : World).heap[w.heap.size + 3]? = some (.cells Z0 58 (0, 0)) := hfP
          have hBf := below_drawn (n := wf.drawn + 1) hBf0
          clear hf10 hf9 hfO hfP hBf0
          refine wpAny_ready (rs := [0, 1]) (by kernel_rfl) (by decide) ?_
          refine AllReady.cons rfl (fun K' hK => ?_) (AllReady.cons rfl (fun K' hK => ?_) AllReady.nil)
          · rw [if_pos (by rfl)]
            refine op_load_whole 58 _ rfl (wr.heap.size + 1) rfl _ C10 _ _ 13 hx10 Try.underlying58 rfl (by kernel_rfl) HCs.out (hK _ _ ?_)
            simp only [Act.put, List.setIfInBounds_toArray, List.set_cons_zero, List.set_cons_succ]
            refine wpAny_ready (rs := [1, 2]) (by kernel_rfl) (by decide) ?_
            refine AllReady.cons rfl (fun K' hK => ?_) (AllReady.cons rfl (fun K' hK => ?_) AllReady.nil)
            · rw [if_pos (by rfl)]
              refine op_load_whole 58 _ rfl wr.heap.size rfl _ (nm false R) _ _ 13 hx9 Try.underlying58 rfl (by kernel_rfl) H9s.out (hK _ _ ?_)
              simp only [Act.put, List.setIfInBounds_toArray, List.set_cons_zero, List.set_cons_succ]
              refine wpAny_ready (rs := [2]) (by kernel_rfl) (by decide) ?_
              refine AllReady.cons rfl (fun K' hK => ?_) AllReady.nil
              rw [if_pos (by rfl)]
              refine op_store_over' 58 _ _ rfl (w.heap.size + 2) C10 rfl rfl 58 Z0 hxO (by rw [HCs.out]; kernel_rfl) (by rw [HCs.out]; exact HZs.out) HCa.out ?_
              intro wa hxO1 hoa hba
              have hx9' := (hoa _ (by omega)).trans hx9
              have hxP' := (hoa _ (by omega)).trans hxP
              have hB1 := hBf.trans (hba _ (by omega))
              clear hx9 hxP hBf hx10 hxO
              have hx9 := hx9'
              have hxP := hxP'
              have hBf := hB1
              clear hx9' hxP' hB1
              refine hK _ _ ?_
              try simp only [Act.put]
              refine wpAny_ready (rs := [3]) (by kernel_rfl) (by decide) ?_
              refine AllReady.cons rfl (fun K' hK => ?_) AllReady.nil
              rw [if_pos (by rfl)]
              refine op_store_over' 58 _ _ rfl (w.heap.size + 3) (nm false R) rfl rfl 58 Z0 hxP (by rw [H9s.out]; kernel_rfl) (by rw [H9s.out]; exact HZs.out) H9a.out ?_
              intro wb hxP1 hob hbb
              have hxO2 := (hob _ (by omega)).trans hxO1
              have hB2 := hBf.trans (hbb _ (by omega))
              refine hK _ _ ?_
              refine wpAny_done (by kernel_rfl) ?_ _
              try simp only [Act.put]
              go_wp2
              exact post_cell_cell (g := w.heap.size + 2) (g2 := w.heap.size + 3) rfl rfl rfl rfl hxO2 hxP1 Try.underlying58 rfl (by rw [HCs.out]; kernel_rfl) (by rw [H9s.out]; kernel_rfl) ⟨HFINAL.out, hB2⟩
            · rw [if_pos (by rfl)]
              refine op_store_over' 58 _ _ rfl (w.heap.size + 2) C10 rfl rfl 58 Z0 hxO (by rw [HCs.out]; kernel_rfl) (by rw [HCs.out]; exact HZs.out) HCa.out ?_
              intro wa hxO1 hoa hba
              have hx9' := (hoa _ (by omega)).trans hx9
              have hxP' := (hoa _ (by omega)).trans hxP
              have hB1 := hBf.trans (hba _ (by omega))
              clear hx9 hxP hBf hx10 hxO
              have hx9 := hx9'
              have hxP := hxP'
              have hBf := hB1
              clear hx9' hxP' hB1
              refine hK _ _ ?_
              try simp only [Act.put]
              refine wpAny_ready (rs := [1]) (by kernel_rfl) (by decide) ?_
              refine AllReady.cons rfl (fun K' hK => ?_) AllReady.nil
              rw [if_pos (by rfl)]
              refine op_load_whole 58 _ rfl wr.heap.size rfl _ (nm false R) _ _ 13 hx9 Try.underlying58 rfl (by kernel_rfl) H9s.out (hK _ _ ?_)
              simp only [Act.put, List.setIfInBounds_toArray, List.set_cons_zero, List.set_cons_succ]
              refine wpAny_ready (rs := [3]) (by kernel_rfl) (by decide) ?_
              refine AllReady.cons rfl (fun K' hK => ?_) AllReady.nil
              rw [if_pos (by rfl)]
              refine op_store_over' 58 _ _ rfl (w.heap.size + 3) (nm false R) rfl rfl 58 Z0 hxP (by rw [H9s.out]; kernel_rfl) (by rw [H9s.out]; exact HZs.out) H9a.out ?_
              intro wb hxP1 hob hbb
              have hxO2 := (hob _ (by omega)).trans hxO1
              have hB2 := hBf.trans (hbb _ (by omega))
              refine hK _ _ ?_
              refine wpAny_done (by kernel_rfl) ?_ _
              try simp only [Act.put]
              go_wp2
              exact post_cell_cell (g := w.heap.size + 2) (g2 := w.heap.size + 3) rfl rfl rfl rfl hxO2 hxP1 Try.underlying58 rfl (by rw [HCs.out]; kernel_rfl) (by rw [H9s.out]; kernel_rfl) ⟨HFINAL.out, hB2⟩
          · rw [if_pos (by rfl)]
            refine op_load_whole 58 _ rfl wr.heap.size rfl _ (nm false R) _ _ 13 hx9 Try.underlying58 rfl (by kernel_rfl) H9s.out (hK _ _ ?_)
            simp only [Act.put, List.setIfInBounds_toArray, List.set_cons_zero, List.set_cons_succ]
            refine wpAny_ready (rs := [0]) (by kernel_rfl) (by decide) ?_
            refine AllReady.cons rfl (fun K' hK => ?_) AllReady.nil
            rw [if_pos (by rfl)]
            refine op_load_whole 58 _ rfl (wr.heap.size + 1) rfl _ C10 _ _ 13 hx10 Try.underlying58 rfl (by kernel_rfl) HCs.out (hK _ _ ?_)
            simp only [Act.put, List.setIfInBounds_toArray, List.set_cons_zero, List.set_cons_succ]
            refine wpAny_ready (rs := [2]) (by kernel_rfl) (by decide) ?_
            refine AllReady.cons rfl (fun K' hK => ?_) AllReady.nil
            rw [if_pos (by rfl)]
            refine op_store_over' 58 _ _ rfl (w.heap.size + 2) C10 rfl rfl 58 Z0 hxO (by rw [HCs.out]; kernel_rfl) (by rw [HCs.out]; exact HZs.out) HCa.out ?_
            intro wa hxO1 hoa hba
            have hx9' := (hoa _ (by omega)).trans hx9
            have hxP' := (hoa _ (by omega)).trans hxP
            have hB1 := hBf.trans (hba _ (by omega))
            clear hx9 hxP hBf hx10 hxO
            have hx9 := hx9'
            have hxP := hxP'
            have hBf := hB1
            clear hx9' hxP' hB1
            refine hK _ _ ?_
            try simp only [Act.put]
            refine wpAny_ready (rs := [3]) (by kernel_rfl) (by decide) ?_
            refine AllReady.cons rfl (fun K' hK => ?_) AllReady.nil
            rw [if_pos (by rfl)]
            refine op_store_over' 58 _ _ rfl (w.heap.size + 3) (nm false R) rfl rfl 58 Z0 hxP (by rw [H9s.out]; kernel_rfl) (by rw [H9s.out]; exact HZs.out) H9a.out ?_
            intro wb hxP1 hob hbb
            have hxO2 := (hob _ (by omega)).trans hxO1
            have hB2 := hBf.trans (hbb _ (by omega))
            refine hK _ _ ?_
            refine wpAny_done (by kernel_rfl) ?_ _
            try simp only [Act.put]
            go_wp2
            exact post_cell_cell (g := w.heap.size + 2) (g2 := w.heap.size + 3) rfl rfl rfl rfl hxO2 hxP1 Try.underlying58 rfl (by rw [HCs.out]; kernel_rfl) (by rw [H9s.out]; kernel_rfl) ⟨HFINAL.out, hB2⟩
        · rw [decide_eq_false hz] at cz
          go_wp2_with (first | ((with_reducible refine at_load 56 ?_); refine wpList_load_part rfl 56 _ rfl (w.heap.size + 5) (0) rfl _ (R) _ _ 12 (hgR) Try.underlying56 rfl (by kernel_rfl) (by rw [HRs.out]; omega) (R) (HRE.out) ?_) | ((with_reducible refine at_buildP 58 ?_); refine wpList_build_num rfl _ _ rfl false R rfl rfl HRs.out ?_) | ((with_reducible refine at_alloc 58 ?_); refine wpList_alloc_named rfl 58 rfl Z0 (by rw [← HZ0.out]; kernel_rfl) ?_) | ((with_reducible refine at_store 58 ?_); refine wpList_store_new rfl 58 _ _ rfl (nm false R) _ _ _ rfl (by simp) rfl (by rw [H9s.out]; kernel_rfl) (by rw [H9s.out]; exact HZs.out) H9a.out ?_) | ((with_reducible refine at_load 56 ?_); refine wpList_load_part rfl 56 _ rfl (w.heap.size + 4) (0) rfl _ (Q) _ _ 12 (hgQ9) Try.underlying56 rfl (by kernel_rfl) (by rw [HQs.out]; omega) (Q) (HQE.out) ?_) | ((with_reducible refine at_buildP 58 ?_); refine wpList_build_num rfl _ _ rfl true Q rfl rfl HQs.out ?_) | ((with_reducible refine at_store 58 ?_); refine wpList_store_new rfl 58 _ _ rfl (nm true Q) _ _ _ rfl (by simp) rfl (by rw [H10s.out]; kernel_rfl) (by rw [H10s.out]; exact HZs.out) H10a.out ?_) | ((with_reducible refine at_load 58 ?_); refine wpList_load_part rfl 58 _ rfl (wr.heap.size) (0) rfl _ (nm false R) _ _ 13 (hg9) Try.underlying58 rfl (by kernel_rfl) (by rw [H9s.out]; omega) (nm false R) (extract_all H9s.out) ?_) | (go_at_call 29; (with_reducible refine (cz _).mono ?_); rintro e w1 ⟨rfl, hb1⟩))
          have hg91 := Yticdcdahehodkaa.kept hb1 hg9
          have hg101 := Yticdcdahehodkaa.kept hb1 hg10
          have hgO1 := Yticdcdahehodkaa.kept hb1 hgOA
          have hgP1 := Yticdcdahehodkaa.kept hb1 hgPA
          have hB1 := below_then hBA hb1
          have cof := fun w => of_any' (-1) w (by unfold F64; omega)
          have cpl := fun w => add_any true (oS (-1)) Q (oV (-1)) w HQD.out (oV_D (-1))
          have hpD := ps_D (s := true) (t := oS (-1)) HQD.out (oV_D (-1))
          have HCs := Lib.hid (nm_size (s := psS true Q (oS (-1)) (oV (-1))) hpD.size)
          have HCa := Lib.hid (nm_all (s := psS true Q (oS (-1)) (oV (-1))) hpD)
          have HQE13 := Lib.hid (extract_all H10s.out)
          have HFINAL := Lib.hid (show OvRes s t A B (.returned (.tuple #[.agg (nm (psS true Q (oS (-1)) (oV (-1))) (psD true Q (oS (-1)) (oV (-1)))), .agg (nm false R)])) from
            ⟨psS true Q (oS (-1)) (oV (-1)), psD true Q (oS (-1)) (oV (-1)), Q, R, rfl, hpD, HO.out, by rw [HBX.out]; simp [hz]⟩)
          clear hpD hg10 hg9 hgOA hgPA hBA hgX hgY hgO hgP hgQ hgR hb hgX9 hgY9 hgQ9 cX9 cY9 c10 cz hb1
          generalize nm (psS true Q (oS (-1)) (oV (-1))) (psD true Q (oS (-1)) (oV (-1))) = C10 at *
          generalize nm (oS (-1)) (oV (-1)) = M1 at *
          refine wp_region_tail2 3 (by kernel_rfl) (by kernel_rfl) (by kernel_rfl) (by kernel_rfl) rfl rfl (by kernel_rfl) (by kernel_rfl) ?_
          simp only [List.take, List.getD, List.getElem?_cons_succ, List.getElem?_cons_zero, Option.getD]
          repeat (first | ((with_reducible apply q_skip); (case hw => rfl); (try simp only [Act.put, List.setIfInBounds_toArray, List.set_cons_zero, List.set_cons_succ])) | ((with_reducible refine at_qload 58 ?_); refine q_load_part (by rfl) 58 _ rfl (wr.heap.size + 1) (0) rfl _ (nm true Q) _ 13 (hg101) Try.underlying58 rfl (by kernel_rfl) (by rw [H10s.out]; omega) (nm true Q) (HQE13.out) ?_; try simp only [Act.put, List.setIfInBounds_toArray, List.set_cons_zero, List.set_cons_succ]) | ((with_reducible refine at_qcall 27 ?_); refine q_call_below _ 27 _ (by rfl) (cof) (fun wq hbq => by go_simp) ?_; try simp only [Act.put, List.setIfInBounds_toArray, List.set_cons_zero, List.set_cons_succ]) | ((with_reducible refine at_qcall 28 ?_); refine q_call_below _ 28 _ (by rfl) (cpl) (fun wq hbq => by go_simp) ?_; try simp only [Act.put, List.setIfInBounds_toArray, List.set_cons_zero, List.set_cons_succ]))
          refine q_nil ?_
          intro w2 hb2
          have hg92 := Yticdcdahehodkaa.kept hb2 hg91
          have hg102 := Yticdcdahehodkaa.kept hb2 hg101
          have hgO2 := Yticdcdahehodkaa.kept hb2 hgO1
          have hgP2 := Yticdcdahehodkaa.kept hb2 hgP1
          have hB2 := below_then hB1 hb2
          clear hg91 hg101 hgO1 hgP1 hB1 hb2 cof cpl
          refine op_store_over' 58 _ _ rfl (wr.heap.size + 1) C10 rfl rfl 58 (nm true Q) hg102 (by rw [HCs.out]; kernel_rfl) (by rw [HCs.out]; exact H10s.out) HCa.out ?_
          intro w3 hf10 ho3 hb3
          have hf9 := (ho3 _ (by omega)).trans hg92
          have hfO := (ho3 _ (by omega)).trans hgO2
          have hfP := (ho3 _ (by omega)).trans hgP2
          have hBf0 := hB2.trans (hb3 _ (by omega))
          clear hg92 hg102 hgO2 hgP2 hB2 ho3 hb3
          obtain ⟨wf, hwf⟩ : ∃ wf, wf = w3 := ⟨_, rfl⟩
          rw [← hwf] at hf10 hf9 hfO hfP hBf0
          rw [← hwf]
          clear hwf
          go_wp2
          refine wp_region_any (by kernel_rfl) ?_
          have hx10 : ({ wf with drawn := wf.drawn + 1 } : World).heap[wr.heap.size + 1]? = some (.cells C10 58 (0, 0)) := hf10
          have hx9 : ({ wf with drawn := wf.drawn + 1 } : World).heap[wr.heap.size]? = some (.cells (nm false R) 58 (0, 0)) := hf9
          have hxO : ({ wf with drawn := wf.drawn + 1 } : World).heap[w.heap.size + 2]? = some (.cells Z0 58 (0, 0)) := hfO
          have hxP : ({ wf with drawn := wf.drawn + 1 } : World).heap[w.heap.size + 3]? = some (.cells Z0 58 (0, 0)) := hfP
          have hBf := below_drawn (n := wf.drawn + 1) hBf0
          clear hf10 hf9 hfO hfP hBf0
          refine wpAny_ready (rs := [0, 1]) (by kernel_rfl) (by decide) ?_
          refine AllReady.cons rfl (fun K' hK => ?_) (AllReady.cons rfl (fun K' hK => ?_) AllReady.nil)
          · rw [if_pos (by rfl)]
            refine op_load_whole 58 _ rfl (wr.heap.size + 1) rfl _ C10 _ _ 13 hx10 Try.underlying58 rfl (by kernel_rfl) HCs.out (hK _ _ ?_)
            simp only [Act.put, List.setIfInBounds_toArray, List.set_cons_zero, List.set_cons_succ]
            refine wpAny_ready (rs := [1, 2]) (by kernel_rfl) (by decide) ?_
            refine AllReady.cons rfl (fun K' hK => ?_) (AllReady.cons rfl (fun K' hK => ?_) AllReady.nil)
            · rw [if_pos (by rfl)]
              refine op_load_whole 58 _ rfl wr.heap.size rfl _ (nm false R) _ _ 13 hx9 Try.underlying58 rfl (by kernel_rfl) H9s.out (hK _ _ ?_)
              simp only [Act.put, List.setIfInBounds_toArray, List.set_cons_zero, List.set_cons_succ]
              refine wpAny_ready (rs := [2]) (by kernel_rfl) (by decide) ?_
              refine AllReady.cons rfl (fun K' hK => ?_) AllReady.nil
              rw [if_pos (by rfl)]
              refine op_store_over' 58 _ _ rfl (w.heap.size + 2) C10 rfl rfl 58 Z0 hxO (by rw [HCs.out]; kernel_rfl) (by rw [HCs.out]; exact HZs.out) HCa.out ?_
              intro wa hxO1 hoa hba
              have hx9' := (hoa _ (by omega)).trans hx9
              have hxP' := (hoa _ (by omega)).trans hxP
              have hB1 := hBf.trans (hba _ (by omega))
              clear hx9 hxP hBf hx10 hxO
              have hx9 := hx9'
              have hxP := hxP'
              have hBf := hB1
              clear hx9' hxP' hB1
              refine hK _ _ ?_
              try simp only [Act.put]
              refine wpAny_ready (rs := [3]) (by kernel_rfl) (by decide) ?_
              refine AllReady.cons rfl (fun K' hK => ?_) AllReady.nil
              rw [if_pos (by rfl)]
              refine op_store_over' 58 _ _ rfl (w.heap.size + 3) (nm false R) rfl rfl 58 Z0 hxP (by rw [H9s.out]; kernel_rfl) (by rw [H9s.out]; exact HZs.out) H9a.out ?_
              intro wb hxP1 hob hbb
              have hxO2 := (hob _ (by omega)).trans hxO1
              have hB2 := hBf.trans (hbb _ (by omega))
              refine hK _ _ ?_
              refine wpAny_done (by kernel_rfl) ?_ _
              try simp only [Act.put]
              go_wp2
              exact post_cell_cell (g := w.heap.size + 2) (g2 := w.heap.size + 3) rfl rfl rfl rfl hxO2 hxP1 Try.underlying58 rfl (by rw [HCs.out]; kernel_rfl) (by rw [H9s.out]; kernel_rfl) ⟨HFINAL.out, hB2⟩
            · rw [if_pos (by rfl)]
              refine op_store_over' 58 _ _ rfl (w.heap.size + 2) C10 rfl rfl 58 Z0 hxO (by rw [HCs.out]; kernel_rfl) (by rw [HCs.out]; exact HZs.out) HCa.out ?_
              intro wa hxO1 hoa hba
              have hx9' := (hoa _ (by omega)).trans hx9
              have hxP' := (hoa _ (by omega)).trans hxP
              have hB1 := hBf.trans (hba _ (by omega))
              clear hx9 hxP hBf hx10 hxO
              have hx9 := hx9'
              have hxP := hxP'
              have hBf := hB1
              clear hx9' hxP' hB1
              refine hK _ _ ?_
              try simp only [Act.put]
              refine wpAny_ready (rs := [1]) (by kernel_rfl) (by decide) ?_
              refine AllReady.cons rfl (fun K' hK => ?_) AllReady.nil
              rw [if_pos (by rfl)]
              refine op_load_whole 58 _ rfl wr.heap.size rfl _ (nm false R) _ _ 13 hx9 Try.underlying58 rfl (by kernel_rfl) H9s.out (hK _ _ ?_)
              simp only [Act.put, List.setIfInBounds_toArray, List.set_cons_zero, List.set_cons_succ]
              refine wpAny_ready (rs := [3]) (by kernel_rfl) (by decide) ?_
              refine AllReady.cons rfl (fun K' hK => ?_) AllReady.nil
              rw [if_pos (by rfl)]
              refine op_store_over' 58 _ _ rfl (w.heap.size + 3) (nm false R) rfl rfl 58 Z0 hxP (by rw [H9s.out]; kernel_rfl) (by rw [H9s.out]; exact HZs.out) H9a.out ?_
              intro wb hxP1 hob hbb
              have hxO2 := (hob _ (by omega)).trans hxO1
              have hB2 := hBf.trans (hbb _ (by omega))
              refine hK _ _ ?_
              refine wpAny_done (by kernel_rfl) ?_ _
              try simp only [Act.put]
              go_wp2
              exact post_cell_cell (g := w.heap.size + 2) (g2 := w.heap.size + 3) rfl rfl rfl rfl hxO2 hxP1 Try.underlying58 rfl (by rw [HCs.out]; kernel_rfl) (by rw [H9s.out]; kernel_rfl) ⟨HFINAL.out, hB2⟩
          · rw [if_pos (by rfl)]
            refine op_load_whole 58 _ rfl wr.heap.size rfl _ (nm false R) _ _ 13 hx9 Try.underlying58 rfl (by kernel_rfl) H9s.out (hK _ _ ?_)
            simp only [Act.put, List.setIfInBounds_toArray, List.set_cons_zero, List.set_cons_succ]
            refine wpAny_ready (rs := [0]) (by kernel_rfl) (by decide) ?_
            refine AllReady.cons rfl (fun K' hK => ?_) AllReady.nil
            rw [if_pos (by rfl)]
            refine op_load_whole 58 _ rfl (wr.heap.size + 1) rfl _ C10 _ _ 13 hx10 Try.underlying58 rfl (by kernel_rfl) HCs.out (hK _ _ ?_)
            simp only [Act.put, List.setIfInBounds_toArray, List.set_cons_zero, List.set_cons_succ]
            refine wpAny_ready (rs := [2]) (by kernel_rfl) (by decide) ?_
            refine AllReady.cons rfl (fun K' hK => ?_) AllReady.nil
            rw [if_pos (by rfl)]
            refine op_store_over' 58 _ _ rfl (w.heap.size + 2) C10 rfl rfl 58 Z0 hxO (by rw [HCs.out]; kernel_rfl) (by rw [HCs.out]; exact HZs.out) HCa.out ?_
            intro wa hxO1 hoa hba
            have hx9' := (hoa _ (by omega)).trans hx9
            have hxP' := (hoa _ (by omega)).trans hxP
            have hB1 := hBf.trans (hba _ (by omega))
            clear hx9 hxP hBf hx10 hxO
            have hx9 := hx9'
            have hxP := hxP'
            have hBf := hB1
            clear hx9' hxP' hB1
            refine hK _ _ ?_
            try simp only [Act.put]
            refine wpAny_ready (rs := [3]) (by kernel_rfl) (by decide) ?_
            refine AllReady.cons rfl (fun K' hK => ?_) AllReady.nil
            rw [if_pos (by rfl)]
            refine op_store_over' 58 _ _ rfl (w.heap.size + 3) (nm false R) rfl rfl 58 Z0 hxP (by rw [H9s.out]; kernel_rfl) (by rw [H9s.out]; exact HZs.out) H9a.out ?_
            intro wb hxP1 hob hbb
            have hxO2 := (hob _ (by omega)).trans hxO1
            have hB2 := hBf.trans (hbb _ (by omega))
            refine hK _ _ ?_
            refine wpAny_done (by kernel_rfl) ?_ _
            try simp only [Act.put]
            go_wp2
            exact post_cell_cell (g := w.heap.size + 2) (g2 := w.heap.size + 3) rfl rfl rfl rfl hxO2 hxP1 Try.underlying58 rfl (by rw [HCs.out]; kernel_rfl) (by rw [H9s.out]; kernel_rfl) ⟨HFINAL.out, hB2⟩
    | succ m =>
      obtain rfl : v = (m : Int) := by omega
      clear hv
      have hm : m < 192 := by omega
      obtain ⟨d, hd0⟩ : ∃ d, d = m / 16 := ⟨_, rfl⟩
      obtain ⟨r, hr0⟩ : ∃ r, r = m % 16 := ⟨_, rfl⟩
      have hd12 : d < 12 := by omega
      have hr16 : r < 16 := by omega
      have hdm : (m : Int) / 16 = (d : Int) := by omega
      have hdt : (m : Int).tdiv 16 = (d : Int) := by rw [Int.tdiv_eq_ediv_of_nonneg (by omega)]; exact hdm
      have hrm : (m : Int) % 16 = (r : Int) := by omega
      have hrt : (m : Int).tmod 16 = (r : Int) := by rw [Int.tmod_eq_emod_of_nonneg (by omega)]; exact hrm
      have hwd : IntKind.i64.wrap (d : Int) = (d : Int) := by rw [IntKind.wrap_i64]; omega
      have hwr : IntKind.i64.wrap (r : Int) = (r : Int) := by rw [IntKind.wrap_i64]; omega
      have hdi : (d : Int) < 12 := by omega
      obtain ⟨d0, d1, d2⟩ := HA.out.c d hd12
      have hxd : X[1 + d]? = some (.int .u64 (N A d)) := by rw [HNX.out]; exact d0
      have HBT := Lib.hid (show bt A m = N A d / ((2 ^ r : Nat) : Int) % 2 by rw [hd0, hr0]; exact bt_digit HA.out hm)
      have hRs := Lib.hid HO.out.r.size
      have hRE := Lib.hid (extract_all HO.out.r.size)
      have HGO := Lib.hid (HO.out.go HA.out HB.out H0.out H2.out)
      have csh := fun w => shifted_any R (bt A m) w HO.out.r (bt_bd A m)
      have hR2D := sh_Dk (b := bt A m) HO.out.r 12
      generalize hR2 : sh R (bt A m) 12 = R2 at *
      have HR2 := Lib.hid hR2.symm
      have HR2D := Lib.hid hR2D
      have HM := Lib.hid hd0
      have HMr := Lib.hid hr0
      clear d0 hd0 hr0
      generalize N A d = x at *
      generalize bt A m = bb at *
      have hsb : (x / 2 ^ r).tmod 2 = bb := by
        rw [HBT.out, show ((2 ^ r : Nat) : Int) = (2 : Int) ^ r by simp, Int.tmod_eq_emod_of_nonneg (Int.ediv_nonneg d1 (Int.le_of_lt (Int.pow_pos (by omega))))]
      have hwm : wrap64 ((m : Int) - 1) = (m : Int) - 1 := by unfold wrap64; omega
      go_wp2
      refine wp_region_tail2 11 (by kernel_rfl) (by kernel_rfl) (by kernel_rfl) (by kernel_rfl) rfl rfl (by kernel_rfl) (by kernel_rfl) ?_
      simp only [List.take, List.getD, List.getElem?_cons_succ, List.getElem?_cons_zero, Option.getD]
      repeat (first | ((with_reducible apply q_skip); (case hw => rfl); (try simp only [Act.put, List.setIfInBounds_toArray, List.set_cons_zero, List.set_cons_succ])) | ((with_reducible refine at_qload 56 ?_); refine q_load_part (by rfl) 56 _ rfl (w.heap.size + 5) (0) rfl _ (R) _ 12 (hgR) Try.underlying56 rfl (by kernel_rfl) (by rw [hRs.out]; omega) (R) (hRE.out) ?_; try simp only [Act.put, List.setIfInBounds_toArray, List.set_cons_zero, List.set_cons_succ]) | ((with_reducible refine at_qcall 49 ?_); refine q_call_below _ 49 _ (by rfl) (csh) (fun wq hbq => by go_simp) ?_; try simp only [Act.put, List.setIfInBounds_toArray, List.set_cons_zero, List.set_cons_succ]) | ((with_reducible apply q_val); (case hw => rfl); (case hv => intro wq hbq; have hcq := cellF (Yticdcdahehodkaa.kept hbq hgX); go_simp; try rfl); (try simp only [Act.put, List.setIfInBounds_toArray, List.set_cons_zero, List.set_cons_succ])))
      refine q_nil ?_
      intro w2 hb2
      have HR2s := Lib.hid hR2D.size
      have hgX2 := Yticdcdahehodkaa.kept hb2 hgX
      have hgY2 := Yticdcdahehodkaa.kept hb2 hgY
      have hgO2 := Yticdcdahehodkaa.kept hb2 hgO
      have hgP2 := Yticdcdahehodkaa.kept hb2 hgP
      have hgQ2 := Yticdcdahehodkaa.kept hb2 hgQ
      have hgR2 := Yticdcdahehodkaa.kept hb2 hgR
      have hB2 := below_then hb hb2
      clear hgX hgY hgO hgP hgQ hgR hb hb2 hsb hR2D hR2
      refine op_store_over' 56 _ _ rfl (w.heap.size + 5) R2 rfl rfl 56 R hgR2 (by rw [HR2s.out]; kernel_rfl) (by rw [HR2s.out]; exact hRs.out) HR2D.out.all ?_
      intro w3 hgR3 ho3 hb3
      have hgX3 := (ho3 _ (by omega)).trans hgX2
      have hgY3 := (ho3 _ (by omega)).trans hgY2
      have hgO3 := (ho3 _ (by omega)).trans hgO2
      have hgP3 := (ho3 _ (by omega)).trans hgP2
      have hgQ3 := (ho3 _ (by omega)).trans hgQ2
      have hB3 := hB2.trans (hb3 _ (by omega))
      clear hgX2 hgY2 hgO2 hgP2 hgQ2 hgR2 hB2 hb3 ho3 csh
      have csq := fun w => shifted_any Q 0 w HO.out.q (by omega)
      have hQ2D := sh_Dk (b := 0) HO.out.q 12
      have hQ2b := sh_0 Q HO.out.q
      have hgo := HGO.out
      generalize hQ2 : sh Q 0 12 = Q2 at *
      obtain ⟨hq0, hq1, _⟩ := hQ2D.c 0 (by omega)
      have HQ2s := Lib.hid hQ2D.size
      have HQ2a := Lib.hid hQ2D.all
      have HQs := Lib.hid HO.out.q.size
      have HQE := Lib.hid (extract_all HO.out.q.size)
      have HR2E := Lib.hid (extract_all HR2s.out)
      have cls := fun w => less_any R2 B w HR2D.out HB.out
      unfold rQ rR at hgo
      clear hQ2 hQ2D
      by_cases hl : lv R2 12 < lv B 12
      · rw [if_pos hl, if_pos hl] at hgo
        rw [decide_eq_true hl] at cls
        have HFIN := Lib.hid hgo
        clear hgo hl hq0 hq1 hQ2b
        go_wp2_with (first | ((with_reducible refine at_load 56 ?_); refine wpList_load_part rfl 56 _ rfl (w.heap.size + 4) (0) rfl _ (Q) _ _ 12 (hgQ3) Try.underlying56 rfl (by kernel_rfl) (by rw [HQs.out]; omega) (Q) (HQE.out) ?_) | (go_at_call 49; (with_reducible refine (csq _).mono ?_); rintro e w4 ⟨rfl, hb4⟩; have hgX4 := Yticdcdahehodkaa.kept hb4 hgX3; have hgY4 := Yticdcdahehodkaa.kept hb4 hgY3; have hgO4 := Yticdcdahehodkaa.kept hb4 hgO3; have hgP4 := Yticdcdahehodkaa.kept hb4 hgP3; have hgQ4 := Yticdcdahehodkaa.kept hb4 hgQ3; have hgR4 := Yticdcdahehodkaa.kept hb4 hgR3) | ((with_reducible refine at_store 56 ?_); refine wpList_store_over rfl 56 _ _ rfl (w.heap.size + 4) (Q2) rfl rfl _ _ (hgQ4) (by rw [HQ2s.out]; kernel_rfl) (by rw [HQ2s.out]; exact HQs.out) (HQ2a.out) ?_; intro w5 hgQ5 hs5 ho5 hb5; have hgX5 := (ho5 _ (by omega)).trans hgX4; have hgY5 := (ho5 _ (by omega)).trans hgY4; have hgO5 := (ho5 _ (by omega)).trans hgO4; have hgP5 := (ho5 _ (by omega)).trans hgP4; have hgR5 := (ho5 _ (by omega)).trans hgR4) | ((with_reducible refine at_load 56 ?_); refine wpList_load_part rfl 56 _ rfl (w.heap.size + 5) (0) rfl _ (R2) _ _ 12 (hgR5) Try.underlying56 rfl (by kernel_rfl) (by rw [HR2s.out]; omega) (R2) (HR2E.out) ?_) | ((with_reducible refine at_load 56 ?_); refine wpList_load_part rfl 56 _ rfl (w.heap.size + 1) (1) rfl _ (Y) _ _ 12 (hgY5) Try.underlying56 rfl (by kernel_rfl) (by rw [HSY.out]; omega) (B) (HEY.out) ?_) | (go_at_call 41; (with_reducible refine (cls _).mono ?_); rintro e w6 ⟨rfl, hb6⟩))
        have hB5 := (below_then hB3 hb4).trans (hb5 _ (by omega))
        go_roundg m
        case measure => omega
        case rel => exact ⟨m, (m : Int) - 1, Q2, R2, by omega, rfl, rfl, rfl, HFIN.out, Yticdcdahehodkaa.kept hb6 hgX5, Yticdcdahehodkaa.kept hb6 hgY5, Yticdcdahehodkaa.kept hb6 hgO5, Yticdcdahehodkaa.kept hb6 hgP5, Yticdcdahehodkaa.kept hb6 hgQ5, Yticdcdahehodkaa.kept hb6 hgR5, below_then hB5 hb6⟩
      · rw [if_neg hl, if_neg hl] at hgo
        rw [decide_eq_false hl] at cls
        have HFIN := Lib.hid hgo
        have hR3D : IsD (mi R2 B 12) := mi_D HR2D.out
        have cmi := fun w => minus_any R2 B w HR2D.out HB.out
        generalize hR3 : mi R2 B 12 = R3 at *
        have HR3s := Lib.hid hR3D.size
        have HR3a := Lib.hid hR3D.all
        have hn1 : IntKind.u64.wrap (N Q2 0 + 1) = N Q2 0 + 1 := by rw [IntKind.wrap_u64]; omega
        clear hgo hl hR3D hR3
        generalize N Q2 0 = q0 at *
        go_wp2_with (first | ((with_reducible refine at_load 56 ?_); refine wpList_load_part rfl 56 _ rfl (w.heap.size + 4) (0) rfl _ (Q) _ _ 12 (hgQ3) Try.underlying56 rfl (by kernel_rfl) (by rw [HQs.out]; omega) (Q) (HQE.out) ?_) | (go_at_call 49; (with_reducible refine (csq _).mono ?_); rintro e w4 ⟨rfl, hb4⟩; have hgX4 := Yticdcdahehodkaa.kept hb4 hgX3; have hgY4 := Yticdcdahehodkaa.kept hb4 hgY3; have hgO4 := Yticdcdahehodkaa.kept hb4 hgO3; have hgP4 := Yticdcdahehodkaa.kept hb4 hgP3; have hgQ4 := Yticdcdahehodkaa.kept hb4 hgQ3; have hgR4 := Yticdcdahehodkaa.kept hb4 hgR3) | ((with_reducible refine at_store 56 ?_); refine wpList_store_over rfl 56 _ _ rfl (w.heap.size + 4) (Q2) rfl rfl _ _ (hgQ4) (by rw [HQ2s.out]; kernel_rfl) (by rw [HQ2s.out]; exact HQs.out) (HQ2a.out) ?_; intro w5 hgQ5 hs5 ho5 hb5; have hgX5 := (ho5 _ (by omega)).trans hgX4; have hgY5 := (ho5 _ (by omega)).trans hgY4; have hgO5 := (ho5 _ (by omega)).trans hgO4; have hgP5 := (ho5 _ (by omega)).trans hgP4; have hgR5 := (ho5 _ (by omega)).trans hgR4) | ((with_reducible refine at_load 56 ?_); refine wpList_load_part rfl 56 _ rfl (w.heap.size + 5) (0) rfl _ (R2) _ _ 12 (hgR5) Try.underlying56 rfl (by kernel_rfl) (by rw [HR2s.out]; omega) (R2) (HR2E.out) ?_) | ((with_reducible refine at_load 56 ?_); refine wpList_load_part rfl 56 _ rfl (w.heap.size + 1) (1) rfl _ (Y) _ _ 12 (hgY5) Try.underlying56 rfl (by kernel_rfl) (by rw [HSY.out]; omega) (B) (HEY.out) ?_) | (go_at_call 41; (with_reducible refine (cls _).mono ?_); rintro e w6 ⟨rfl, hb6⟩; have hgX6 := Yticdcdahehodkaa.kept hb6 hgX5; have hgY6 := Yticdcdahehodkaa.kept hb6 hgY5; have hgO6 := Yticdcdahehodkaa.kept hb6 hgO5; have hgP6 := Yticdcdahehodkaa.kept hb6 hgP5; have hgQ6 := Yticdcdahehodkaa.kept hb6 hgQ5; have hgR6 := Yticdcdahehodkaa.kept hb6 hgR5) | ((with_reducible refine at_load 56 ?_); refine wpList_load_part rfl 56 _ rfl (w.heap.size + 5) (0) rfl _ (R2) _ _ 12 (hgR6) Try.underlying56 rfl (by kernel_rfl) (by rw [HR2s.out]; omega) (R2) (HR2E.out) ?_) | ((with_reducible refine at_load 56 ?_); refine wpList_load_part rfl 56 _ rfl (w.heap.size + 1) (1) rfl _ (Y) _ _ 12 (hgY6) Try.underlying56 rfl (by kernel_rfl) (by rw [HSY.out]; omega) (B) (HEY.out) ?_) | (go_at_call 45; (with_reducible refine (cmi _).mono ?_); rintro e w7 ⟨rfl, hb7⟩; have hgX7 := Yticdcdahehodkaa.kept hb7 hgX6; have hgY7 := Yticdcdahehodkaa.kept hb7 hgY6; have hgO7 := Yticdcdahehodkaa.kept hb7 hgO6; have hgP7 := Yticdcdahehodkaa.kept hb7 hgP6; have hgQ7 := Yticdcdahehodkaa.kept hb7 hgQ6; have hgR7 := Yticdcdahehodkaa.kept hb7 hgR6) | ((with_reducible refine at_store 56 ?_); refine wpList_store_over rfl 56 _ _ rfl (w.heap.size + 5) (R3) rfl rfl _ _ (hgR7) (by rw [HR3s.out]; kernel_rfl) (by rw [HR3s.out]; exact HR2s.out) (HR3a.out) ?_; intro w8 hgR8 hs8 ho8 hb8; have hgX8 := (ho8 _ (by omega)).trans hgX7; have hgY8 := (ho8 _ (by omega)).trans hgY7; have hgO8 := (ho8 _ (by omega)).trans hgO7; have hgP8 := (ho8 _ (by omega)).trans hgP7; have hgQ8 := (ho8 _ (by omega)).trans hgQ7; obtain ⟨eq8, fq8, lq8⟩ := cells_of hgQ8))
        have hB5 := (below_then hB3 hb4).trans (hb5 _ (by omega))
        have hB8 := (below_then (below_then hB5 hb6) hb7).trans (hb8 _ (by omega))
        go_roundg m
        case measure => omega
        case rel => exact ⟨m, (m : Int) - 1, _, R3, by omega, rfl, rfl, rfl, HFIN.out, heap_set_other hgX8 (by omega), heap_set_other hgY8 (by omega), heap_set_other hgO8 (by omega), heap_set_other hgP8 (by omega), heap_set hgQ8, heap_set_other hgR8 (by omega), below_set hB8 (by omega)⟩
end Go.Proofs.Yticdcdahehodkaa
