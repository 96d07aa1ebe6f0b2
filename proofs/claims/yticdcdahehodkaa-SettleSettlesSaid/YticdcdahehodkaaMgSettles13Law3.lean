/- Texts that Settles13Law stands on, one behind the other, part 3. Conditions: each theorem names its own. -/
import Derived.Test.YticdcdahehodkaaMgSettles13Law2
import Derived.DeepKeys
import Derived.Laws.StructEq
import Derived.Laws.Tables
import Derived.Laws.Externs
/-! The document's numbers: a sign and twelve digits: made of an integer, added, negated, read back. Condition: each digit is one. -/
namespace Go.Proofs.Yticdcdahehodkaa
set_option linter.unusedVariables false
set_option linter.unusedSimpArgs false
open Go.RowKit

/-- a sign and digits -/
def nm (s : Bool) (D : Array Value) : Array Value := #[.bool s] ++ D
theorem nm_size {s : Bool} {D : Array Value} (h : D.size = 12) : (nm s D).size = 13 := by simp [nm, h]
theorem nm_0 (s : Bool) (D : Array Value) : (nm s D)[0]? = some (.bool s) := by unfold nm; rw [Array.getElem?_append_left (by simp)]; rfl
theorem nm_at (s : Bool) (D : Array Value) (i : Nat) : (nm s D)[1 + i]? = D[i]? := by
  unfold nm
  rw [Array.getElem?_append_right (by simp)]
  simp
theorem nm_ext {s : Bool} {D : Array Value} (h : D.size = 12) : (nm s D).extract 1 13 = D := by
  apply Array.ext_getElem?
  intro i
  rw [Array.getElem?_extract]
  by_cases hi : i < 12
  · rw [if_pos (by rw [nm_size h]; omega), nm_at]
  · rw [if_neg (by omega)]; symm; rw [Array.getElem?_eq_none_iff]; omega
theorem nm_set (s : Bool) (D : Array Value) (k : Nat) (v : Value) : (nm s D).setIfInBounds (1 + k) v = nm s (D.setIfInBounds k v) := by
  apply Array.ext_getElem?
  intro i
  cases i with
  | zero => rw [Array.getElem?_setIfInBounds_ne (by omega), nm_0, nm_0]
  | succ i =>
    rw [Nat.add_comm i 1, nm_at]
    by_cases e : k = i
    · subst e
      by_cases hk : k < D.size
      · rw [Array.getElem?_setIfInBounds_self_of_lt (by simp [nm]; omega), Array.getElem?_setIfInBounds_self_of_lt hk]
      · rw [Array.getElem?_eq_none_iff.2 (by simp [nm]; omega), Array.getElem?_eq_none_iff.2 (by simp; omega)]
    · rw [Array.getElem?_setIfInBounds_ne (by omega), nm_at, Array.getElem?_setIfInBounds_ne e]
theorem nm_all {s : Bool} {D : Array Value} (h : IsD D) : (nm s D).all (·.oneCell') = true := all_one fun i v hv => by
  cases i with
  | zero => rw [nm_0] at hv; injection hv with hv; subst hv; rfl
  | succ i =>
    rw [Nat.add_comm, nm_at] at hv
    have h1 := h.all
    rw [Array.all_eq_true'] at h1
    exact h1 v (Array.mem_of_getElem? hv)
/-- its value -/
def sv (s : Bool) (D : Array Value) : Int := if s then -(lv D 12) else lv D 12

theorem fold_off (o : Nat) : ∀ (l : List Value) (k : Nat) (cs : Array Value), o + k + l.length ≤ cs.size →
    ((l.zipIdx k).foldl (fun cs x => cs.setIfInBounds (o + x.2) x.1) cs).size = cs.size ∧
    ∀ i, ((l.zipIdx k).foldl (fun cs x => cs.setIfInBounds (o + x.2) x.1) cs)[i]? = if o + k ≤ i ∧ i < o + k + l.length then l[i - (o + k)]? else cs[i]?
  | [], k, cs, _ => by
    refine ⟨rfl, fun i => ?_⟩
    simp
    omega
  | v :: l, k, cs, h => by
    simp only [List.length_cons] at h
    simp only [List.zipIdx_cons, List.foldl_cons]
    obtain ⟨h1, h2⟩ := fold_off o l (k + 1) (cs.setIfInBounds (o + k) v) (by simp; omega)
    refine ⟨by rw [h1]; simp, fun i => ?_⟩
    rw [h2 i]
    by_cases e : i = o + k
    · subst e
      rw [if_neg (by omega), if_pos (by simp), Array.getElem?_setIfInBounds_self_of_lt (by omega)]
      simp
    · by_cases e2 : o + (k + 1) ≤ i ∧ i < o + (k + 1) + l.length
      · rw [if_pos e2, if_pos (by simp; omega), show i - (o + k) = (i - (o + (k + 1))) + 1 by omega, List.getElem?_cons_succ]
      · rw [if_neg e2, if_neg (by simp; omega), Array.getElem?_setIfInBounds_ne (by omega)]

theorem built_sign (s : Bool) : Try.prog.built 58 [(0, .bool s)] = some (nm s z12) := by cases s <;> kernel_rfl
theorem built_num {s : Bool} {D : Array Value} (h : D.size = 12) : Try.prog.built 58 [(0, .bool s), (1, .agg D)] = some (nm s D) := by
  have h0 := built_sign s
  have hp : (#[({ name := "Neg", type := 4, offset := 0, embedded := false, tag := "", pkgPath := "", byteOffset := 0 } : Field), { name := "D", type := 56, offset := 1, embedded := false, tag := "", pkgPath := "", byteOffset := 8 }].toList.mapM
      (fun f => (Try.prog.info? f.type).map fun i => (f.offset, i.size))) = some [(0, 1), (1, 12)] := by kernel_rfl
  unfold Program.built at h0 ⊢
  cases hq : Try.prog.info? 58 with
  | none => simp [hq] at h0
  | some it =>
    cases hz : it.zero with
    | none => simp only [hq, Try.underlying58, hz] at h0; cases h0
    | some z =>
      simp only [hq, Try.underlying58, hz, hp] at h0 ⊢
      unfold Instr.fill at h0 ⊢
      generalize hc : z.cells = zc at *
      change (if (decide ((Value.bool s).cells.size ≠ 1) || decide (0 + (Value.bool s).cells.size > zc.size)) = true then none else _) = _ at h0
      change (if (decide ((Value.bool s).cells.size ≠ 1) || decide (0 + (Value.bool s).cells.size > zc.size)) = true then none else _) = _
      by_cases hcc : (decide ((Value.bool s).cells.size ≠ 1) || decide (0 + (Value.bool s).cells.size > zc.size)) = true
      · rw [if_pos hcc] at h0; cases h0
      · rw [if_neg hcc] at h0 ⊢
        unfold Instr.fill at h0 ⊢
        injection h0 with h0
        rw [h0]
        change (if (decide (D.size ≠ 12) || decide (1 + D.size > (nm s z12).size)) = true then none else _) = _
        rw [if_neg (by rw [h]; simp [nm, z12])]
        unfold Instr.fill
        congr 1
        have hf := fold_off 1 D.toList 0 (nm s z12) (by rw [Array.length_toList, h]; simp [nm, z12])
        have e : Array.foldl (fun cs x => cs.setIfInBounds (1 + x.2) x.1) (nm s z12) D.zipIdx = (D.toList.zipIdx 0).foldl (fun cs x => cs.setIfInBounds (1 + x.2) x.1) (nm s z12) := by
          rw [← Array.foldl_toList]
          simp
        show Array.foldl (fun cs x => cs.setIfInBounds (1 + x.2) x.1) (nm s z12) D.zipIdx = nm s D
        rw [e]
        apply Array.ext_getElem?
        intro i
        rw [hf.2 i]
        cases i with
        | zero => rw [if_neg (by omega), nm_0, nm_0]
        | succ i =>
          by_cases hi : i < 12
          · rw [if_pos (by simp [h]; omega), Nat.add_comm i 1, nm_at, show 1 + i - (1 + 0) = i by omega]; simp
          · rw [if_neg (by simp [h]; omega), Nat.add_comm i 1, nm_at, nm_at, Array.getElem?_eq_none_iff.2 (by simp [z12]; omega), Array.getElem?_eq_none_iff.2 (by omega)]

section
variable {ops : Array Oper} {rest : List Oper} {o : Oper} {a : Act} {w : World}
theorem wpList_build_num {Q : Exit → Act → World → Prop} (hgd : o.guard = none) (x y : Operand) (ho : o.op = .build 58 #[(0, x), (1, y)]) (s : Bool) (D : Array Value) (hx : a.eval x = .bool s) (hy : a.eval y = .agg D) (hD : D.size = 12)
    (h : wpList Try.prog ops Q rest (a.put o.dst (.agg (nm s D))) w) : wpList Try.prog ops Q (o :: rest) a w := by
  have hb : Try.prog.built 58 ((#[(0, x), (1, y)] : Array (Nat × Operand)).map fun (i, x) => (i, a.eval x)).toList = some (nm s D) := by
    simp only [List.map_toArray, List.map_cons, List.map_nil, hx, hy]; exact built_num hD
  refine wpList_build hgd 58 _ ho (by rw [hb]; rfl) ?_
  rw [hb]
  exact h
theorem wpList_build_sign {Q : Exit → Act → World → Prop} (hgd : o.guard = none) (x : Operand) (ho : o.op = .build 58 #[(0, x)]) (s : Bool) (hx : a.eval x = .bool s)
    (h : wpList Try.prog ops Q rest (a.put o.dst (.agg (nm s z12))) w) : wpList Try.prog ops Q (o :: rest) a w := by
  have hb : Try.prog.built 58 ((#[(0, x)] : Array (Nat × Operand)).map fun (i, x) => (i, a.eval x)).toList = some (nm s z12) := by
    simp only [List.map_toArray, List.map_cons, List.map_nil, hx]; exact built_sign s
  refine wpList_build hgd 58 _ ho (by rw [hb]; rfl) ?_
  rw [hb]
  exact h
theorem at_buildP (T : TypeId) {P : Program} {Q : Exit → Act → World → Prop} {d : Option Tmp} {ps : Array (Nat × Operand)} {ty : TypeId} {pos : String} {af : Array Edge} {gd : Option (Nat × Bool)}
    (h : wpList P ops Q (⟨d, .build T ps, ty, pos, af, gd⟩ :: rest) a w) : wpList P ops Q (⟨d, .build T ps, ty, pos, af, gd⟩ :: rest) a w := h
theorem q_build_num {C : World → Prop} {Q : Act → Prop} (hw : Region.wanted o (yielded ops a.tmps) = true) (x y : Operand) (ho : o.op = .build 58 #[(0, x), (1, y)]) (s : Bool) (D : Array Value) (hx : a.eval x = .bool s) (hy : a.eval y = .agg D) (hD : D.size = 12)
    (h : WQ Try.prog ops C Q rest (a.put o.dst (.agg (nm s D)))) : WQ Try.prog ops C Q (o :: rest) a := by
  refine q_val (.agg (nm s D)) hw (fun w _ => ?_) h
  have hb : Try.prog.built 58 ((#[(0, x), (1, y)] : Array (Nat × Operand)).map fun (i, x) => (i, a.eval x)).toList = some (nm s D) := by
    simp only [List.map_toArray, List.map_cons, List.map_nil, hx, hy]; exact built_num hD
  unfold execOp
  simp only [ho, Sem.run_bind, run_build w 58 _ _ hb, Result.andThen_ok]
  rfl
theorem at_qbuild (T : TypeId) {P : Program} {C : World → Prop} {Q : Act → Prop} {d : Option Tmp} {ps : Array (Nat × Operand)} {ty : TypeId} {pos : String} {af : Array Edge} {gd : Option (Nat × Bool)}
    (h : WQ P ops C Q (⟨d, .build T ps, ty, pos, af, gd⟩ :: rest) a) : WQ P ops C Q (⟨d, .build T ps, ty, pos, af, gd⟩ :: rest) a := h
end

/-! made of an integer -/
def nk (n : Int) : Nat → Int
  | 0 => n
  | k + 1 => nk n k / 65536
def oD (n : Int) : Nat → Array Value
  | 0 => z12
  | k + 1 => (oD n k).setIfInBounds k (.int .u64 (nk n k % 65536))
theorem z12_D : IsD z12 := ⟨rfl, fun i hi => by
  have : i = 0 ∨ i = 1 ∨ i = 2 ∨ i = 3 ∨ i = 4 ∨ i = 5 ∨ i = 6 ∨ i = 7 ∨ i = 8 ∨ i = 9 ∨ i = 10 ∨ i = 11 := by omega
  rcases this with rfl | rfl | rfl | rfl | rfl | rfl | rfl | rfl | rfl | rfl | rfl | rfl <;> exact ⟨rfl, by decide, by decide⟩⟩
theorem z12_N (i : Nat) : N z12 i = 0 := by
  by_cases hi : i < 12
  · have : i = 0 ∨ i = 1 ∨ i = 2 ∨ i = 3 ∨ i = 4 ∨ i = 5 ∨ i = 6 ∨ i = 7 ∨ i = 8 ∨ i = 9 ∨ i = 10 ∨ i = 11 := by omega
    rcases this with rfl | rfl | rfl | rfl | rfl | rfl | rfl | rfl | rfl | rfl | rfl | rfl <;> rfl
  · unfold N; rw [Array.getElem?_eq_none_iff.2 (by simp [z12]; omega)]
theorem N_setj {A : Array Value} {i j : Nat} {v : Value} (h : i ≠ j) : N (A.setIfInBounds i v) j = N A j := by
  unfold N; rw [Array.getElem?_setIfInBounds_ne h]
theorem N_seti {A : Array Value} {i : Nat} {k : IntKind} {n : Int} (h : i < A.size) : N (A.setIfInBounds i (.int k n)) i = n := by
  unfold N; rw [Array.getElem?_setIfInBounds_self_of_lt h]
theorem IsD.set {D : Array Value} (h : IsD D) {k : Nat} {v : Int} (hv : 0 ≤ v ∧ v < 65536) : IsD (D.setIfInBounds k (.int .u64 v)) where
  size := by simpa using h.size
  c := fun i hi => by
    by_cases e : k = i
    · subst e
      rw [N_seti (by rw [h.size]; omega)]
      exact ⟨Array.getElem?_setIfInBounds_self_of_lt (by rw [h.size]; omega), hv⟩
    · rw [N_setj e, Array.getElem?_setIfInBounds_ne e]
      exact h.c i hi
theorem oD_D (n : Int) : ∀ k, IsD (oD n k)
  | 0 => z12_D
  | k + 1 => (oD_D n k).set (by omega)
theorem oD_zero (n : Int) (i : Nat) : ∀ k, k ≤ i → N (oD n k) i = 0
  | 0, _ => z12_N i
  | k + 1, hk => by unfold oD; rw [N_setj (by omega)]; exact oD_zero n i k (by omega)
theorem lv_set {D : Array Value} {k : Nat} {v : Value} : lv (D.setIfInBounds k v) k = lv D k := lv_congr k (fun i hi => N_setj (by omega))
theorem oD_low (n : Int) : ∀ k, k ≤ 12 → lv (oD n k) k + nk n k * P16 k = n
  | 0, _ => by simp [lv, nk, P16]
  | k + 1, hk => by
    have ih := oD_low n k (by omega)
    rw [lv, P16_s, nk]
    unfold oD
    rw [lv_set, N_seti (by rw [(oD_D n k).size]; omega)]
    have e : nk n k = nk n k % 65536 + 65536 * (nk n k / 65536) := by omega
    have e2 : nk n k * P16 k = (nk n k % 65536) * P16 k + 65536 * (nk n k / 65536 * P16 k) := by
      rw [← Int.mul_assoc, ← Int.add_mul, ← e]
    have e3 : nk n k / 65536 * (65536 * P16 k) = 65536 * (nk n k / 65536 * P16 k) := Int.mul_left_comm _ _ _
    rw [e3]
    omega
theorem nk_4 {n : Int} (h : 0 ≤ n ∧ n < 18446744073709551616) : nk n 4 = 0 := by
  simp only [nk]
  omega
theorem oD_val {n : Int} (h : 0 ≤ n ∧ n < 18446744073709551616) : lv (oD n 4) 12 = n := by
  rw [lv_top (k := 4) (by omega) (fun j h1 h2 => oD_zero n j 4 h1)]
  have := oD_low n 4 (by omega)
  rw [nk_4 h] at this
  omega
end Go.Proofs.Yticdcdahehodkaa
/-! The document's numbers: Of, Zero, Plus, Minus, Int, told. Condition: each digit is one. -/
namespace Go.Proofs.Yticdcdahehodkaa
set_option linter.unusedVariables false
set_option linter.unusedSimpArgs false
open Go.RowKit

theorem bodyPost_cell {fn : Func} {P : Program} {p : Tmp} {ty : TypeId} {R : Ending → World → Prop} {a : Act} {w : World} {g : Nat} {t : TypeId} {cs : Array Value} {d : TypeDesc} (h : fn.results = #[.cell p ty])
    (hp : a.tmps.getD p undef = .pointer (some ⟨g, 0, none⟩)) (hd0 : a.defers = []) (hg : w.heap[g]? = some (.cells cs t (0, 0)))
    (hu : P.underlying ty = some d) (hd : (match d with | .struct _ | .array _ _ => true | _ => false) = true) (hi : (P.info? ty).map (·.size) = some cs.size) (hR : R (.returned (.agg cs)) w) : bodyPost P fn R .ret a w :=
  bodyPost_ret (results_cell_any h _ _ _ _ _ _ hp hg hu hd hi) hd0 hR

theorem nk_bd {n : Int} (h : 0 ≤ n ∧ n < 18446744073709551616) : ∀ k, 0 ≤ nk n k ∧ nk n k < 18446744073709551616
  | 0 => h
  | k + 1 => by have := nk_bd h k; rw [nk]; omega
set_option maxHeartbeats 1000000 in
theorem of_any (x : Int) (w : World) (hx : F64 x) :
    Calls Try.prog 27 #[.int .i64 x] w fun e w' => e = .returned (.agg (nm (decide (x < 0)) (oD (if x < 0 then -x else x) 4))) ∧ Below w.heap.size w w' := by
  unfold F64 at hx
  by_cases h0 : x < 0
  · rw [if_pos h0]
    have HS := Lib.hid (show decide (x < 0) = true from decide_eq_true h0)
    rw [HS.out]
    obtain ⟨m, hm⟩ : ∃ m : Int, m = -x := ⟨_, rfl⟩
    rw [← hm]
    obtain rfl : x = -m := by omega
    have h0' : 0 < m := by omega
    clear hm HS
    have hsz : (nm true z12).size = 13 := nm_size z12_D.size
    have HZ := Lib.hid hsz
    clear hsz
    go_enter Try.func27, Try.ntmps27
    go_wp2_with (first | ((with_reducible refine at_alloc 58 ?_); refine wpList_alloc_named rfl 58 rfl (nm false z12) (by kernel_rfl) ?_) | ((with_reducible refine at_buildP 58 ?_); refine wpList_build_sign rfl _ rfl true rfl ?_) | ((with_reducible refine at_store 58 ?_); refine wpList_store_new rfl 58 _ _ rfl (nm true z12) _ _ _ rfl (by simp) rfl (by rw [HZ.out]; kernel_rfl) (by rw [HZ.out]; exact nm_size z12_D.size) (nm_all z12_D) ?_))
    have hZs : (nm false z12).size = 13 := nm_size z12_D.size
    have HZs := Lib.hid hZs
    clear hZs HZ
    generalize hX0 : nm true z12 = X0 at *
    generalize hZ0 : nm false z12 = Z0 at *
    have HX0 := Lib.hid hX0
    clear hX0 hZ0
    go_loopg [3, 5] 4 (fun gh c i wr => ∃ k : Nat, k ≤ 4 ∧ gh = 4 - k ∧ c = .int .u64 (nk m k) ∧ i = .int .i64 k ∧ wr.heap[w.heap.size]? = some (.cells Z0 58 (0, 0)) ∧
      wr.heap[w.heap.size + 1]? = some (.cells (nm true (oD m k)) 58 (0, 0)) ∧ Below w.heap.size w wr)
    case atStart => exact ⟨0, by omega, by omega, by show _ = Value.int .u64 m; congr 1; omega, rfl, by repeat (first | exact heap_new (by simp; done) | refine heap_up ?_), by rw [show nm true (oD m 0) = _ from HX0.out]; exact (by repeat (first | exact heap_new (by simp; done) | refine heap_up ?_)), below_alloc (below_new _ _) _⟩
    case round =>
      obtain ⟨k, hk, rfl, rfl, rfl, hgZ, hgA, hb⟩ := hrel
      have hD := oD_D m k
      by_cases hlt : k < 4
      · have hn := nk_bd (n := m) (by omega) k
        have ha := (hD.c k (by omega)).1
        rw [← nm_at true] at ha
        have ha' : (nm true (oD m k))[1 + k]? = some (.int .u64 (N (oD m k) k)) := ha
        have HP := Lib.hid (show nm true (oD m (k + 1)) = (nm true (oD m k)).setIfInBounds (1 + k) (.int .u64 (nk m k % 65536)) from by rw [nm_set]; rfl)
        have HC := Lib.hid (show nk m (k + 1) = nk m k / 65536 from rfl)
        obtain ⟨c4, f4, _⟩ := cells_of hgA
        clear ha hD
        generalize nk m k = c at *
        generalize N (oD m k) k = x at *
        go_wp2
        go_roundg (4 - (k + 1))
        case measure => omega
        case rel => exact ⟨k + 1, by omega, rfl, by rw [HC.out], by go_num, heap_set_other hgZ (by omega), by rw [HP.out]; exact heap_set hgA, set_below hb (by omega)⟩
      · obtain rfl : k = 4 := by omega
        have HE := Lib.hid (extract_all (nm_size (s := true) hD.size))
        have HS := Lib.hid (nm_size (s := true) hD.size)
        have HA := Lib.hid (nm_all (s := true) hD)
        clear hD
        generalize hXX : nm true (oD m 4) = X at *
        have HXX := Lib.hid hXX
        clear hXX
        go_wp2_with (first | ((with_reducible refine at_load 58 ?_); refine wpList_load_part rfl 58 _ rfl (w.heap.size + 1) (0) rfl _ (X) _ _ 13 (hgA) Try.underlying58 rfl (by kernel_rfl) (by rw [HS.out]; omega) (X) (HE.out) ?_) | ((with_reducible refine at_store 58 ?_); refine wpList_store_over rfl 58 _ _ rfl (w.heap.size) (X) rfl rfl _ _ (hgZ) (by rw [HS.out]; kernel_rfl) (by rw [HS.out]; exact HZs.out) (HA.out) ?_; intro w1 hg1 hs1 ho1 hb1))
        exact bodyPost_ret (results_cell_any rfl _ _ _ _ _ _ rfl hg1 Try.underlying58 rfl (by rw [HS.out]; kernel_rfl)) rfl ⟨by rw [HXX.out], hb.trans (hb1 _ (Nat.le_refl _))⟩
  · rw [if_neg h0]
    have HS := Lib.hid (show decide (x < 0) = false from decide_eq_false h0)
    rw [HS.out]
    clear HS
    obtain ⟨m, hm⟩ : ∃ m : Int, m = x := ⟨_, rfl⟩
    subst hm
    have h0' : 0 ≤ m := by omega
    have hsz : (nm false z12).size = 13 := nm_size z12_D.size
    have HZ := Lib.hid hsz
    clear hsz
    go_enter Try.func27, Try.ntmps27
    go_wp2_with (first | ((with_reducible refine at_alloc 58 ?_); refine wpList_alloc_named rfl 58 rfl (nm false z12) (by kernel_rfl) ?_) | ((with_reducible refine at_buildP 58 ?_); refine wpList_build_sign rfl _ rfl false rfl ?_) | ((with_reducible refine at_store 58 ?_); refine wpList_store_new rfl 58 _ _ rfl (nm false z12) _ _ _ rfl (by simp) rfl (by rw [HZ.out]; kernel_rfl) rfl (nm_all z12_D) ?_))
    have hZs : (nm false z12).size = 13 := nm_size z12_D.size
    have HZs := Lib.hid hZs
    clear hZs HZ
    generalize hZ0 : nm false z12 = Z0 at *
    have hX0 := hZ0
    have HX0 := Lib.hid hX0
    clear hX0 hZ0
    go_loopg [3, 5] 4 (fun gh c i wr => ∃ k : Nat, k ≤ 4 ∧ gh = 4 - k ∧ c = .int .u64 (nk m k) ∧ i = .int .i64 k ∧ wr.heap[w.heap.size]? = some (.cells Z0 58 (0, 0)) ∧
      wr.heap[w.heap.size + 1]? = some (.cells (nm false (oD m k)) 58 (0, 0)) ∧ Below w.heap.size w wr)
    case atStart => exact ⟨0, by omega, by omega, rfl, rfl, heap_alloc2_old _ _ _, by rw [show nm false (oD m 0) = _ from HX0.out]; exact heap_alloc2_new _ _ _, below_alloc (below_new _ _) _⟩
    case round =>
      obtain ⟨k, hk, rfl, rfl, rfl, hgZ, hgA, hb⟩ := hrel
      have hD := oD_D m k
      by_cases hlt : k < 4
      · have hn := nk_bd (n := m) (by omega) k
        have ha := (hD.c k (by omega)).1
        rw [← nm_at false] at ha
        have ha' : (nm false (oD m k))[1 + k]? = some (.int .u64 (N (oD m k) k)) := ha
        have HP := Lib.hid (show nm false (oD m (k + 1)) = (nm false (oD m k)).setIfInBounds (1 + k) (.int .u64 (nk m k % 65536)) from by rw [nm_set]; rfl)
        have HC := Lib.hid (show nk m (k + 1) = nk m k / 65536 from rfl)
        obtain ⟨c4, f4, _⟩ := cells_of hgA
        clear ha hD
        generalize nk m k = c at *
        generalize N (oD m k) k = x at *
        go_wp2
        go_roundg (4 - (k + 1))
        case measure => omega
        case rel => exact ⟨k + 1, by omega, rfl, by rw [HC.out], by go_num, heap_set_other hgZ (by omega), by rw [HP.out]; exact heap_set hgA, set_below hb (by omega)⟩
      · obtain rfl : k = 4 := by omega
        have HE := Lib.hid (extract_all (nm_size (s := false) hD.size))
        have HS := Lib.hid (nm_size (s := false) hD.size)
        have HA := Lib.hid (nm_all (s := false) hD)
        clear hD
        generalize hXX : nm false (oD m 4) = X at *
        have HXX := Lib.hid hXX
        clear hXX
        go_wp2_with (first | ((with_reducible refine at_load 58 ?_); refine wpList_load_part rfl 58 _ rfl (w.heap.size + 1) (0) rfl _ (X) _ _ 13 (hgA) Try.underlying58 rfl (by kernel_rfl) (by rw [HS.out]; omega) (X) (HE.out) ?_) | ((with_reducible refine at_store 58 ?_); refine wpList_store_over rfl 58 _ _ rfl (w.heap.size) (X) rfl rfl _ _ (hgZ) (by rw [HS.out]; kernel_rfl) (by rw [HS.out]; exact HZs.out) (HA.out) ?_; intro w1 hg1 hs1 ho1 hb1))
        exact bodyPost_ret (results_cell_any rfl _ _ _ _ _ _ rfl hg1 Try.underlying58 rfl (by rw [HS.out]; kernel_rfl)) rfl ⟨by rw [HXX.out], hb.trans (hb1 _ (Nat.le_refl _))⟩
end Go.Proofs.Yticdcdahehodkaa
/-! The document's numbers: Zero, Plus, Minus, Int, told. Condition: each digit is one. -/
namespace Go.Proofs.Yticdcdahehodkaa
set_option linter.unusedVariables false
set_option linter.unusedSimpArgs false
open Go.RowKit

theorem mapM_all {α β : Type} {f : α → Option β} {g : α → β} : ∀ l : List α, (∀ x ∈ l, f x = some (g x)) → l.mapM f = some (l.map g)
  | [], _ => rfl
  | x :: l, h => by rw [List.mapM_cons, h x (by simp), mapM_all l (fun y hy => h y (by simp [hy]))]; rfl
theorem kl_dig {D : Array Value} (h : IsD D) : Try.prog.keyLits 2 56 D.toList = some ((List.range 12).map fun i => Lit.int .u64 (N D i)) := by
  have c1 : Try.prog.cellsOf 55 = 1 := by kernel_rfl
  have c12 : Try.prog.cellsOf 56 = 12 := by kernel_rfl
  unfold Program.keyLits
  rw [Try.underlying56]
  simp only [c12, Array.length_toList, h.size, if_true]
  rw [mapM_all (g := fun i => [Lit.int .u64 (N D i)]) (List.range 12) (fun i hi => by
    have hi' := List.mem_range.1 hi
    obtain ⟨h1, h2, h3⟩ := h.c i hi'
    rw [c1, Nat.mul_one]
    have h1' : D.toList[i]? = some (.int .u64 (N D i)) := by rw [Array.getElem?_toList]; exact h1
    have hlt : i < D.toList.length := (List.getElem?_eq_some_iff.1 h1').1
    have e : (D.toList.drop i).take 1 = [.int .u64 (N D i)] := by
      rw [List.drop_eq_getElem_cons hlt, List.take_succ_cons, List.take_zero, (List.getElem?_eq_some_iff.1 h1').2]
    rw [e]
    unfold Program.keyLits
    rw [Try.underlying55]
    have hw : (Lit.int .u64 (N D i)).wf = true := WalkArith.wf_u64 ⟨h2, by omega⟩
    simp [hw])]
  rfl
theorem eq_dig {D : Array Value} (h : IsD D) (w : World) : (binOp .eql 56 (.agg D) (.agg z12)).run Try.prog w = .ok (.bool (decide (lv D 12 = 0))) w := by
  have c12 : Try.prog.cellsOf 56 = 12 := by kernel_rfl
  have hf : ∀ E : Array Value, E.size = 12 → (Value.agg E).formed Try.prog 56 = true := fun E hE => by
    simp [Value.formed, Try.underlying56, c12, hE]
  obtain ⟨r, h1, h2⟩ := run_equalIn_deep (P := Try.prog) 9998 2 56 (by kernel_rfl) w 2 2 (.agg D) (.agg z12) ((List.range 12).map fun i => Lit.int .u64 (N D i)) ((List.range 12).map fun i => Lit.int .u64 (N z12 i)) (hf D h.size) (hf z12 rfl) (kl_dig h) (kl_dig z12_D)
  rw [show (9998 + 2 : Nat) = 10000 from rfl] at h1
  rw [run_eql_struct, h1]
  have h3 : r = decide (lv D 12 = 0) := by
    rw [Bool.eq_iff_iff, h2, decide_eq_true_eq, lv_zero h]
    constructor
    · intro h4 j hj
      have h5 := congrArg (fun l => l[j]?) h4
      simp only [List.getElem?_map, List.getElem?_range hj, Option.map_some, Option.some.injEq, Lit.int.injEq, true_and] at h5
      rw [h5, z12_N]
    · intro h4
      apply List.map_congr_left
      intro i hi
      rw [h4 i (List.mem_range.1 hi), z12_N]
  rw [h3]
  rfl

set_option maxHeartbeats 1000000 in
theorem zero_any (s : Bool) (D : Array Value) (w : World) (hD : IsD D) :
    Calls Try.prog 29 #[.agg (nm s D)] w fun e w' => e = .returned (.bool (decide (lv D 12 = 0))) ∧ Below w.heap.size w w' := by
  have HE := Lib.hid (nm_ext (s := s) hD.size)
  have HS := Lib.hid (nm_size (s := s) hD.size)
  have heq := eq_dig hD
  have hgt : Try.prog.eqGuardType Try.prog.depth 56 = false := by kernel_rfl
  clear hD
  generalize decide (lv D 12 = 0) = b at *
  generalize hX : nm s D = X at *
  clear hX
  go_enter Try.func29, Try.ntmps29
  go_wp2_with (first | ((with_reducible refine at_load 56 ?_); refine wpList_load_part rfl 56 _ rfl (w.heap.size) (1) rfl _ (X) _ _ 12 (heap_alloc_new _ _) Try.underlying56 rfl (by kernel_rfl) (by rw [HS.out]; omega) (D) (HE.out) ?_) | ((with_reducible refine at_build 56 ?_); refine wpList_build_named rfl 56 _ rfl (z12) (by kernel_rfl) ?_))
  go_ret
  exact ⟨rfl, below_new _ _⟩


/-- what Plus answers -/
def psS (s : Bool) (A : Array Value) (t : Bool) (B : Array Value) : Bool := if s = t then s else if lv A 12 < lv B 12 then t else s
def psD (s : Bool) (A : Array Value) (t : Bool) (B : Array Value) : Array Value := if s = t then pl A B 12 else if lv A 12 < lv B 12 then mi B A 12 else mi A B 12
theorem ps_D {s t : Bool} {A B : Array Value} (hA : IsD A) (hB : IsD B) : IsD (psD s A t B) := by
  unfold psD
  split
  · exact pl_D hA
  · split
    · exact mi_D hB
    · exact mi_D hA
theorem ps_val {s t : Bool} {A B : Array Value} (hA : IsD A) (hB : IsD B) (h : lv A 12 + lv B 12 < P16 12) :
    sv (psS s A t B) (psD s A t B) = sv s A + sv t B ∧ lv (psD s A t B) 12 ≤ lv A 12 + lv B 12 := by
  have a0 := (lv_bd hA 12 (by omega)).1
  have b0 := (lv_bd hB 12 (by omega)).1
  unfold psS psD sv
  by_cases e : s = t
  · subst e
    rw [if_pos rfl, if_pos rfl, pl_val hA hB h]
    cases s
    · simp
    · simp; omega
  · rw [if_neg e, if_neg e]
    by_cases hl : lv A 12 < lv B 12
    · rw [if_pos hl, if_pos hl, mi_val hB hA (by omega)]
      cases s <;> cases t <;> simp at e ⊢ <;> omega
    · rw [if_neg hl, if_neg hl, mi_val hA hB (by omega)]
      cases s <;> cases t <;> simp at e ⊢ <;> omega

theorem op_store_over {P : Program} {o : Oper} {a : Act} {w : World} {K : Act → World → Prop} {Q : Exit → Act → World → Prop} (ty : TypeId) (x y : Operand) (ho : o.op = .store ty x y)
    (g : Nat) (S : Array Value) (hx : a.eval x = .pointer (some ⟨g, 0, none⟩)) (hy : a.eval y = .agg S)
    (t : TypeId) (old : Array Value) (hg : w.heap[g]? = some (.cells old t (0, 0))) (hi : (P.info? ty).map (·.size) = some S.size)
    (hold : old.size = S.size) (h1 : S.all (·.oneCell') = true)
    (h : ∀ w1 : World, w1.heap[g]? = some (.cells S t (0, 0)) → (∀ B, B ≤ g → Below B w w1) → K (a.put o.dst undef) w1) : o.wp P a w K Q :=
  wp_store_row ty x y ho g S hx hy t old hg hi hold h1 (h _ (setRow_heap w g old S t _ hg)
    (fun B hB => ⟨rfl, rfl, rfl, Nat.le_of_eq (setRow_size _ _ _).symm, fun k hk => setRow_other w g k S (by omega)⟩))

set_option maxRecDepth 100000 in
set_option maxHeartbeats 2000000 in
theorem add_any (s t : Bool) (A B : Array Value) (w : World) (hA : IsD A) (hB : IsD B) :
    Calls Try.prog 28 #[.agg (nm s A), .agg (nm t B)] w fun e w' => e = .returned (.agg (nm (psS s A t B) (psD s A t B))) ∧ Below w.heap.size w w' := by
  by_cases e : s = t
  · have hst : (s == t) = true := by simpa using e
    obtain ⟨R, hRe⟩ : ∃ R, R = pl A B 12 := ⟨_, rfl⟩
    have hR : IsD R := by rw [hRe]; exact pl_D hA
    have HRS := Lib.hid (show psS s A t B = s by unfold psS; rw [if_pos e])
    have HRR := Lib.hid (show psD s A t B = R by unfold psD; rw [if_pos e, hRe])
    have cp := fun w => plus_any A B w hA hB
    rw [← hRe] at cp
    clear hRe e
    have HSX := Lib.hid (nm_size (s := s) hA.size)
    have HSY := Lib.hid (nm_size (s := t) hB.size)
    have HEX := Lib.hid (nm_ext (s := s) hA.size)
    have HEY := Lib.hid (nm_ext (s := t) hB.size)
    have HNs := Lib.hid (nm_size (s := s) hR.size)
    have HNa := Lib.hid (nm_all (s := s) hR)
    have HRs := Lib.hid hR.size
    have HZs := Lib.hid (show (nm false z12).size = 13 from nm_size z12_D.size)
    have n0 := nm_0 s A
    have m0 := nm_0 t B
    have HLS := Lib.hid (fun w => less_any A B w hA hB)
    clear hA hB hR
    generalize hX : nm s A = X at *
    generalize hY : nm t B = Y at *
    generalize hZ0 : nm false z12 = Z0 at *
    clear hX hY hZ0
    go_enter Try.func28, Try.ntmps28
    go_wp2_with (first | ((with_reducible refine at_alloc 58 ?_); refine wpList_alloc_named rfl 58 rfl (Z0) (by kernel_rfl) ?_))
    obtain ⟨w3, hw3⟩ : ∃ w3, w3 = ((w.alloc (.cells X 58)).alloc (.cells Y 58)).alloc (.cells Z0 58) := ⟨_, rfl⟩
    have hgX : w3.heap[w.heap.size]? = some (.cells X 58 (0, 0)) := by rw [hw3]; exact (by repeat (first | exact heap_new (by simp; done) | refine heap_up ?_))
    have hgY : w3.heap[w.heap.size + 1]? = some (.cells Y 58 (0, 0)) := by rw [hw3]; exact (by repeat (first | exact heap_new (by simp; done) | refine heap_up ?_))
    have hgZ : w3.heap[w.heap.size + 2]? = some (.cells Z0 58 (0, 0)) := by rw [hw3]; exact (by repeat (first | exact heap_new (by simp; done) | refine heap_up ?_))
    have hb0 : Below w.heap.size w w3 := by rw [hw3]; exact below_alloc (below_alloc (below_new _ _) _) _
    rw [← hw3]
    clear hw3
    refine wp_region_tail 8 (by kernel_rfl) (by kernel_rfl) (by kernel_rfl) (by kernel_rfl) rfl rfl (by kernel_rfl) (by kernel_rfl) ?_
    simp only [List.take, List.getD, List.getElem?_cons_succ, List.getElem?_cons_zero, Option.getD]
    repeat (first | ((with_reducible apply q_skip); (case hw => rfl); (try simp only [Act.put, List.setIfInBounds_toArray, List.set_cons_zero, List.set_cons_succ])) | ((with_reducible refine at_qload 56 ?_); refine q_load_part (by rfl) 56 _ rfl (w.heap.size) (1) rfl _ (X) _ 12 (hgX) Try.underlying56 rfl (by kernel_rfl) (by rw [HSX.out]; omega) (A) (HEX.out) ?_; try simp only [Act.put, List.setIfInBounds_toArray, List.set_cons_zero, List.set_cons_succ]) | ((with_reducible refine at_qload 56 ?_); refine q_load_part (by rfl) 56 _ rfl (w.heap.size + 1) (1) rfl _ (Y) _ 12 (hgY) Try.underlying56 rfl (by kernel_rfl) (by rw [HSY.out]; omega) (B) (HEY.out) ?_; try simp only [Act.put, List.setIfInBounds_toArray, List.set_cons_zero, List.set_cons_succ]) | ((with_reducible refine at_qcall 44 ?_); refine q_call_below _ 44 _ (by rfl) (cp) (fun wq hbq => by go_simp) ?_; try simp only [Act.put, List.setIfInBounds_toArray, List.set_cons_zero, List.set_cons_succ]) | ((with_reducible refine at_qcall 45 ?_); refine q_call_below _ 45 _ (by rfl) (cp) (fun wq hbq => by go_simp) ?_; try simp only [Act.put, List.setIfInBounds_toArray, List.set_cons_zero, List.set_cons_succ]) | ((with_reducible refine at_qbuild 58 ?_); refine q_build_num (by rfl) _ _ rfl s R rfl rfl HRs.out ?_; try simp only [Act.put, List.setIfInBounds_toArray, List.set_cons_zero, List.set_cons_succ]) | ((with_reducible apply q_val); (case hw => rfl); (case hv => intro wq hbq; have hcq := cellF (Yticdcdahehodkaa.kept hbq hgX); have hcr := cellF (Yticdcdahehodkaa.kept hbq hgY); go_simp; try rfl); (try simp only [Act.put, List.setIfInBounds_toArray, List.set_cons_zero, List.set_cons_succ])))
    refine q_nil ?_
    intro w4 hb4
    have hgZ4 := Yticdcdahehodkaa.kept hb4 hgZ
    have hs0 := hb0.size
    have hs4 := hb4.size
    refine op_store_over 58 _ _ rfl (w.heap.size + 2) (nm s R) rfl rfl 58 Z0 hgZ4 (by rw [HNs.out]; kernel_rfl) (by rw [HNs.out]; exact HZs.out) HNa.out ?_
    intro w5 hg5 hb5
    go_wp2
    exact bodyPost_ret (results_cell_any rfl _ _ _ _ _ _ rfl hg5 Try.underlying58 rfl (by rw [HNs.out]; kernel_rfl)) rfl ⟨by rw [HRS.out, HRR.out], (below_then hb0 hb4).trans (hb5 _ (by omega))⟩
  · have hst : (s == t) = false := by simpa using e
    by_cases hl : lv A 12 < lv B 12
    · have hld : decide (lv A 12 < lv B 12) = true := by simpa using hl
      obtain ⟨R, hRe⟩ : ∃ R, R = mi B A 12 := ⟨_, rfl⟩
      have hR : IsD R := by rw [hRe]; exact mi_D hB
      have HRS := Lib.hid (show psS s A t B = t by unfold psS; rw [if_neg e, if_pos hl])
      have HRR := Lib.hid (show psD s A t B = R by unfold psD; rw [if_neg e, if_pos hl, hRe])
      have cp := fun w => minus_any B A w hB hA
      rw [← hRe] at cp
      have HLD := Lib.hid hld
      clear hRe e hl hld
      have HSX := Lib.hid (nm_size (s := s) hA.size)
      have HSY := Lib.hid (nm_size (s := t) hB.size)
      have HEX := Lib.hid (nm_ext (s := s) hA.size)
      have HEY := Lib.hid (nm_ext (s := t) hB.size)
      have HNs := Lib.hid (nm_size (s := t) hR.size)
      have HNa := Lib.hid (nm_all (s := t) hR)
      have HRs := Lib.hid hR.size
      have HZs := Lib.hid (show (nm false z12).size = 13 from nm_size z12_D.size)
      have n0 := nm_0 s A
      have m0 := nm_0 t B
      have HLS := Lib.hid (fun w => less_any A B w hA hB)
      clear hA hB hR
      generalize hX : nm s A = X at *
      generalize hY : nm t B = Y at *
      generalize hZ0 : nm false z12 = Z0 at *
      clear hX hY hZ0
      go_enter Try.func28, Try.ntmps28
      go_wp2_with (first | ((with_reducible refine at_alloc 58 ?_); refine wpList_alloc_named rfl 58 rfl (Z0) (by kernel_rfl) ?_) | ((with_reducible refine at_load 56 ?_); refine wpList_load_part rfl 56 _ rfl (w.heap.size) (1) rfl _ (X) _ _ 12 (by repeat (first | exact heap_new (by simp; done) | refine heap_up ?_)) Try.underlying56 rfl (by kernel_rfl) (by rw [HSX.out]; omega) (A) (HEX.out) ?_) | ((with_reducible refine at_load 56 ?_); refine wpList_load_part rfl 56 _ rfl (w.heap.size + 1) (1) rfl _ (Y) _ _ 12 (by repeat (first | exact heap_new (by simp; done) | refine heap_up ?_)) Try.underlying56 rfl (by kernel_rfl) (by rw [HSY.out]; omega) (B) (HEY.out) ?_) | (go_at_call 41; (with_reducible refine (HLS.out _).mono ?_); rintro e w3 ⟨rfl, hb3⟩; rw [HLD.out]; have hgX := kept (g := w.heap.size) (o := .cells X 58) hb3 (by repeat (first | exact heap_new (by simp; done) | refine heap_up ?_)); have hgY := kept (g := w.heap.size + 1) (o := .cells Y 58) hb3 (by repeat (first | exact heap_new (by simp; done) | refine heap_up ?_)); have hgZ := kept (g := w.heap.size + 2) (o := .cells Z0 58) hb3 (by repeat (first | exact heap_new (by simp; done) | refine heap_up ?_)); have hb0 := below_then (below_alloc (below_alloc (below_new w _) _) _) hb3))
      refine wp_region_tail 8 (by kernel_rfl) (by kernel_rfl) (by kernel_rfl) (by kernel_rfl) rfl rfl (by kernel_rfl) (by kernel_rfl) ?_
      simp only [List.take, List.getD, List.getElem?_cons_succ, List.getElem?_cons_zero, Option.getD]
      repeat (first | ((with_reducible apply q_skip); (case hw => rfl); (try simp only [Act.put, List.setIfInBounds_toArray, List.set_cons_zero, List.set_cons_succ])) | ((with_reducible refine at_qload 56 ?_); refine q_load_part (by rfl) 56 _ rfl (w.heap.size) (1) rfl _ (X) _ 12 (hgX) Try.underlying56 rfl (by kernel_rfl) (by rw [HSX.out]; omega) (A) (HEX.out) ?_; try simp only [Act.put, List.setIfInBounds_toArray, List.set_cons_zero, List.set_cons_succ]) | ((with_reducible refine at_qload 56 ?_); refine q_load_part (by rfl) 56 _ rfl (w.heap.size + 1) (1) rfl _ (Y) _ 12 (hgY) Try.underlying56 rfl (by kernel_rfl) (by rw [HSY.out]; omega) (B) (HEY.out) ?_; try simp only [Act.put, List.setIfInBounds_toArray, List.set_cons_zero, List.set_cons_succ]) | ((with_reducible refine at_qcall 44 ?_); refine q_call_below _ 44 _ (by rfl) (cp) (fun wq hbq => by go_simp) ?_; try simp only [Act.put, List.setIfInBounds_toArray, List.set_cons_zero, List.set_cons_succ]) | ((with_reducible refine at_qcall 45 ?_); refine q_call_below _ 45 _ (by rfl) (cp) (fun wq hbq => by go_simp) ?_; try simp only [Act.put, List.setIfInBounds_toArray, List.set_cons_zero, List.set_cons_succ]) | ((with_reducible refine at_qbuild 58 ?_); refine q_build_num (by rfl) _ _ rfl t R rfl rfl HRs.out ?_; try simp only [Act.put, List.setIfInBounds_toArray, List.set_cons_zero, List.set_cons_succ]) | ((with_reducible apply q_val); (case hw => rfl); (case hv => intro wq hbq; have hcq := cellF (Yticdcdahehodkaa.kept hbq hgX); have hcr := cellF (Yticdcdahehodkaa.kept hbq hgY); go_simp; try rfl); (try simp only [Act.put, List.setIfInBounds_toArray, List.set_cons_zero, List.set_cons_succ])))
      refine q_nil ?_
      intro w4 hb4
      have hgZ4 := Yticdcdahehodkaa.kept hb4 hgZ
      have hs0 := hb0.size
      have hs4 := hb4.size
      refine op_store_over 58 _ _ rfl (w.heap.size + 2) (nm t R) rfl rfl 58 Z0 hgZ4 (by rw [HNs.out]; kernel_rfl) (by rw [HNs.out]; exact HZs.out) HNa.out ?_
      intro w5 hg5 hb5
      go_wp2
      exact bodyPost_ret (results_cell_any rfl _ _ _ _ _ _ rfl hg5 Try.underlying58 rfl (by rw [HNs.out]; kernel_rfl)) rfl ⟨by rw [HRS.out, HRR.out], (below_then hb0 hb4).trans (hb5 _ (by omega))⟩
    · have hld : decide (lv A 12 < lv B 12) = false := by simpa using hl
      obtain ⟨R, hRe⟩ : ∃ R, R = mi A B 12 := ⟨_, rfl⟩
      have hR : IsD R := by rw [hRe]; exact mi_D hA
      have HRS := Lib.hid (show psS s A t B = s by unfold psS; rw [if_neg e, if_neg hl])
      have HRR := Lib.hid (show psD s A t B = R by unfold psD; rw [if_neg e, if_neg hl, hRe])
      have cp := fun w => minus_any A B w hA hB
      rw [← hRe] at cp
      have HLD := Lib.hid hld
      clear hRe e hl hld
      have HSX := Lib.hid (nm_size (s := s) hA.size)
      have HSY := Lib.hid (nm_size (s := t) hB.size)
      have HEX := Lib.hid (nm_ext (s := s) hA.size)
      have HEY := Lib.hid (nm_ext (s := t) hB.size)
      have HNs := Lib.hid (nm_size (s := s) hR.size)
      have HNa := Lib.hid (nm_all (s := s) hR)
      have HRs := Lib.hid hR.size
      have HZs := Lib.hid (show (nm false z12).size = 13 from nm_size z12_D.size)
      have n0 := nm_0 s A
      have m0 := nm_0 t B
      have HLS := Lib.hid (fun w => less_any A B w hA hB)
      clear hA hB hR
      generalize hX : nm s A = X at *
      generalize hY : nm t B = Y at *
      generalize hZ0 : nm false z12 = Z0 at *
      clear hX hY hZ0
      go_enter Try.func28, Try.ntmps28
      go_wp2_with (first | ((with_reducible refine at_alloc 58 ?_); refine wpList_alloc_named rfl 58 rfl (Z0) (by kernel_rfl) ?_) | ((with_reducible refine at_load 56 ?_); refine wpList_load_part rfl 56 _ rfl (w.heap.size) (1) rfl _ (X) _ _ 12 (by repeat (first | exact heap_new (by simp; done) | refine heap_up ?_)) Try.underlying56 rfl (by kernel_rfl) (by rw [HSX.out]; omega) (A) (HEX.out) ?_) | ((with_reducible refine at_load 56 ?_); refine wpList_load_part rfl 56 _ rfl (w.heap.size + 1) (1) rfl _ (Y) _ _ 12 (by repeat (first | exact heap_new (by simp; done) | refine heap_up ?_)) Try.underlying56 rfl (by kernel_rfl) (by rw [HSY.out]; omega) (B) (HEY.out) ?_) | (go_at_call 41; (with_reducible refine (HLS.out _).mono ?_); rintro e w3 ⟨rfl, hb3⟩; rw [HLD.out]; have hgX := kept (g := w.heap.size) (o := .cells X 58) hb3 (by repeat (first | exact heap_new (by simp; done) | refine heap_up ?_)); have hgY := kept (g := w.heap.size + 1) (o := .cells Y 58) hb3 (by repeat (first | exact heap_new (by simp; done) | refine heap_up ?_)); have hgZ := kept (g := w.heap.size + 2) (o := .cells Z0 58) hb3 (by repeat (first | exact heap_new (by simp; done) | refine heap_up ?_)); have hb0 := below_then (below_alloc (below_alloc (below_new w _) _) _) hb3))
      refine wp_region_tail 8 (by kernel_rfl) (by kernel_rfl) (by kernel_rfl) (by kernel_rfl) rfl rfl (by kernel_rfl) (by kernel_rfl) ?_
      simp only [List.take, List.getD, List.getElem?_cons_succ, List.getElem?_cons_zero, Option.getD]
      repeat (first | ((with_reducible apply q_skip); (case hw => rfl); (try simp only [Act.put, List.setIfInBounds_toArray, List.set_cons_zero, List.set_cons_succ])) | ((with_reducible refine at_qload 56 ?_); refine q_load_part (by rfl) 56 _ rfl (w.heap.size) (1) rfl _ (X) _ 12 (hgX) Try.underlying56 rfl (by kernel_rfl) (by rw [HSX.out]; omega) (A) (HEX.out) ?_; try simp only [Act.put, List.setIfInBounds_toArray, List.set_cons_zero, List.set_cons_succ]) | ((with_reducible refine at_qload 56 ?_); refine q_load_part (by rfl) 56 _ rfl (w.heap.size + 1) (1) rfl _ (Y) _ 12 (hgY) Try.underlying56 rfl (by kernel_rfl) (by rw [HSY.out]; omega) (B) (HEY.out) ?_; try simp only [Act.put, List.setIfInBounds_toArray, List.set_cons_zero, List.set_cons_succ]) | ((with_reducible refine at_qcall 44 ?_); refine q_call_below _ 44 _ (by rfl) (cp) (fun wq hbq => by go_simp) ?_; try simp only [Act.put, List.setIfInBounds_toArray, List.set_cons_zero, List.set_cons_succ]) | ((with_reducible refine at_qcall 45 ?_); refine q_call_below _ 45 _ (by rfl) (cp) (fun wq hbq => by go_simp) ?_; try simp only [Act.put, List.setIfInBounds_toArray, List.set_cons_zero, List.set_cons_succ]) | ((with_reducible refine at_qbuild 58 ?_); refine q_build_num (by rfl) _ _ rfl s R rfl rfl HRs.out ?_; try simp only [Act.put, List.setIfInBounds_toArray, List.set_cons_zero, List.set_cons_succ]) | ((with_reducible apply q_val); (case hw => rfl); (case hv => intro wq hbq; have hcq := cellF (Yticdcdahehodkaa.kept hbq hgX); have hcr := cellF (Yticdcdahehodkaa.kept hbq hgY); go_simp; try rfl); (try simp only [Act.put, List.setIfInBounds_toArray, List.set_cons_zero, List.set_cons_succ])))
      refine q_nil ?_
      intro w4 hb4
      have hgZ4 := Yticdcdahehodkaa.kept hb4 hgZ
      have hs0 := hb0.size
      have hs4 := hb4.size
      refine op_store_over 58 _ _ rfl (w.heap.size + 2) (nm s R) rfl rfl 58 Z0 hgZ4 (by rw [HNs.out]; kernel_rfl) (by rw [HNs.out]; exact HZs.out) HNa.out ?_
      intro w5 hg5 hb5
      go_wp2
      exact bodyPost_ret (results_cell_any rfl _ _ _ _ _ _ rfl hg5 Try.underlying58 rfl (by rw [HNs.out]; kernel_rfl)) rfl ⟨by rw [HRS.out, HRR.out], (below_then hb0 hb4).trans (hb5 _ (by omega))⟩
end Go.Proofs.Yticdcdahehodkaa
/-! The document's numbers read back: Int, told. Condition: each digit is one. -/
namespace Go.Proofs.Yticdcdahehodkaa
set_option linter.unusedVariables false
set_option linter.unusedSimpArgs false
open Go.RowKit

def fitB (v : Int) : Bool := decide (-9223372036854775808 ≤ v ∧ v ≤ 9223372036854775807)
def fitN (v : Int) : Int := if -9223372036854775808 ≤ v ∧ v ≤ 9223372036854775807 then v else 0
def fitE (v : Int) : Int := if -9223372036854775808 ≤ v ∧ v ≤ 9223372036854775807 then 0 else 6
theorem fit_yes {v : Int} (h : -9223372036854775808 ≤ v ∧ v ≤ 9223372036854775807) : fitB v = true ∧ fitN v = v ∧ fitE v = 0 := by unfold fitB fitN fitE; simp [h]
theorem fit_no {v : Int} (h : ¬ (-9223372036854775808 ≤ v ∧ v ≤ 9223372036854775807)) : fitB v = false ∧ fitN v = 0 ∧ fitE v = 6 := by unfold fitB fitN fitE; rw [if_neg h, if_neg h]; exact ⟨decide_eq_false h, rfl, rfl⟩

/-- the digits 3, 2, .. read from the top, j of them -/
def hz (D : Array Value) : Nat → Int
  | 0 => 0
  | j + 1 => hz D j * 65536 + N D (3 - j)
theorem hz_low (D : Array Value) : ∀ j, j ≤ 4 → hz D j * P16 (4 - j) + lv D (4 - j) = lv D 4
  | 0, _ => by simp [hz]
  | j + 1, hj => by
    have ih := hz_low D j (by omega)
    obtain ⟨m, hm⟩ : ∃ m, m = 3 - j := ⟨_, rfl⟩
    rw [show 4 - j = m + 1 by omega, P16_s, lv] at ih
    rw [show 4 - (j + 1) = m by omega, hz, show 3 - j = m by omega, Int.add_mul, Int.mul_assoc]
    omega
theorem hz_bd {D : Array Value} (h : IsD D) : ∀ j, j ≤ 4 → 0 ≤ hz D j ∧ hz D j < P16 j
  | 0, _ => ⟨Int.le_refl _, P16_pos 0⟩
  | j + 1, hj => by
    obtain ⟨h1, h2⟩ := hz_bd h j (by omega)
    obtain ⟨_, h3, h4⟩ := h.c (3 - j) (by omega)
    rw [hz, P16_s]
    omega
theorem hz_4 (D : Array Value) : hz D 4 = lv D 4 := by
  have := hz_low D 4 (by omega)
  simpa [P16, lv] using this
theorem P16_3 : P16 3 = 281474976710656 := by decide
theorem P16_4 : P16 4 = 18446744073709551616 := by decide
theorem P16_mono {i j : Nat} (h : i ≤ j) : P16 i ≤ P16 j := by
  induction j with
  | zero => have : i = 0 := by omega
            subst this; exact Int.le_refl _
  | succ j ih =>
    by_cases e : i = j + 1
    · subst e; exact Int.le_refl _
    · have h1 := ih (by omega)
      have h2 := P16_pos j
      rw [P16_s]; omega
theorem lv_mono {D : Array Value} (h : IsD D) {i : Nat} : ∀ j, i ≤ j → j ≤ 12 → lv D i ≤ lv D j
  | 0, hi, _ => by
    have : i = 0 := by omega
    subst this; exact Int.le_refl _
  | j + 1, hi, hj => by
    by_cases e : i = j + 1
    · subst e; exact Int.le_refl _
    · have h1 := lv_mono h (i := i) j (by omega) (by omega)
      have h2 : 0 ≤ N D j * P16 j := Int.mul_nonneg (h.c j (by omega)).2.1 (by have := P16_pos j; omega)
      rw [lv]; omega
theorem lv_big {D : Array Value} (h : IsD D) {m : Nat} (h4 : 4 ≤ m) (hm : m < 12) (hn : N D m ≠ 0) : 18446744073709551616 ≤ lv D 12 := by
  have h1 := lv_mono h (i := m + 1) 12 (by omega) (by omega)
  have h2 := (lv_bd h m (by omega)).1
  have h3 := P16_mono h4
  have h5 := (h.c m hm).2.1
  have h6 : P16 m ≤ N D m * P16 m := by
    have := Int.mul_le_mul_of_nonneg_right (show 1 ≤ N D m by omega) (show 0 ≤ P16 m by have := P16_pos m; omega)
    rwa [Int.one_mul] at this
  rw [lv] at h1
  rw [P16_4] at h3
  omega

set_option maxRecDepth 100000 in
set_option maxHeartbeats 2000000 in
theorem int_any (s : Bool) (D : Array Value) (w : World) (hD : IsD D) :
    Calls Try.prog 38 #[.agg (nm s D)] w fun e w' => e = .returned (.tuple #[.int .i64 (fitN (sv s D)), .bool (fitB (sv s D))]) ∧ Below w.heap.size w w' := by
  have HD := Lib.hid hD
  have HE := Lib.hid (extract_all (nm_size (s := s) hD.size))
  have HS := Lib.hid (nm_size (s := s) hD.size)
  have n0 := nm_0 s D
  have HN := Lib.hid (fun i => nm_at s D i)
  have cz := fun w => zero_any s D w hD
  have h0 := (lv_bd hD 12 (by omega)).1
  clear hD
  generalize hX : nm s D = X at *
  clear hX
  go_enter Try.func38, Try.ntmps38
  go_wp2
  go_loopg [4, 5] 12 (fun gh c i wr => ∃ (k : Nat) (v : Int), k ≤ 12 ∧ k = gh ∧ i = .int .i64 v ∧ v = (k : Int) - 1 ∧ c = .int .u64 (hz D (4 - k)) ∧ (∀ j, k ≤ j → 4 ≤ j → j < 12 → N D j = 0) ∧ wr = w.alloc (.cells X 58))
  case atStart => exact ⟨12, 11, by omega, by omega, rfl, by omega, rfl, fun j h1 h2 h3 => by omega, rfl⟩
  case round =>
    obtain ⟨k, v, hk, rfl, rfl, hv, rfl, he, rfl⟩ := hrel
    have HZ := Lib.hid he
    clear he
    cases k with
    | zero =>
      obtain rfl : v = -1 := by omega
      clear hv
      have hV : lv D 12 = lv D 4 := lv_top (by omega) (fun j h1 h2 => HZ.out j (by omega) h1 h2)
      have hb4 := (lv_bd HD.out 4 (by omega)).2
      rw [P16_4, ← hV] at hb4
      have h4 : hz D (4 - 0) = lv D 12 := by rw [hV]; exact hz_4 D
      rw [h4]
      have hsv : sv s D = if s then -(lv D 12) else lv D 12 := rfl
      have HSV := Lib.hid hsv
      clear hsv hV h4
      generalize lv D 12 = V at *
      clear HZ
      by_cases hv0 : V = 0
      · have HZZ := Lib.hid (show decide (V = 0) = true from decide_eq_true hv0)
        have HF := Lib.hid (show fitB (sv s D) = true ∧ fitN (sv s D) = 0 ∧ fitE (sv s D) = 0 from by
          have e : sv s D = 0 := by rw [HSV.out, hv0]; cases s <;> rfl
          rw [e]; exact fit_yes (by omega))
        subst hv0
        go_wp2_with (first | ((with_reducible refine at_load 58 ?_); refine wpList_load_part rfl 58 _ rfl (w.heap.size) (0) rfl _ (X) _ _ 13 (heap_alloc_new _ _) Try.underlying58 rfl (by kernel_rfl) (by rw [HS.out]; omega) (X) (HE.out) ?_) | (go_at_call 29; (with_reducible refine (cz _).mono ?_); rintro e w3 ⟨rfl, hb3⟩; rw [HZZ.out]; have hg3 := kept hb3 (heap_alloc_new _ _); have hc3 := (cells_of hg3).1))
        go_ret2
        exact ⟨by rw [HF.out.1, HF.out.2.1]; rfl, below_then (below_new _ _) hb3⟩
      · have HZZ := Lib.hid (show decide (V = 0) = false from decide_eq_false hv0)
        cases s
        · by_cases hbig : 9223372036854775808 ≤ V
          · have HF := Lib.hid (show fitB (sv false D) = false ∧ fitN (sv false D) = 0 ∧ fitE (sv false D) = 6 from by
              rw [HSV.out]; exact fit_no (by simp; omega))
            go_wp2_with (first | ((with_reducible refine at_load 58 ?_); refine wpList_load_part rfl 58 _ rfl (w.heap.size) (0) rfl _ (X) _ _ 13 (heap_alloc_new _ _) Try.underlying58 rfl (by kernel_rfl) (by rw [HS.out]; omega) (X) (HE.out) ?_) | (go_at_call 29; (with_reducible refine (cz _).mono ?_); rintro e w3 ⟨rfl, hb3⟩; rw [HZZ.out]; have hg3 := kept hb3 (heap_alloc_new _ _); have hc3 := (cells_of hg3).1))
            go_ret2
            exact ⟨by rw [HF.out.1, HF.out.2.1]; rfl, below_then (below_new _ _) hb3⟩
          · have HF := Lib.hid (show fitB (sv false D) = true ∧ fitN (sv false D) = V ∧ fitE (sv false D) = 0 from by
              have e : sv false D = V := by rw [HSV.out]; rfl
              rw [e]; exact fit_yes (by omega))
            go_wp2_with (first | ((with_reducible refine at_load 58 ?_); refine wpList_load_part rfl 58 _ rfl (w.heap.size) (0) rfl _ (X) _ _ 13 (heap_alloc_new _ _) Try.underlying58 rfl (by kernel_rfl) (by rw [HS.out]; omega) (X) (HE.out) ?_) | (go_at_call 29; (with_reducible refine (cz _).mono ?_); rintro e w3 ⟨rfl, hb3⟩; rw [HZZ.out]; have hg3 := kept hb3 (heap_alloc_new _ _); have hc3 := (cells_of hg3).1))
            go_ret2
            exact ⟨by rw [HF.out.1, HF.out.2.1]; rfl, below_then (below_new _ _) hb3⟩
        · by_cases hbig : 9223372036854775808 < V
          · have HF := Lib.hid (show fitB (sv true D) = false ∧ fitN (sv true D) = 0 ∧ fitE (sv true D) = 6 from by
              rw [HSV.out]; exact fit_no (by simp; omega))
            go_wp2_with (first | ((with_reducible refine at_load 58 ?_); refine wpList_load_part rfl 58 _ rfl (w.heap.size) (0) rfl _ (X) _ _ 13 (heap_alloc_new _ _) Try.underlying58 rfl (by kernel_rfl) (by rw [HS.out]; omega) (X) (HE.out) ?_) | (go_at_call 29; (with_reducible refine (cz _).mono ?_); rintro e w3 ⟨rfl, hb3⟩; rw [HZZ.out]; have hg3 := kept hb3 (heap_alloc_new _ _); have hc3 := (cells_of hg3).1))
            go_ret2
            exact ⟨by rw [HF.out.1, HF.out.2.1]; rfl, below_then (below_new _ _) hb3⟩
          · have HF := Lib.hid (show fitB (sv true D) = true ∧ fitN (sv true D) = -(V - 1) - 1 ∧ fitE (sv true D) = 0 from by
              have e : sv true D = -(V - 1) - 1 := by rw [HSV.out]; simp; omega
              rw [e]; exact fit_yes (by omega))
            go_wp2_with (first | ((with_reducible refine at_load 58 ?_); refine wpList_load_part rfl 58 _ rfl (w.heap.size) (0) rfl _ (X) _ _ 13 (heap_alloc_new _ _) Try.underlying58 rfl (by kernel_rfl) (by rw [HS.out]; omega) (X) (HE.out) ?_) | (go_at_call 29; (with_reducible refine (cz _).mono ?_); rintro e w3 ⟨rfl, hb3⟩; rw [HZZ.out]; have hg3 := kept hb3 (heap_alloc_new _ _); have hc3 := (cells_of hg3).1))
            go_ret2
            exact ⟨by rw [HF.out.1, HF.out.2.1]; rfl, below_then (below_new _ _) hb3⟩
    | succ m =>
      obtain rfl : v = (m : Int) := by omega
      clear hv
      have hm12 : m < 12 := by omega
      have hmi : (m : Int) < 12 := by omega
      obtain ⟨a0, a1, a2⟩ := HD.out.c m hm12
      have ax := HN.out m
      rw [a0] at ax
      by_cases h3 : 3 < m
      · have h3i : 3 < (m : Int) := by omega
        rw [show 4 - (m + 1) = 0 by omega]
        have HC := Lib.hid (show hz D (4 - m) = 0 by rw [show 4 - m = 0 by omega]; rfl)
        have hz0 : hz D 0 = 0 := rfl
        rw [hz0]
        by_cases hx : N D m = 0
        · have HX := Lib.hid (show ∀ j, m ≤ j → 4 ≤ j → j < 12 → N D j = 0 from fun j h1 h2 h3 => by
            by_cases e : j = m
            · subst e; exact hx
            · exact HZ.out j (by omega) h2 h3)
          rw [hx] at ax a0 a1 a2
          clear hx a0 a1 a2 hz0
          go_wp2
          go_roundg m
          case measure => omega
          case rel => exact ⟨m, (m : Int) - 1, by omega, rfl, by go_num, by omega, by rw [HC.out], HX.out, rfl⟩
        · have hbig := lv_big HD.out (by omega) hm12 hx
          have hno : fitB (sv s D) = false ∧ fitN (sv s D) = 0 ∧ fitE (sv s D) = 6 := fit_no (by unfold sv; cases s <;> simp <;> omega)
          have HF := Lib.hid hno
          have hx' : (N D m == 0) = false := by simpa using hx
          clear hbig hno hz0
          generalize N D m = x at *
          go_wp2
          go_ret2
          exact ⟨by rw [HF.out.1, HF.out.2.1]; rfl, below_new _ _⟩
      · have h3i : ¬ 3 < (m : Int) := by omega
        obtain ⟨j, hj⟩ : ∃ j, j = 4 - (m + 1) := ⟨_, rfl⟩
        have hb := hz_bd HD.out j (by omega)
        have hb3 := P16_mono (show j ≤ 3 by omega)
        rw [P16_3] at hb3
        have HC := Lib.hid (show hz D (4 - m) = hz D j * 65536 + N D m by rw [show 4 - m = j + 1 by omega, hz, show 3 - j = m by omega])
        have HX := Lib.hid (show ∀ j, m ≤ j → 4 ≤ j → j < 12 → N D j = 0 from fun j h1 h2 h3 => HZ.out j (by omega) h2 h3)
        rw [← hj]
        clear hj a0
        generalize hz D j = c at *
        generalize N D m = x at *
        go_wp2
        go_roundg m
        case measure => omega
        case rel => exact ⟨m, (m : Int) - 1, by omega, rfl, by go_num, by omega, by rw [HC.out], HX.out, rfl⟩

end Go.Proofs.Yticdcdahehodkaa
/-! An integer as the document's number: its sign, its digits, its value. Condition: it fits its kind. -/
namespace Go.Proofs.Yticdcdahehodkaa
set_option linter.unusedVariables false
set_option linter.unusedSimpArgs false
open Go.RowKit

def oS (x : Int) : Bool := decide (x < 0)
def oV (x : Int) : Array Value := oD (if x < 0 then -x else x) 4
theorem of_any' (x : Int) (w : World) (hx : F64 x) :
    Calls Try.prog 27 #[.int .i64 x] w fun e w' => e = .returned (.agg (nm (oS x) (oV x))) ∧ Below w.heap.size w w' := of_any x w hx
theorem oV_D (x : Int) : IsD (oV x) := oD_D _ 4
theorem o_val {x : Int} (h : F64 x) : sv (oS x) (oV x) = x ∧ lv (oV x) 12 ≤ 9223372036854775808 := by
  unfold F64 at h
  unfold sv oS oV
  by_cases h0 : x < 0
  · rw [if_pos h0, oD_val (by omega), if_pos (by simpa using h0)]; omega
  · rw [if_neg h0, oD_val (by omega), if_neg (by simpa using h0)]; omega
theorem P16_12 : 1000000000000000000000000000000000000000000000000 < P16 12 := by decide
theorem sv_not (s : Bool) (D : Array Value) : sv (!s) D = -(sv s D) := by
  unfold sv; cases s <;> simp

end Go.Proofs.Yticdcdahehodkaa
/-! fixnum's Sum of a slice of integers. Condition: the numbers fit their kinds; not too many. -/
namespace Go.Proofs.Yticdcdahehodkaa
set_option linter.unusedVariables false
set_option linter.unusedSimpArgs false
open Go.RowKit

/-- integers of a slice -/
def Ints (w : World) (a : Option Addr) (n : Nat) (Z : Nat → Int) : Prop := ∀ i, i < n → ∃ g off A t fr, a = some ⟨g, off, none⟩ ∧ w.heap[g]? = some (.cells A t fr) ∧ A[off + i]? = some (.int .i64 (Z i))
theorem Ints.kept {w w1 : World} {a : Option Addr} {n : Nat} {Z : Nat → Int} (h : Ints w a n Z) (hb : Below w.heap.size w w1) : Ints w1 a n Z := fun i hi => by
  obtain ⟨g, off, A, t, fr, h1, h2, h3⟩ := h i hi
  exact ⟨g, off, A, t, fr, h1, Yticdcdahehodkaa.kept hb h2, h3⟩
def sumZ (Z : Nat → Int) : Nat → Int
  | 0 => 0
  | k + 1 => sumZ Z k + Z k
theorem run_add64' (x y : Int) (hx : 0 ≤ x) (hy : 0 ≤ y) (w : World) :
    (callFunc 43 #[.int .u64 x, .int .u64 y, .int .u64 0]).run Try.prog w =
      .ok (.value (.tuple #[.int .u64 ((x + y) % 18446744073709551616), .int .u64 ((x + y) / 18446744073709551616)])) w := by
  rw [run_callFunc_extern Try.func43 (by kernel_rfl) (by kernel_rfl) (by kernel_rfl) (e := add64Entry) (by kernel_rfl), run_add64 x y 0 hx hy (by omega) (by omega)]
  simp

set_option maxRecDepth 100000 in
set_option maxHeartbeats 1000000 in
theorem fsum_any (a : Option Addr) (n cap : Nat) (Z : Nat → Int) (w : World) (hZ : ∀ i, F64 (Z i)) (hA : Ints w a n Z) (hn : n ≤ 2000) :
    Calls Try.prog 26 #[.slice a n cap] w fun e w' => e = .returned (.tuple #[.int .i64 (fitN (sumZ Z n)), .int .i64 (fitE (sumZ Z n))]) ∧ w = w' := by
  have HA := Lib.hid hA
  have HZ := Lib.hid hZ
  clear hA hZ
  go_enter Try.func26, Try.ntmps26
  go_wp2
  go_loopg [4, 5, 11] n (fun gh lo hi i wr => ∃ (k : Nat) (l h : Int), k ≤ n ∧ gh = n - k ∧ i = .int .i64 k ∧ lo = .int .u64 l ∧ hi = .int .i64 h ∧ sumZ Z k = h * 18446744073709551616 + l ∧ (0 ≤ l ∧ l < 18446744073709551616) ∧ (-2000 ≤ h ∧ h ≤ 2000) ∧ (-(k : Int) ≤ h ∧ h ≤ k) ∧ w = wr)
  case atStart => exact ⟨0, 0, 0, by omega, by omega, rfl, rfl, rfl, rfl, by omega, by omega, by omega, rfl⟩
  case round =>
    obtain ⟨k, l, h, hk, rfl, rfl, rfl, rfl, hS, hl, hh, hhk, rfl⟩ := hrel
    have HS := Lib.hid hS
    clear hS
    by_cases hlt : k < n
    · obtain ⟨g, off, A, t, fr, rfl, hgA, hz⟩ := HA.out k hlt
      have hz64 := HZ.out k
      unfold F64 at hz64
      have hcA := cellF hgA
      have HT := Lib.hid (show sumZ Z (k + 1) = sumZ Z k + Z k from rfl)
      generalize Z k = z at *
      by_cases h0 : z < 0
      · have hu : IntKind.u64.wrap z = z + 18446744073709551616 := by rw [IntKind.wrap_u64]; omega
        have hadd := run_add64' l (z + 18446744073709551616) (by omega) (by omega)
        go_wp2
        go_roundg (n - (k + 1))
        case measure => omega
        case rel => exact ⟨k + 1, _, _, by omega, rfl, by go_num, rfl, rfl, by rw [HT.out, HS.out]; omega, by omega, by omega, by omega, rfl⟩
      · have hu : IntKind.u64.wrap z = z := by rw [IntKind.wrap_u64]; omega
        have hadd := run_add64' l z (by omega) (by omega)
        go_wp2
        go_roundg (n - (k + 1))
        case measure => omega
        case rel => exact ⟨k + 1, _, _, by omega, rfl, by go_num, rfl, rfl, by rw [HT.out, HS.out]; omega, by omega, by omega, by omega, rfl⟩
    · obtain rfl : k = n := by omega
      by_cases hl3 : l < 9223372036854775808
      · have hw : IntKind.i64.wrap l = l := by rw [IntKind.wrap_i64]; omega
        by_cases h0 : h = 0
        · have HF := Lib.hid (show fitB (sumZ Z k) = true ∧ fitN (sumZ Z k) = l ∧ fitE (sumZ Z k) = 0 from by
            have e : sumZ Z k = l := by rw [HS.out, h0]; omega
            rw [e]; exact fit_yes (by omega))
          have hd : l / 9223372036854775808 = 0 := by omega
          subst h0
          go_wp2
          go_ret2
          exact ⟨by rw [HF.out.2.1, HF.out.2.2]; rfl, rfl⟩
        · have HF := Lib.hid (show fitB (sumZ Z k) = false ∧ fitN (sumZ Z k) = 0 ∧ fitE (sumZ Z k) = 6 from by
            rw [HS.out]; exact fit_no (by omega))
          have hd : l / 9223372036854775808 = 0 := by omega
          have h0' : (h == 0) = false := by simpa using h0
          go_wp2
          go_ret2
          exact ⟨by rw [HF.out.2.1, HF.out.2.2]; rfl, rfl⟩
      · have hw : IntKind.i64.wrap l = l - 18446744073709551616 := by rw [IntKind.wrap_i64]; omega
        have hd : (l - 18446744073709551616) / 9223372036854775808 = -1 := by omega
        by_cases h0 : h = -1
        · have HF := Lib.hid (show fitB (sumZ Z k) = true ∧ fitN (sumZ Z k) = l - 18446744073709551616 ∧ fitE (sumZ Z k) = 0 from by
            have e : sumZ Z k = l - 18446744073709551616 := by rw [HS.out, h0]; omega
            rw [e]; exact fit_yes (by omega))
          subst h0
          go_wp2
          go_ret2
          exact ⟨by rw [HF.out.2.1, HF.out.2.2]; rfl, rfl⟩
        · have HF := Lib.hid (show fitB (sumZ Z k) = false ∧ fitN (sumZ Z k) = 0 ∧ fitE (sumZ Z k) = 6 from by
            rw [HS.out]; exact fit_no (by omega))
          have h0' : (h == -1) = false := by simpa using h0
          go_wp2
          go_ret2
          exact ⟨by rw [HF.out.2.1, HF.out.2.2]; rfl, rfl⟩
end Go.Proofs.Yticdcdahehodkaa
