/- The document's numbers: a sign and twelve digits: made of an integer, added, negated, read back. Condition: each digit is one. -/
import Derived.Test.YtanfhjfpdgjphaaBig
import Derived.DeepKeys
import Derived.Laws.StructEq
import Derived.Laws.Tables
namespace Go.Proofs.Ytanfhjfpdgjphaa
set_option linter.unusedVariables false
set_option linter.unusedSimpArgs false
open Go.RowKit

/-- a sign and digits -/
def nm (s : Bool) (D : Array Value) : Array Value := #[.bool s] ++ D
theorem nm_size {s : Bool} {D : Array Value} (h : D.size = 12) : (nm s D).size = 13 := by simp [nm, h]
theorem nm_0 (s : Bool) (D : Array Value) : (nm s D)[0]? = some (.bool s) := by unfold nm; rw [Array.getElem?_append_left (by simp)]; rfl
theorem nm_at (s : Bool) (D : Array Value) (i : Nat) : (nm s D)[1 + i]? = D[i]? := by
  unfold nm
  rw [Array.getElem?_append_right (by simp)]
  simp
theorem nm_ext {s : Bool} {D : Array Value} (h : D.size = 12) : (nm s D).extract 1 13 = D := by
  apply Array.ext_getElem?
  intro i
  rw [Array.getElem?_extract]
  by_cases hi : i < 12
  · rw [if_pos (by rw [nm_size h]; omega), nm_at]
  · rw [if_neg (by omega)]; symm; rw [Array.getElem?_eq_none_iff]; omega
theorem nm_set (s : Bool) (D : Array Value) (k : Nat) (v : Value) : (nm s D).setIfInBounds (1 + k) v = nm s (D.setIfInBounds k v) := by
  apply Array.ext_getElem?
  intro i
  cases i with
  | zero => rw [Array.getElem?_setIfInBounds_ne (by omega), nm_0, nm_0]
  | succ i =>
    rw [Nat.add_comm i 1, nm_at]
    by_cases e : k = i
    · subst e
      by_cases hk : k < D.size
      · rw [Array.getElem?_setIfInBounds_self_of_lt (by simp [nm]; omega), Array.getElem?_setIfInBounds_self_of_lt hk]
      · rw [Array.getElem?_eq_none_iff.2 (by simp [nm]; omega), Array.getElem?_eq_none_iff.2 (by simp; omega)]
    · rw [Array.getElem?_setIfInBounds_ne (by omega), nm_at, Array.getElem?_setIfInBounds_ne e]
theorem nm_all {s : Bool} {D : Array Value} (h : IsD D) : (nm s D).all (·.oneCell') = true := all_one fun i v hv => by
  cases i with
  | zero => rw [nm_0] at hv; injection hv with hv; subst hv; rfl
  | succ i =>
    rw [Nat.add_comm, nm_at] at hv
    have h1 := h.all
    rw [Array.all_eq_true'] at h1
    exact h1 v (Array.mem_of_getElem? hv)
/-- its value -/
def sv (s : Bool) (D : Array Value) : Int := if s then -(lv D 12) else lv D 12

theorem fold_off (o : Nat) : ∀ (l : List Value) (k : Nat) (cs : Array Value), o + k + l.length ≤ cs.size →
    ((l.zipIdx k).foldl (fun cs x => cs.setIfInBounds (o + x.2) x.1) cs).size = cs.size ∧
    ∀ i, ((l.zipIdx k).foldl (fun cs x => cs.setIfInBounds (o + x.2) x.1) cs)[i]? = if o + k ≤ i ∧ i < o + k + l.length then l[i - (o + k)]? else cs[i]?
  | [], k, cs, _ => by
    refine ⟨rfl, fun i => ?_⟩
    simp
    omega
  | v :: l, k, cs, h => by
    simp only [List.length_cons] at h
    simp only [List.zipIdx_cons, List.foldl_cons]
    obtain ⟨h1, h2⟩ := fold_off o l (k + 1) (cs.setIfInBounds (o + k) v) (by simp; omega)
    refine ⟨by rw [h1]; simp, fun i => ?_⟩
    rw [h2 i]
    by_cases e : i = o + k
    · subst e
      rw [if_neg (by omega), if_pos (by simp), Array.getElem?_setIfInBounds_self_of_lt (by omega)]
      simp
    · by_cases e2 : o + (k + 1) ≤ i ∧ i < o + (k + 1) + l.length
      · rw [if_pos e2, if_pos (by simp; omega), show i - (o + k) = (i - (o + (k + 1))) + 1 by omega, List.getElem?_cons_succ]
      · rw [if_neg e2, if_neg (by simp; omega), Array.getElem?_setIfInBounds_ne (by omega)]

theorem built_sign (s : Bool) : Try.prog.built 47 [(0, .bool s)] = some (nm s z12) := by cases s <;> kernel_rfl
theorem built_num {s : Bool} {D : Array Value} (h : D.size = 12) : Try.prog.built 47 [(0, .bool s), (1, .agg D)] = some (nm s D) := by
  have h0 := built_sign s
  have hp : (#[({ name := "Neg", type := 4, offset := 0, embedded := false, tag := "", pkgPath := "", byteOffset := 0 } : Field), { name := "D", type := 45, offset := 1, embedded := false, tag := "", pkgPath := "", byteOffset := 8 }].toList.mapM
      (fun f => (Try.prog.info? f.type).map fun i => (f.offset, i.size))) = some [(0, 1), (1, 12)] := by kernel_rfl
  unfold Program.built at h0 ⊢
  cases hq : Try.prog.info? 47 with
  | none => simp [hq] at h0
  | some it =>
    cases hz : it.zero with
    | none => simp only [hq, Try.underlying47, hz] at h0; cases h0
    | some z =>
      simp only [hq, Try.underlying47, hz, hp] at h0 ⊢
      unfold Instr.fill at h0 ⊢
      generalize hc : z.cells = zc at *
      change (if (decide ((Value.bool s).cells.size ≠ 1) || decide (0 + (Value.bool s).cells.size > zc.size)) = true then none else _) = _ at h0
      change (if (decide ((Value.bool s).cells.size ≠ 1) || decide (0 + (Value.bool s).cells.size > zc.size)) = true then none else _) = _
      by_cases hcc : (decide ((Value.bool s).cells.size ≠ 1) || decide (0 + (Value.bool s).cells.size > zc.size)) = true
      · rw [if_pos hcc] at h0; cases h0
      · rw [if_neg hcc] at h0 ⊢
        unfold Instr.fill at h0 ⊢
        injection h0 with h0
        rw [h0]
        change (if (decide (D.size ≠ 12) || decide (1 + D.size > (nm s z12).size)) = true then none else _) = _
        rw [if_neg (by rw [h]; simp [nm, z12])]
        unfold Instr.fill
        congr 1
        have hf := fold_off 1 D.toList 0 (nm s z12) (by rw [Array.length_toList, h]; simp [nm, z12])
        have e : Array.foldl (fun cs x => cs.setIfInBounds (1 + x.2) x.1) (nm s z12) D.zipIdx = (D.toList.zipIdx 0).foldl (fun cs x => cs.setIfInBounds (1 + x.2) x.1) (nm s z12) := by
          rw [← Array.foldl_toList]
          simp
        show Array.foldl (fun cs x => cs.setIfInBounds (1 + x.2) x.1) (nm s z12) D.zipIdx = nm s D
        rw [e]
        apply Array.ext_getElem?
        intro i
        rw [hf.2 i]
        cases i with
        | zero => rw [if_neg (by omega), nm_0, nm_0]
        | succ i =>
          by_cases hi : i < 12
          · rw [if_pos (by simp [h]; omega), Nat.add_comm i 1, nm_at, show 1 + i - (1 + 0) = i by omega]; simp
          · rw [if_neg (by simp [h]; omega), Nat.add_comm i 1, nm_at, nm_at, Array.getElem?_eq_none_iff.2 (by simp [z12]; omega), Array.getElem?_eq_none_iff.2 (by omega)]

section
variable {ops : Array Oper} {rest : List Oper} {o : Oper} {a : Act} {w : World}
theorem wpList_build_num {Q : Exit → Act → World → Prop} (hgd : o.guard = none) (x y : Operand) (ho : o.op = .build 47 #[(0, x), (1, y)]) (s : Bool) (D : Array Value) (hx : a.eval x = .bool s) (hy : a.eval y = .agg D) (hD : D.size = 12)
    (h : wpList Try.prog ops Q rest (a.put o.dst (.agg (nm s D))) w) : wpList Try.prog ops Q (o :: rest) a w := by
  have hb : Try.prog.built 47 ((#[(0, x), (1, y)] : Array (Nat × Operand)).map fun (i, x) => (i, a.eval x)).toList = some (nm s D) := by
    simp only [List.map_toArray, List.map_cons, List.map_nil, hx, hy]; exact built_num hD
  refine wpList_build hgd 47 _ ho (by rw [hb]; rfl) ?_
  rw [hb]
  exact h
theorem wpList_build_sign {Q : Exit → Act → World → Prop} (hgd : o.guard = none) (x : Operand) (ho : o.op = .build 47 #[(0, x)]) (s : Bool) (hx : a.eval x = .bool s)
    (h : wpList Try.prog ops Q rest (a.put o.dst (.agg (nm s z12))) w) : wpList Try.prog ops Q (o :: rest) a w := by
  have hb : Try.prog.built 47 ((#[(0, x)] : Array (Nat × Operand)).map fun (i, x) => (i, a.eval x)).toList = some (nm s z12) := by
    simp only [List.map_toArray, List.map_cons, List.map_nil, hx]; exact built_sign s
  refine wpList_build hgd 47 _ ho (by rw [hb]; rfl) ?_
  rw [hb]
  exact h
theorem at_buildP (T : TypeId) {P : Program} {Q : Exit → Act → World → Prop} {d : Option Tmp} {ps : Array (Nat × Operand)} {ty : TypeId} {pos : String} {af : Array Edge} {gd : Option (Nat × Bool)}
    (h : wpList P ops Q (⟨d, .build T ps, ty, pos, af, gd⟩ :: rest) a w) : wpList P ops Q (⟨d, .build T ps, ty, pos, af, gd⟩ :: rest) a w := h
theorem q_build_num {C : World → Prop} {Q : Act → Prop} (hw : Region.wanted o (yielded ops a.tmps) = true) (x y : Operand) (ho : o.op = .build 47 #[(0, x), (1, y)]) (s : Bool) (D : Array Value) (hx : a.eval x = .bool s) (hy : a.eval y = .agg D) (hD : D.size = 12)
    (h : WQ Try.prog ops C Q rest (a.put o.dst (.agg (nm s D)))) : WQ Try.prog ops C Q (o :: rest) a := by
  refine q_val (.agg (nm s D)) hw (fun w _ => ?_) h
  have hb : Try.prog.built 47 ((#[(0, x), (1, y)] : Array (Nat × Operand)).map fun (i, x) => (i, a.eval x)).toList = some (nm s D) := by
    simp only [List.map_toArray, List.map_cons, List.map_nil, hx, hy]; exact built_num hD
  unfold execOp
  simp only [ho, Sem.run_bind, run_build w 47 _ _ hb, Result.andThen_ok]
  rfl
theorem at_qbuild (T : TypeId) {P : Program} {C : World → Prop} {Q : Act → Prop} {d : Option Tmp} {ps : Array (Nat × Operand)} {ty : TypeId} {pos : String} {af : Array Edge} {gd : Option (Nat × Bool)}
    (h : WQ P ops C Q (⟨d, .build T ps, ty, pos, af, gd⟩ :: rest) a) : WQ P ops C Q (⟨d, .build T ps, ty, pos, af, gd⟩ :: rest) a := h
end

/-! made of an integer -/
def nk (n : Int) : Nat → Int
  | 0 => n
  | k + 1 => nk n k / 65536
def oD (n : Int) : Nat → Array Value
  | 0 => z12
  | k + 1 => (oD n k).setIfInBounds k (.int .u64 (nk n k % 65536))
theorem z12_D : IsD z12 := ⟨rfl, fun i hi => by
  have : i = 0 ∨ i = 1 ∨ i = 2 ∨ i = 3 ∨ i = 4 ∨ i = 5 ∨ i = 6 ∨ i = 7 ∨ i = 8 ∨ i = 9 ∨ i = 10 ∨ i = 11 := by omega
  rcases this with rfl | rfl | rfl | rfl | rfl | rfl | rfl | rfl | rfl | rfl | rfl | rfl <;> exact ⟨rfl, by decide, by decide⟩⟩
theorem z12_N (i : Nat) : N z12 i = 0 := by
  by_cases hi : i < 12
  · have : i = 0 ∨ i = 1 ∨ i = 2 ∨ i = 3 ∨ i = 4 ∨ i = 5 ∨ i = 6 ∨ i = 7 ∨ i = 8 ∨ i = 9 ∨ i = 10 ∨ i = 11 := by omega
    rcases this with rfl | rfl | rfl | rfl | rfl | rfl | rfl | rfl | rfl | rfl | rfl | rfl <;> rfl
  · unfold N; rw [Array.getElem?_eq_none_iff.2 (by simp [z12]; omega)]
theorem N_setj {A : Array Value} {i j : Nat} {v : Value} (h : i ≠ j) : N (A.setIfInBounds i v) j = N A j := by
  unfold N; rw [Array.getElem?_setIfInBounds_ne h]
theorem N_seti {A : Array Value} {i : Nat} {k : IntKind} {n : Int} (h : i < A.size) : N (A.setIfInBounds i (.int k n)) i = n := by
  unfold N; rw [Array.getElem?_setIfInBounds_self_of_lt h]
theorem IsD.set {D : Array Value} (h : IsD D) {k : Nat} {v : Int} (hv : 0 ≤ v ∧ v < 65536) : IsD (D.setIfInBounds k (.int .u64 v)) where
  size := by simpa using h.size
  c := fun i hi => by
    by_cases e : k = i
    · subst e
      rw [N_seti (by rw [h.size]; omega)]
      exact ⟨Array.getElem?_setIfInBounds_self_of_lt (by rw [h.size]; omega), hv⟩
    · rw [N_setj e, Array.getElem?_setIfInBounds_ne e]
      exact h.c i hi
theorem oD_D (n : Int) : ∀ k, IsD (oD n k)
  | 0 => z12_D
  | k + 1 => (oD_D n k).set (by omega)
theorem oD_zero (n : Int) (i : Nat) : ∀ k, k ≤ i → N (oD n k) i = 0
  | 0, _ => z12_N i
  | k + 1, hk => by unfold oD; rw [N_setj (by omega)]; exact oD_zero n i k (by omega)
theorem lv_set {D : Array Value} {k : Nat} {v : Value} : lv (D.setIfInBounds k v) k = lv D k := lv_congr k (fun i hi => N_setj (by omega))
theorem oD_low (n : Int) : ∀ k, k ≤ 12 → lv (oD n k) k + nk n k * P16 k = n
  | 0, _ => by simp [lv, nk, P16]
  | k + 1, hk => by
    have ih := oD_low n k (by omega)
    rw [lv, P16_s, nk]
    unfold oD
    rw [lv_set, N_seti (by rw [(oD_D n k).size]; omega)]
    have e : nk n k = nk n k % 65536 + 65536 * (nk n k / 65536) := by omega
    have e2 : nk n k * P16 k = (nk n k % 65536) * P16 k + 65536 * (nk n k / 65536 * P16 k) := by
      rw [← Int.mul_assoc, ← Int.add_mul, ← e]
    have e3 : nk n k / 65536 * (65536 * P16 k) = 65536 * (nk n k / 65536 * P16 k) := Int.mul_left_comm _ _ _
    rw [e3]
    omega
theorem nk_4 {n : Int} (h : 0 ≤ n ∧ n < 18446744073709551616) : nk n 4 = 0 := by
  simp only [nk]
  omega
theorem oD_val {n : Int} (h : 0 ≤ n ∧ n < 18446744073709551616) : lv (oD n 4) 12 = n := by
  rw [lv_top (k := 4) (by omega) (fun j h1 h2 => oD_zero n j 4 h1)]
  have := oD_low n 4 (by omega)
  rw [nk_4 h] at this
  omega
end Go.Proofs.Ytanfhjfpdgjphaa
