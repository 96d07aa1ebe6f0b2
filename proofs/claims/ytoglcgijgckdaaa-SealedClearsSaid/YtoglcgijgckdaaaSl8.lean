/- Steps of a region that draws its order; a slice built of one struct, one row appended. No condition. -/
import Derived.Test.YtoglcgijgckdaaaPost
import Derived.Maps.AppendAt
import Derived.Deep.RegionHeld3
namespace Go.Proofs.Ytoglcgijgckdaaa
set_option linter.unusedVariables false
set_option linter.unusedSimpArgs false
open Go.RowKit

theorem op_call {P : Program} {o : Oper} {a : Act} {w : World} {K : Act → World → Prop} {Q : Exit → Act → World → Prop} (f : FuncId) (args : Array Value) (he : (execOp a.eval o).run P w = .ok (.enter f args) w) (R : Value → World → Prop)
    (hc : Calls P f args w fun e w' => ∃ v, e = .returned v ∧ R v w') (h : ∀ v w', R v w' → K (a.put o.dst v) w') : o.wp P a w K Q := by
  unfold Oper.wp
  rw [he]
  exact hc.mono fun e w'' ⟨v, he, hr⟩ => by subst he; exact h v w'' hr
theorem exec_build {P : Program} {o : Oper} {a : Act} {w : World} (t : TypeId) (parts : Array (Nat × Operand)) (ho : o.op = .build t parts) (B : Array Value) (h : P.built t (parts.map fun (i, x) => (i, a.eval x)).toList = some B) : (execOp a.eval o).run P w = .ok (.value (.agg B)) w := by
  unfold execOp
  simp only [ho, Sem.run_bind, run_build w t _ B h, Sem.run_pure, Result.andThen_ok]
theorem exec_load_part {P : Program} {o : Oper} {a : Act} {w : World} (ty : TypeId) (x : Operand) (ho : o.op = .load ty x)
    (g off : Nat) (hx : a.eval x = .pointer (some ⟨g, off, none⟩)) (t : TypeId) (cs : Array Value) (fr : Nat × Nat) (d : TypeDesc) (n : Nat) (hg : w.heap[g]? = some (.cells cs t fr))
    (hu : P.underlying ty = some d) (hd : (match d with | .struct _ | .array _ _ => true | _ => false) = true) (hi : (P.info? ty).map (·.size) = some n) (hn : off + n ≤ cs.size) (B : Array Value) (hB : cs.extract off (off + n) = B) :
    (execOp a.eval o).run P w = .ok (.value (.agg B)) w := by
  unfold execOp
  simp only [ho, hx, Instr.loadAt, Instr.sureAddr, Sem.run_bind, Sem.run_pure, Result.andThen_ok, run_loadVar_part w g off t ty cs fr d n hg hu hd hi hn, hB]
theorem fold_setg : ∀ (l : List Value) (k : Nat) (cs : Array Value), k + l.length ≤ cs.size →
    ((l.zipIdx k).foldl (fun cs x => cs.setIfInBounds (0 + x.2) x.1) cs).size = cs.size ∧
    ∀ i, ((l.zipIdx k).foldl (fun cs x => cs.setIfInBounds (0 + x.2) x.1) cs)[i]? = if k ≤ i ∧ i < k + l.length then l[i - k]? else cs[i]?
  | [], k, cs, _ => by
    refine ⟨rfl, fun i => ?_⟩
    simp
    omega
  | v :: l, k, cs, h => by
    simp only [List.length_cons] at h
    simp only [List.zipIdx_cons, List.foldl_cons]
    obtain ⟨h1, h2⟩ := fold_setg l (k + 1) (cs.setIfInBounds (0 + k) v) (by simp; omega)
    refine ⟨by rw [h1]; simp, fun i => ?_⟩
    rw [h2 i]
    by_cases e : i = k
    · subst e
      rw [if_neg (by omega), if_pos (by simp), Nat.zero_add, Array.getElem?_setIfInBounds_self_of_lt (by omega)]
      simp
    · by_cases e2 : k + 1 ≤ i ∧ i < k + 1 + l.length
      · rw [if_pos e2, if_pos (by simp; omega), show i - k = (i - (k + 1)) + 1 by omega, List.getElem?_cons_succ]
      · rw [if_neg e2, if_neg (by simp; omega), Array.getElem?_setIfInBounds_ne (by omega)]
theorem fill_oneg {B : Array Value} {z : Array Value} {c : Nat} (hB : B.size = c) (hz : z.size = c) :
    Instr.fill (fun i => some (i * c, c)) ((Array.range (1 * c)).map (z[· % z.size]!)) [(0, Value.agg B)] = some B := by
  unfold Instr.fill
  simp only [Value.cells, hB]
  rw [if_neg (by simp)]
  unfold Instr.fill
  congr 1
  have h := fold_setg B.toList 0 ((Array.range (1 * c)).map (z[· % z.size]!)) (by simp [hB])
  have e : Array.foldl (fun cs x => cs.setIfInBounds (0 * c + x.2) x.1) ((Array.range (1 * c)).map (z[· % z.size]!)) (B.zipIdx) = (B.toList.zipIdx 0).foldl (fun cs x => cs.setIfInBounds (0 + x.2) x.1) ((Array.range (1 * c)).map (z[· % z.size]!)) := by
    rw [← Array.foldl_toList, Nat.zero_mul]
    simp
  show Array.foldl (fun cs x => cs.setIfInBounds (0 * c + x.2) x.1) ((Array.range (1 * c)).map (z[· % z.size]!)) (B.zipIdx) = B
  rw [e]
  apply Array.ext_getElem?
  intro i
  rw [h.2 i]
  by_cases hi : i < c
  · rw [if_pos (by simp [hB]; omega)]; simp
  · rw [if_neg (by simp [hB]; omega), Array.getElem?_eq_none_iff.2 (by simp; omega), Array.getElem?_eq_none_iff.2 (by omega)]
theorem op_slice1 {P : Program} {o : Oper} {a : Act} {w : World} {K : Act → World → Prop} {Q : Exit → Act → World → Prop} (t e : TypeId) (x : Operand) (ho : o.op = .buildSlice t 1 #[(0, x)])
    (B : Array Value) (c : Nat) (hx : a.eval x = .agg B) (hB : B.size = c) (ie : TypeInfo) (z : Value) (hu : P.underlying t = some (.slice e)) (hie : P.info? e = some ie) (hz : ie.zero = some z) (h4 : ie.size = c) (hz4 : z.cells.size = c) (hc : 0 < c) (hc2 : c ≤ 1000)
    (h : K (a.put o.dst (.slice (some ⟨w.heap.size, 0, none⟩) 1 1)) (w.alloc (.cells B e))) : o.wp P a w K Q :=
  wp_buildSlice t e 1 _ ho B ie z hu hie hz (by rw [h4]; omega) (by rw [h4]; omega) (by
    have e1 : ((#[(0, x)] : Array (Nat × Operand)).map fun (i, x) => (i, a.eval x)).toList = [(0, Value.agg B)] := by rw [← hx]; simp
    rw [e1, h4]
    exact fill_oneg hB hz4) h

theorem at_slice1 (T : TypeId) {P : Program} {ops : Array Oper} {Q : Exit → Act → World → Prop} {rest : List Oper} {a : Act} {w : World} {d : Option Tmp} {n : Nat} {ps : Array (Nat × Operand)} {ty : TypeId} {pos : String} {af : Array Edge} {gd : Option (Nat × Bool)}
    (h : wpList P ops Q (⟨d, .buildSlice T n ps, ty, pos, af, gd⟩ :: rest) a w) : wpList P ops Q (⟨d, .buildSlice T n ps, ty, pos, af, gd⟩ :: rest) a w := h
theorem wpList_slice1c {P : Program} {ops : Array Oper} {rest : List Oper} {o : Oper} {a : Act} {w : World} {Q : Exit → Act → World → Prop} (hgd : Region.wanted o (yielded ops a.tmps) = true) (t e : TypeId) (x : Operand) (ho : o.op = .buildSlice t 1 #[(0, x)])
    (B : Array Value) (c : Nat) (hx : a.eval x = .agg B) (hB : B.size = c) (ie : TypeInfo) (z : Value) (hu : P.underlying t = some (.slice e)) (hie : P.info? e = some ie) (hz : ie.zero = some z) (h4 : ie.size = c) (hz4 : z.cells.size = c) (hc : 0 < c) (hc2 : c ≤ 1000)
    (h : wpList P ops Q rest (a.put o.dst (.slice (some ⟨w.heap.size, 0, none⟩) 1 1)) (w.alloc (.cells B e))) : wpList P ops Q (o :: rest) a w :=
  wpList_step fun K hK => by
    rw [if_pos hgd]
    exact op_slice1 t e x ho B c hx hB ie z hu hie hz h4 hz4 hc hc2 (hK _ _ h)
/-- one row more behind the own ones -/
theorem wpList_append_row1 {ops : Array Oper} {rest : List Oper} {o : Oper} {a : Act} {w : World} {Q : Exit → Act → World → Prop} {E S : TypeId} {c : Nat} {X : Array Value} (hgd : o.guard = none) (s x : Operand)
    (ho : o.op = .call { callee := .builtin .append, args := #[s, x], argTypes := #[S, S] }) (hS : Try.prog.underlying S = some (.slice E))
    (hi : ∃ i z, Try.prog.info? E = some i ∧ i.zero = some z ∧ i.size = c ∧ i.bytes ≤ 1000 ∧ z.cells.size = c) (hc : 0 < c) (hX : X.size = c) (hXa : X.all (·.oneCell') = true)
    (base : Nat) (v : Value) (n : Nat) (xs : List Value) (hs : a.eval s = v) (hown : w.ownsRow base E c v n xs) (hx : a.eval x = .slice (some ⟨w.heap.size, 0, none⟩) 1 1) (hn : n ≤ 100000000) (hbase : base ≤ w.heap.size)
    (h : ∀ v' w', w'.ownsRow base E c v' (n + 1) (xs ++ X.toList) → (w.alloc (.cells X E)).grownBy w' v.ownBlock → (∀ q, v.ownBlock = some q → base ≤ q) → wpList Try.prog ops Q rest (a.put o.dst v') w') : wpList Try.prog ops Q (o :: rest) a (w.alloc (.cells X E)) := by
  obtain ⟨i, z, h1, h2, h3, h4, h5⟩ := hi
  have hb := Nat.mul_le_mul (show n + 1 ≤ 100000001 by omega) h4
  refine wpList_append_own (w.alloc (.cells X E)) hgd s x _ ho base _ i z c i.bytes hS h1 h2 h3 rfl h5 hc v n xs hs (hown.alloc _) ⟨w.heap.size, 0, none⟩ 1 1 X.toList hx (by simp [hX]) (fun j u hj => ?_) (fun u hu => ?_) (by unfold maxLen; omega) (by omega) (by simp; omega) ?_
  · have e : (⟨w.heap.size, 0, none⟩ : Addr).add j = ⟨w.heap.size, j, none⟩ := by unfold Addr.add; split <;> simp_all
    rw [e, cellF (heap_alloc_new w (.cells X E))]
    simpa using hj
  · rw [Array.all_eq_true'] at hXa
    exact hXa u (by simpa using hu)
  · exact fun v' w' h6 h7 _ => h v' w' h6 h7 (fun q hq => (hown.lt q hq).1)
/-- one row more behind the own ones; where it then lies -/
theorem wpList_append_row1_at {ops : Array Oper} {rest : List Oper} {o : Oper} {a : Act} {w : World} {Q : Exit → Act → World → Prop} {E S : TypeId} {c : Nat} {X : Array Value} (hgd : o.guard = none) (s x : Operand)
    (ho : o.op = .call { callee := .builtin .append, args := #[s, x], argTypes := #[S, S] }) (hS : Try.prog.underlying S = some (.slice E))
    (hi : ∃ i z, Try.prog.info? E = some i ∧ i.zero = some z ∧ i.size = c ∧ i.bytes ≤ 1000 ∧ z.cells.size = c) (hc : 0 < c) (hX : X.size = c) (hXa : X.all (·.oneCell') = true)
    (base : Nat) (v : Value) (n : Nat) (xs : List Value) (hs : a.eval s = v) (hown : w.ownsRow base E c v n xs) (gs : Nat) (hgs : w.heap.size = gs) (hx : a.eval x = .slice (some ⟨gs, 0, none⟩) 1 1) (hn : n ≤ 100000000) (hbase : base ≤ w.heap.size)
    (h : ∀ v' w', w'.ownsRow base E c v' (n + 1) (xs ++ X.toList) → (w.alloc (.cells X E)).grownBy w' v.ownBlock → (∀ q, v.ownBlock = some q → base ≤ q) → (∀ q, v'.ownBlock = some q → v.ownBlock = some q ∨ w.heap.size < q) → wpList Try.prog ops Q rest (a.put o.dst v') w') : wpList Try.prog ops Q (o :: rest) a (w.alloc (.cells X E)) := by
  subst hgs
  obtain ⟨i, z, h1, h2, h3, h4, h5⟩ := hi
  have hb := Nat.mul_le_mul (show n + 1 ≤ 100000001 by omega) h4
  refine wpList_append_own_at (w := w.alloc (.cells X E)) hgd s x _ ho base _ i z c i.bytes hS h1 h2 h3 rfl h5 hc v n xs hs (hown.alloc _) ⟨w.heap.size, 0, none⟩ 1 1 X.toList hx (by simp [hX]) (fun j u hj => ?_) (fun u hu => ?_) (by unfold maxLen; omega) (by omega) (by simp; omega) ?_
  · have e : (⟨w.heap.size, 0, none⟩ : Addr).add j = ⟨w.heap.size, j, none⟩ := by unfold Addr.add; split <;> simp_all
    rw [e, cellF (heap_alloc_new w (.cells X E))]
    simpa using hj
  · rw [Array.all_eq_true'] at hXa
    exact hXa u (by simpa using hu)
  · exact fun v' w' h6 h7 _ h8 => h v' w' h6 h7 (fun q hq => (hown.lt q hq).1) (fun q hq => by
      rcases h8 with h8 | h8
      · exact .inl (h8 ▸ hq)
      · rw [h8] at hq; injection hq with hq; simp at hq; exact .inr (by omega))
theorem op_append_row1 {o : Oper} {a : Act} {w : World} {K : Act → World → Prop} {Q : Exit → Act → World → Prop} {E S : TypeId} {c : Nat} {X : Array Value} (s x : Operand)
    (ho : o.op = .call { callee := .builtin .append, args := #[s, x], argTypes := #[S, S] }) (hS : Try.prog.underlying S = some (.slice E))
    (hi : ∃ i z, Try.prog.info? E = some i ∧ i.zero = some z ∧ i.size = c ∧ i.bytes ≤ 1000 ∧ z.cells.size = c) (hc : 0 < c) (hX : X.size = c) (hXa : X.all (·.oneCell') = true)
    (base : Nat) (v : Value) (n : Nat) (xs : List Value) (hs : a.eval s = v) (hown : w.ownsRow base E c v n xs) (gs : Nat) (hx : a.eval x = .slice (some ⟨gs, 0, none⟩) 1 1) (hg : w.heap[gs]? = some (.cells X E (0, 0))) (hn : n ≤ 100000000) (hbase : base ≤ w.heap.size)
    (h : ∀ v' w', w'.ownsRow base E c v' (n + 1) (xs ++ X.toList) → w.grownBy w' v.ownBlock → (∀ q, v.ownBlock = some q → base ≤ q) → K (a.put o.dst v') w') : o.wp Try.prog a w K Q := by
  obtain ⟨i, z, h1, h2, h3, h4, h5⟩ := hi
  have hb := Nat.mul_le_mul (show n + 1 ≤ 100000001 by omega) h4
  refine wp_append_own w s x _ ho base _ i z c i.bytes hS h1 h2 h3 rfl h5 hc v n xs hs hown ⟨gs, 0, none⟩ 1 1 X.toList hx (by simp [hX]) (fun j u hj => ?_) (fun u hu => ?_) (by unfold maxLen; omega) (by omega) hbase ?_
  · have e : (⟨gs, 0, none⟩ : Addr).add j = ⟨gs, j, none⟩ := by unfold Addr.add; split <;> simp_all
    rw [e, cellF hg]
    simpa using hj
  · rw [Array.all_eq_true'] at hXa
    exact hXa u (by simpa using hu)
  · exact fun v' w' h6 h7 _ => h v' w' h6 h7 (fun q hq => (hown.lt q hq).1)
theorem own_weak {w : World} {b b' n c : Nat} {e : TypeId} {v : Value} {xs : List Value} (h : w.ownsRow b e c v n xs) (hb : b' ≤ b) : w.ownsRow b' e c v n xs := by
  obtain ⟨h1, h2 | ⟨g, cap, cur, h2, h3, h4⟩⟩ := h
  · exact ⟨h1, .inl h2⟩
  · exact ⟨h1, .inr ⟨g, cap, cur, h2, by omega, h4⟩⟩
end Go.Proofs.Ytoglcgijgckdaaa
