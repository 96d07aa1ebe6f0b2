/- Inside a fence: a slice built of one struct, and one row more behind the own ones. Whether contracts are the same. No condition. -/
import Derived.Test.YtobokknfpjjdeaaEqCon
import Derived.Test.YtobokknfpjjdeaaWpIn
import Derived.Maps.OwnIn
import Derived.Great.BuildSlice
namespace Go.Proofs.Ytobokknfpjjdeaa
set_option linter.unusedVariables false
set_option linter.unusedSimpArgs false
open Go.RowKit Go.Deep

section
variable {P : Program} {F : Fence} {n : Nat} {ops : Array Oper} {rest : List Oper} {o : Oper} {a : Act} {w : World} {Q : Exit → Act → World → Prop}
theorem at_slice1In (T : TypeId) {d : Option Tmp} {m : Nat} {ps : Array (Nat × Operand)} {ty : TypeId} {pos : String} {af : Array Edge} {gd : Option (Nat × Bool)}
    (h : wpListIn F n P ops Q (⟨d, .buildSlice T m ps, ty, pos, af, gd⟩ :: rest) a w) : wpListIn F n P ops Q (⟨d, .buildSlice T m ps, ty, pos, af, gd⟩ :: rest) a w := h
theorem at_appendIn (T : TypeId) {d : Option Tmp} {xs : Array Operand} {ts : Array TypeId} {ty : TypeId} {pos : String} {af : Array Edge} {gd : Option (Nat × Bool)}
    (h : wpListIn F n P ops Q (⟨d, .call { callee := .builtin .append, args := xs, argTypes := ts }, ty, pos, af, gd⟩ :: rest) a w) : wpListIn F n P ops Q (⟨d, .call { callee := .builtin .append, args := xs, argTypes := ts }, ty, pos, af, gd⟩ :: rest) a w := h
theorem wpListIn_slice1c (hgd : Region.wanted o (yielded ops a.tmps) = true) (t e : TypeId) (x : Operand) (ho : o.op = .buildSlice t 1 #[(0, x)])
    (B : Array Value) (c : Nat) (hx : a.eval x = .agg B) (hB : B.size = c) (ie : TypeInfo) (z : Value) (hu : P.underlying t = some (.slice e)) (hie : P.info? e = some ie) (hz : ie.zero = some z) (h4 : ie.size = c) (hz4 : z.cells.size = c) (hc : 0 < c) (hc2 : c ≤ 1000)
    (h : wpListIn F n P ops Q rest (a.put o.dst (.slice (some ⟨w.heap.size, 0, none⟩) 1 1)) (w.alloc (.cells B e))) : wpListIn F n P ops Q (o :: rest) a w :=
  wpListIn_step fun K hK => by
    rw [if_pos hgd]
    refine wpIn_of_run (by simp [ho]) (by unfold Oper.about; rw [ho]) (v := .slice (some ⟨w.heap.size, 0, none⟩) 1 1) (w1 := w.alloc (.cells B e)) (.inl ?_) (hK _ _ h)
    have hf : Instr.fill (fun i => some (i * ie.size, ie.size)) ((Array.range (1 * ie.size)).map (z.cells[· % z.cells.size]!)) ((#[(0, x)] : Array (Nat × Operand)).map fun (i, x) => (i, a.eval x)).toList = some B := by
      have e1 : ((#[(0, x)] : Array (Nat × Operand)).map fun (i, x) => (i, a.eval x)).toList = [(0, Value.agg B)] := by rw [← hx]; simp
      rw [e1, h4]
      exact fill_oneg hB hz4
    unfold execOp
    simp only [ho, Sem.run_bind, run_buildSlice w t e 1 _ B ie z hu hie hz (by rw [h4]; omega) (by rw [h4]; omega) hf, Result.andThen_ok]
    rfl
end
/-- one row more behind the own ones -/
theorem wpListIn_append_row1 {F : Fence} {nF : Nat} {ops : Array Oper} {rest : List Oper} {o : Oper} {a : Act} {w : World} {Q : Exit → Act → World → Prop} {E S : TypeId} {c : Nat} {X : Array Value} (hgd : o.guard = none) (s x : Operand)
    (ho : o.op = .call { callee := .builtin .append, args := #[s, x], argTypes := #[S, S] }) (hS : Try.prog.underlying S = some (.slice E))
    (hi : ∃ i z, Try.prog.info? E = some i ∧ i.zero = some z ∧ i.size = c ∧ i.bytes ≤ 1000 ∧ z.cells.size = c) (hc : 0 < c) (hX : X.size = c) (hXa : X.all (·.oneCell') = true)
    (base : Nat) (v : Value) (n : Nat) (xs : List Value) (hs : a.eval s = v) (hown : w.ownsRow base E c v n xs) (hx : a.eval x = .slice (some ⟨w.heap.size, 0, none⟩) 1 1) (hn : n ≤ 100000000) (hbase : base ≤ w.heap.size)
    (h : ∀ v' w', w'.ownsRow base E c v' (n + 1) (xs ++ X.toList) → (w.alloc (.cells X E)).grownBy w' v.ownBlock → (v'.ownBlock = v.ownBlock ∨ v'.ownBlock = some (w.heap.size + 1)) → wpListIn F nF Try.prog ops Q rest (a.put o.dst v') w') : wpListIn F nF Try.prog ops Q (o :: rest) a (w.alloc (.cells X E)) := by
  obtain ⟨i, z, h1, h2, h3, h4, h5⟩ := hi
  have hb := Nat.mul_le_mul (show n + 1 ≤ 100000001 by omega) h4
  refine wpListIn_append_own_at (w := w.alloc (.cells X E)) hgd s x _ ho base _ i z c i.bytes hS h1 h2 h3 rfl h5 hc v n xs hs (hown.alloc _) ⟨w.heap.size, 0, none⟩ 1 1 X.toList hx (by simp [hX]) (fun j u hj => ?_) (fun u hu => ?_) (by unfold maxLen; omega) (by omega) (by simp; omega) ?_
  · have e : (⟨w.heap.size, 0, none⟩ : Addr).add j = ⟨w.heap.size, j, none⟩ := by unfold Addr.add; split <;> simp_all
    rw [e, cellF (heap_alloc_new w (.cells X E))]
    simpa using hj
  · rw [Array.all_eq_true'] at hXa
    exact hXa u (by simpa using hu)
  · exact fun v' w' h6 h7 _ h8 => h v' w' h6 h7 (by simpa using h8)
/-- whether contracts, whether specs are the same -/
theorem neq_con_any {A B : Array Value} (hA : IsCon A) (hB : IsCon B) : ∃ b : Bool, (∀ w : World, (binOp .neq 65 (.agg A) (.agg B)).run Try.prog w = .ok (.bool b) w) ∧ (A = B → b = false) := by
  obtain ⟨l, hl⟩ := kl_con hA
  obtain ⟨l2, hl2⟩ := kl_con hB
  have hc : Try.prog.cellsOf 65 = 27 := by kernel_rfl
  have hf : ∀ X : Array Value, IsCon X → (Value.agg X).formed Try.prog 65 = true := fun X h => by
    simp [Value.formed, Try.underlying65, hc, h.size]
  classical
  refine ⟨!decide (l = l2), fun w => ?_, fun e => ?_⟩
  · obtain ⟨r, h1, h2⟩ := run_equalIn_deep (P := Try.prog) 9996 4 65 (by kernel_rfl) w 4 4 (.agg A) (.agg B) l l2 (hf A hA) (hf B hB) hl hl2
    rw [show (9996 + 4 : Nat) = 10000 from rfl] at h1
    have hr : r = decide (l = l2) := by cases r <;> simp_all
    rw [run_neq_struct, h1, hr]; rfl
  · subst e
    rw [hl] at hl2
    cases hl2
    simp
theorem neq_spec {A : Array Value} (h : IsSpec A) (w : World) : (binOp .neq 61 (.agg A) (.agg A)).run Try.prog w = .ok (.bool false) w := by
  obtain ⟨l, hl⟩ : ∃ l, Try.prog.keyLits (0 + 3) 61 A.toList = some l := kl_spec (by simpa using h)
  have hc : Try.prog.cellsOf 61 = 25 := by kernel_rfl
  have hf : (Value.agg A).formed Try.prog 61 = true := by
    simp [Value.formed, Try.underlying61, hc, h.size]
  obtain ⟨r, h1, h2⟩ := run_equalIn_deep (P := Try.prog) 9997 3 61 (by kernel_rfl) w 3 3 (.agg A) (.agg A) l l hf hf hl hl
  rw [show (9997 + 3 : Nat) = 10000 from rfl] at h1
  have e : (binOp .neq 61 (.agg A) (.agg A)).run Try.prog w = ((Op.equalIn 10000 61 (.agg A) (.agg A)).run Try.prog w).andThen fun b w' => .ok (.bool (!b)) w' := by
    rw [run_neq_struct]
  rw [e, h1, h2.2 rfl]; rfl
end Go.Proofs.Ytobokknfpjjdeaa
