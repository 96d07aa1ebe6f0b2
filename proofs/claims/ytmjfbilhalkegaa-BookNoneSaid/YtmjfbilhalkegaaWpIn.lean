/- Loads, stores and new variables of whole structs inside a fence. No condition. -/
import Derived.Test.YtmjfbilhalkegaaLib
import Derived.WalkKit
import Derived.OwnWalkIn
import Derived.TacticsInMore
import Derived.LoopNIn
import Derived.LoopIn
namespace Go.Proofs.Ytmjfbilhalkegaa
set_option linter.unusedVariables false
set_option linter.unusedSimpArgs false
open Go.RowKit
section
variable {P : Program} {F : Fence} {n : Nat} {ops : Array Oper} {rest : List Oper} {o : Oper} {a : Act} {w : World} {Q : Exit → Act → World → Prop}
theorem at_loadIn (T : TypeId) {d : Option Tmp} {x : Operand} {ty : TypeId} {pos : String} {af : Array Edge} {gd : Option (Nat × Bool)}
    (h : wpListIn F n P ops Q (⟨d, .load T x, ty, pos, af, gd⟩ :: rest) a w) : wpListIn F n P ops Q (⟨d, .load T x, ty, pos, af, gd⟩ :: rest) a w := h
theorem at_storeIn (T : TypeId) {d : Option Tmp} {x y : Operand} {ty : TypeId} {pos : String} {af : Array Edge} {gd : Option (Nat × Bool)}
    (h : wpListIn F n P ops Q (⟨d, .store T x y, ty, pos, af, gd⟩ :: rest) a w) : wpListIn F n P ops Q (⟨d, .store T x y, ty, pos, af, gd⟩ :: rest) a w := h
theorem sem_at {r : Option Nat} (ρ : Operand → Value) (o : Oper) (h : ∀ c, o.op ≠ .defer c) : o.semAt r ρ = execOp ρ o := by
  cases r with
  | none => exact Oper.semAt_none ..
  | some l => exact Oper.semAt_some l ρ o h
theorem wpIn_of_run {K : Act → World → Prop} (hd : ∀ c, o.op ≠ .defer c) (ha : o.about P w a.eval = none) {v : Value} {w1 : World} (hw : (execOp a.eval o).run P w = .ok (.value v) w1 ∨ ((execOp a.eval o).run P w = .ok .skip w1 ∧ v = undef)) (h : K (a.put o.dst v) w1) : o.wpIn F n P a w K Q := by
  unfold Oper.wpIn
  refine ⟨fun f hf => (by rw [ha] at hf; cases hf), ?_⟩
  rw [sem_at _ _ hd]
  rcases hw with e | ⟨e, rfl⟩ <;> rw [e] <;> exact h
theorem wpListIn_load_part (hgd : Region.wanted o (yielded ops a.tmps) = true) (ty : TypeId) (x : Operand) (ho : o.op = .load ty x)
    (g off : Nat) (hx : a.eval x = .pointer (some ⟨g, off, none⟩)) (t : TypeId) (cs : Array Value) (fr : Nat × Nat) (d : TypeDesc) (m : Nat) (hg : w.heap[g]? = some (.cells cs t fr))
    (hu : P.underlying ty = some d) (hd : (match d with | .struct _ | .array _ _ => true | _ => false) = true) (hi : (P.info? ty).map (·.size) = some m) (hn : off + m ≤ cs.size)
    (B : Array Value) (hB : cs.extract off (off + m) = B)
    (h : wpListIn F n P ops Q rest (a.put o.dst (.agg B)) w) : wpListIn F n P ops Q (o :: rest) a w :=
  wpListIn_step fun K hK => by
    rw [if_pos hgd]
    refine wpIn_of_run (by simp [ho]) (by unfold Oper.about; rw [ho]) (v := .agg B) (w1 := w) (.inl ?_) (hK _ _ h)
    unfold execOp
    simp only [ho, hx, Instr.loadAt, Instr.sureAddr, Sem.run_bind, Sem.run_pure, Result.andThen_ok, run_loadVar_part w g off t ty cs fr d m hg hu hd hi hn, hB]
theorem wpListIn_store_new {W : World} (hgd : Region.wanted o (yielded ops a.tmps) = true) (ty : TypeId) (x y : Operand) (ho : o.op = .store ty x y)
    (S Z : Array Value) (t : TypeId) (gn : Nat) (hx : a.eval x = .pointer (some ⟨gn, 0, none⟩)) (hgn : gn = W.heap.size) (hy : a.eval y = .agg S) (hi : (P.info? ty).map (·.size) = some S.size)
    (hold : Z.size = S.size) (h1 : S.all (·.oneCell') = true)
    (h : wpListIn F n P ops Q rest (a.put o.dst undef) (W.alloc (.cells S t))) : wpListIn F n P ops Q (o :: rest) a (W.alloc (.cells Z t)) :=
  wpListIn_step fun K hK => by
    rw [if_pos hgd]
    subst hgn
    refine wpIn_of_run (by simp [ho]) (by unfold Oper.about; rw [ho]) (v := undef) (w1 := W.alloc (.cells S t)) (.inr ⟨?_, rfl⟩) (hK _ _ h)
    unfold execOp
    simp only [ho, hx, hy, Instr.storeAt, Instr.sureAddr, Sem.run_bind, Sem.run_pure, Result.andThen_ok, run_storeVar_row _ W.heap.size t ty Z S (heap_alloc_new _ _) hi hold h1, setRow_alloc]
theorem wpListIn_alloc_named (hgd : Region.wanted o (yielded ops a.tmps) = true) (T : TypeId) (ho : o.op = .alloc T)
    (Z : Array Value) (hz : ((P.info? T).bind (·.zero)).map Value.cells = some Z)
    (h : wpListIn F n P ops Q rest (a.put o.dst (.pointer (some ⟨w.heap.size, 0, none⟩))) (w.alloc (.cells Z T))) : wpListIn F n P ops Q (o :: rest) a w :=
  wpListIn_step fun K hK => by
    rw [if_pos hgd]
    refine wpIn_of_run (by simp [ho]) (by unfold Oper.about; rw [ho]) (v := .pointer (some ⟨w.heap.size, 0, none⟩)) (w1 := w.alloc (.cells Z T)) (.inl ?_) (hK _ _ h)
    cases hq : P.info? T with
    | none => simp [hq] at hz
    | some i =>
      cases hq2 : i.zero with
      | none => simp [hq, hq2] at hz
      | some z =>
        simp [hq, hq2] at hz
        subst hz
        unfold execOp
        simp only [ho, Instr.alloc, zeroValue, typeInfo, newVar, newRow, Sem.run_bind, Sem.run_pure, run_program, Result.andThen_ok, run_newObj_alloc, hq, hq2]
theorem at_allocIn (T : TypeId) {d : Option Tmp} {ty : TypeId} {pos : String} {af : Array Edge} {gd : Option (Nat × Bool)}
    (h : wpListIn F n P ops Q (⟨d, .alloc T, ty, pos, af, gd⟩ :: rest) a w) : wpListIn F n P ops Q (⟨d, .alloc T, ty, pos, af, gd⟩ :: rest) a w := h
end
end Go.Proofs.Ytmjfbilhalkegaa
