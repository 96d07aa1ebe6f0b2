/- A region that draws its order, whose operations leave old memory alone: one walk in the text's order serves every order. No condition. -/
import Derived.Test.YtmjfbilhalkegaaRow
import Derived.Deep.Quiet
namespace Go.Proofs.Ytmjfbilhalkegaa
set_option linter.unusedVariables false
set_option linter.unusedSimpArgs false
open Go.RowKit

/-- 'wpQuiet' behind a name that is never laid open. -/
structure WQ (P : Program) (ops : Array Oper) (C : World → Prop) (Q : Act → Prop) (l : List Oper) (a : Act) : Prop where
  out : wpQuiet P ops C Q l a

section
variable {P : Program} {ops : Array Oper} {C : World → Prop} {Q : Act → Prop} {o : Oper} {rest : List Oper} {a : Act}

theorem wp_region_below {id : Nat} {Q : Exit → Act → World → Prop} {a : Act} {w : World} {l : List Oper} (hm : P.follows .mixedOrders = true) (hB : Region.lexB .any l.toArray = true)
    (h : WQ P l.toArray (fun w' => Below w.heap.size w w') (fun a' => ∀ w', Below w.heap.size w w' → Q .normal a' w') l a) : (Code.region id l.toArray true).wp P Q a w :=
  wp_region_quiet (C := fun w' => Below w.heap.size w w') hm hB (Below.drew (Below.refl _ _)) (by simpa using h.out)

theorem q_nil (h : Q a) : WQ P ops C Q [] a := ⟨h⟩
theorem q_skip (hw : Region.wanted o (yielded ops a.tmps) = false) (h : WQ P ops C Q rest (a.put o.dst undef)) : WQ P ops C Q (o :: rest) a := by
  constructor
  unfold wpQuiet
  rw [hw]
  exact h.out
theorem q_val (v : Value) (hw : Region.wanted o (yielded ops a.tmps) = true) (hv : ∀ w, C w → (execOp a.eval o).run P w = .ok (.value v) w) (h : WQ P ops C Q rest (a.put o.dst v)) : WQ P ops C Q (o :: rest) a := by
  constructor
  unfold wpQuiet
  rw [if_pos hw]
  exact ⟨v, fun w hc => by unfold Oper.quietAt; rw [hv w hc]; exact ⟨rfl, rfl⟩, h.out⟩
theorem q_call (v : Value) (f : FuncId) (args : Array Value) (hw : Region.wanted o (yielded ops a.tmps) = true) (he : ∀ w, C w → (execOp a.eval o).run P w = .ok (.enter f args) w)
    (hc : ∀ w, C w → Calls P f args w fun e w'' => e = .returned v ∧ C w'') (h : WQ P ops C Q rest (a.put o.dst v)) : WQ P ops C Q (o :: rest) a := by
  constructor
  unfold wpQuiet
  rw [if_pos hw]
  exact ⟨v, fun w hw => by unfold Oper.quietAt; rw [he w hw]; exact ⟨rfl, hc w hw⟩, h.out⟩
/-- A call whose contract says: this value, old memory as it was. -/
theorem q_call_below {W : World} (v : Value) (f : FuncId) (args : Array Value) (hw : Region.wanted o (yielded ops a.tmps) = true) (hc : ∀ w, Calls P f args w fun e w'' => e = .returned v ∧ Below w.heap.size w w'')
    (he : ∀ w, Below W.heap.size W w → (execOp a.eval o).run P w = .ok (.enter f args) w)
    (h : WQ P ops (fun w' => Below W.heap.size W w') Q rest (a.put o.dst v)) : WQ P ops (fun w' => Below W.heap.size W w') Q (o :: rest) a :=
  q_call v f args hw he (fun w hw => (hc w).mono fun _ _ ⟨h1, h2⟩ => ⟨h1, below_then hw h2⟩) h
/-- .. that says: this value, the very world. -/
theorem q_call_same {W : World} (v : Value) (f : FuncId) (args : Array Value) (hw : Region.wanted o (yielded ops a.tmps) = true) (hc : ∀ w, Calls P f args w fun e w'' => e = .returned v ∧ w = w'')
    (he : ∀ w, Below W.heap.size W w → (execOp a.eval o).run P w = .ok (.enter f args) w)
    (h : WQ P ops (fun w' => Below W.heap.size W w') Q rest (a.put o.dst v)) : WQ P ops (fun w' => Below W.heap.size W w') Q (o :: rest) a :=
  q_call v f args hw he (fun w hw => (hc w).mono fun _ _ ⟨h1, h2⟩ => ⟨h1, h2 ▸ hw⟩) h
/-- A whole aggregate is loaded. -/
theorem q_load_part {W : World} (hw : Region.wanted o (yielded ops a.tmps) = true) (ty : TypeId) (x : Operand) (ho : o.op = .load ty x)
    (g off : Nat) (hx : a.eval x = .pointer (some ⟨g, off, none⟩)) (t : TypeId) (cs : Array Value) (d : TypeDesc) (n : Nat) (hg : W.heap[g]? = some (.cells cs t (0, 0)))
    (hu : P.underlying ty = some d) (hd : (match d with | .struct _ | .array _ _ => true | _ => false) = true) (hi : (P.info? ty).map (·.size) = some n) (hn : off + n ≤ cs.size)
    (B : Array Value) (hB : cs.extract off (off + n) = B)
    (h : WQ P ops (fun w' => Below W.heap.size W w') Q rest (a.put o.dst (.agg B))) : WQ P ops (fun w' => Below W.heap.size W w') Q (o :: rest) a :=
  q_val (.agg B) hw (fun w hC => by
    unfold execOp
    simp only [ho, hx, Instr.loadAt, Instr.sureAddr, Sem.run_bind, Sem.run_pure, Result.andThen_ok, run_loadVar_part w g off t ty cs (0, 0) d n (kept hC hg) hu hd hi hn, hB]) h
theorem at_qload (T : TypeId) {d : Option Tmp} {x : Operand} {ty : TypeId} {pos : String} {af : Array Edge} {gd : Option (Nat × Bool)}
    (h : WQ P ops C Q (⟨d, .load T x, ty, pos, af, gd⟩ :: rest) a) : WQ P ops C Q (⟨d, .load T x, ty, pos, af, gd⟩ :: rest) a := h
theorem at_qcall (f : FuncId) {d : Option Tmp} {ags : Array Operand} {ts : Array TypeId} {ty : TypeId} {pos : String} {af : Array Edge} {gd : Option (Nat × Bool)}
    (h : WQ P ops C Q (⟨d, .call { callee := .value (.func f), args := ags, argTypes := ts }, ty, pos, af, gd⟩ :: rest) a) : WQ P ops C Q (⟨d, .call { callee := .value (.func f), args := ags, argTypes := ts }, ty, pos, af, gd⟩ :: rest) a := h
end
end Go.Proofs.Ytmjfbilhalkegaa
