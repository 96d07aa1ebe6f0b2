/- A region that draws its order inside a round of a range over a function: where its operations leave old memory alone, one walk in the text's order serves every order. No condition. -/
import Derived.Test.YtobokknfpjjdeaaQuiet
import Derived.Test.YtobokknfpjjdeaaWpIn
import Derived.OrdersIn
import Derived.RangeFuncKeeps
import Derived.RangeFuncCalls
namespace Go.Proofs.Ytobokknfpjjdeaa
set_option linter.unusedVariables false
set_option linter.unusedSimpArgs false
open Go.RowKit

def noDefer (l : List Oper) : Bool := l.all fun o => match o.op with | .defer _ => false | _ => true
theorem noDefer_at {l : List Oper} (h : noDefer l = true) {i : Nat} {o : Oper} (ho : l.toArray[i]? = some o) : ∀ c, o.op ≠ .defer c := fun c e => by
  rw [List.getElem?_toArray] at ho
  have := List.all_eq_true.1 h o (List.mem_of_getElem? ho)
  rw [e] at this
  cases this
section
variable {P : Program} {C : World → Prop} {Q : Act → Prop} {Q' : Exit → Act → World → Prop} {r n : Nat}
theorem wpIn_of_quietAt {o : Oper} {a : Act} {w : World} {v : Value} {K : Act → World → Prop} (hd : ∀ c, o.op ≠ .defer c) (hC : C w) (h : o.quietAt P a C w v) (hK : ∀ w', C w' → K (a.put o.dst v) w') : o.wpIn (Fence.wide.inRound r) n P a w K Q' := by
  refine ⟨fun _ _ => trivial, ?_⟩
  rw [sem_at _ _ hd]
  unfold Oper.quietAt at h
  cases hr : (execOp a.eval o).run P w with
  | ok x w' =>
    rw [hr] at h
    cases x with
    | value u => obtain ⟨rfl, rfl⟩ := h; exact hK _ hC
    | skip => obtain ⟨rfl, rfl⟩ := h; exact hK _ hC
    | enter f args =>
      obtain ⟨rfl, hc⟩ := h
      rw [Oper.uponIn_enter]
      exact ⟨fun hh => (by cases hh), CallsIn.inRound r (callsIn_wide.2 (hc.mono fun e w2 ⟨he, hc2⟩ => by subst he; exact hK _ hc2))⟩
    | _ => exact h.elim
  | halt x w' => rw [hr] at h; exact h.elim
theorem anyIn_of_Q {l : List Oper} (hnd : noDefer l = true) (hQ : ∀ a w, C w → Q a → Q' .normal a w) : ∀ (fuel : Nat) (listed : Array Bool) (a : Act) (w : World), C w → wpAnyQ P .any l.toArray C Q fuel listed a → wpAnyIn (Fence.wide.inRound r) n P .any l.toArray Q' fuel listed a w
  | 0, _, a, w, hC, h => ⟨h.1, hQ _ _ hC h.2⟩
  | fuel + 1, _, a, w, hC, h => ⟨fun h0 => hQ _ _ hC (h.1 h0), fun i hi => by
    have hq := h.2 i hi
    unfold qOp at hq
    unfold wpOpIn
    cases ho : l.toArray[i]? with
    | none => rw [ho] at hq; exact anyIn_of_Q hnd hQ fuel _ a w hC hq
    | some o =>
      rw [ho] at hq
      simp only at hq ⊢
      split
      · rename_i hw
        rw [if_pos hw] at hq
        obtain ⟨v, h1, h2⟩ := hq
        exact wpIn_of_quietAt (C := C) (noDefer_at hnd ho) hC (h1 w hC) (fun w' hC' => anyIn_of_Q hnd hQ fuel _ _ w' hC' h2)
      · rename_i hw
        rw [if_neg hw] at hq
        exact ⟨fun _ _ => trivial, anyIn_of_Q hnd hQ fuel _ _ w hC hq⟩⟩
theorem wpIn_region_below {id : Nat} {Q : Exit → Act → World → Prop} {a : Act} {w : World} {l : List Oper} (hm : P.follows .mixedOrders = true) (hB : Region.lexB .any l.toArray = true) (hnd : noDefer l = true)
    (h : WQ P l.toArray (fun w' => Below w.heap.size w w') (fun a' => ∀ w', Below w.heap.size w w' → Q .normal a' w') l a) : (Code.region id l.toArray true).wpIn (Fence.wide.inRound r) n P Q a w := by
  refine wpIn_region_any hm ?_
  simp only [Region.lexB, Bool.and_eq_true] at hB
  have hlex := wpAnyQ_lex (P := P) (C := fun w' => Below w.heap.size w w') (md := .any) hB.1 l 0 (Array.replicate l.toArray.size false) a (by simp) (by simpa using hB.2) h.out
  exact anyIn_of_Q (C := fun w' => Below w.heap.size w w') (Q := fun a' => ∀ w', Below w.heap.size w w' → Q .normal a' w') hnd (fun a' w' hC hq => hq w' hC) _ _ a _ (Below.drew (Below.refl _ _)) (by simpa using hlex)
end
theorem ko_below {w w' : World} (h : Below w.heap.size w w') : KeepsOthers w w' :=
  ⟨h.size, fun k o hk _ => (h.block k (Array.getElem?_eq_some_iff.1 hk).1).trans hk⟩
section
variable {P : Program} {ops : Array Oper} {rest : List Oper} {o : Oper} {a : Act} {Q : Act → Prop}
/-- A whole aggregate is loaded, in a region that draws, whatever is frozen. -/
theorem q_load_fr {W : World} (hw : Region.wanted o (yielded ops a.tmps) = true) (ty : TypeId) (x : Operand) (ho : o.op = .load ty x)
    (g off : Nat) (hx : a.eval x = .pointer (some ⟨g, off, none⟩)) (t : TypeId) (cs : Array Value) (fr : Nat × Nat) (d : TypeDesc) (n : Nat) (hg : W.heap[g]? = some (.cells cs t fr))
    (hu : P.underlying ty = some d) (hd : (match d with | .struct _ | .array _ _ => true | _ => false) = true) (hi : (P.info? ty).map (·.size) = some n) (hn : off + n ≤ cs.size)
    (B : Array Value) (hB : cs.extract off (off + n) = B)
    (h : WQ P ops (fun w' => Below W.heap.size W w') Q rest (a.put o.dst (.agg B))) : WQ P ops (fun w' => Below W.heap.size W w') Q (o :: rest) a :=
  q_val (.agg B) hw (fun w hC => by
    unfold execOp
    simp only [ho, hx, Instr.loadAt, Instr.sureAddr, Sem.run_bind, Sem.run_pure, Result.andThen_ok, run_loadVar_part w g off t ty cs fr d n (kept hC hg) hu hd hi hn, hB]) h
end
end Go.Proofs.Ytobokknfpjjdeaa
