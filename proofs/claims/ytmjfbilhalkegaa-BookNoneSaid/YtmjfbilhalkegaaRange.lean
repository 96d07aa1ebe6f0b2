/- A range over a function whose rounds never come: the plain walk goes on behind it. No condition. -/
import Derived.Test.YtmjfbilhalkegaaFlat
import Derived.RangeFuncNested
import Derived.RangeFuncBound
import Derived.RangeFuncCalls
import Derived.RangeFuncLeaves
import Derived.Shelf.Abstract
import Derived.LoopN
namespace Go.Proofs.Ytmjfbilhalkegaa
set_option linter.unusedVariables false
set_option linter.unusedSimpArgs false
open Go.RowKit Go.Shelf

/-- a function whose body holds ranges over functions, from its body -/
theorem calls_marks {P : Program} {f : FuncId} {fn : Func} {c : Code} {args : Array Value} {w : World} {R : Ending → World → Prop} (hf : P.funcs[f]? = some fn) (hb : fn.body = some c)
    (h : c.wp P (bodyPostM Fence.wide 9 P fn R) { tmps := args ++ Array.replicate (fn.ntmps - args.size) undef, defers := [] } w) : Calls P f args w R :=
  callsIn_wide.1 (callsIn_of_wp_marks hf hb trivial (wpIn_wide.2 h) rfl)
theorem range_none {P : Program} {g : Operand} {ps : Array Tmp} {assign body : Code} {Q : Exit → Act → World → Prop} {a : Act} {w : World} {gf : Nat} {lb : Array Value} (hg : a.eval g = .func (.func gf) #[] lb) (eg : ∀ args w, (callFunc gf args).run P w = .ok (.enter gf args) w)
    (hit : ∀ l W, Below w.heap.size w W → Calls P gf (#[.func (.yield l) #[] #[]] ++ lb) W fun e W' => (∃ v, e = .returned v) ∧ W = W')
    (hdone : ∀ D W, w.heap.size ≤ D → Below w.heap.size w W → W.heap[D]? = some (.deferred (some [])) → Q .normal { a with defers := { target := .collected D, args := #[] } :: a.defers } W) :
    (Code.rangeFunc g ps assign body).wp P Q a w := by
  refine (wpIn_wide (n := 9)).1 ?_
  refine wpIn_rangeFunc_ownF (α := Empty) (F := Fence.wide) rfl (by omega) hg trivial eg (encs := fun x => x.elim) (Kp := fun _ _ => True) (S := fun _ => True) (Sp := fun _ => False) (N := 0) (w0 := w) ?_ (fun _ _ => trivial) (fun _ _ _ _ _ _ _ _ => trivial) (Below.refl _ _) (fun x => x.elim)
    (fun _ W => Below w.heap.size w W) (fun _ _ _ => False) (ownFrom_below (Nat.le_refl _) (Nat.le_refl _)) (fun _ _ _ _ _ h => h.elim) (Below.refl _ _) (fun x => x.elim) (fun _ x => x.elim) (fun _ _ x => x.elim)
    (fun D xs W h1 _ h2 h3 => hdone D W h1 h2 h3) (fun D c pre W _ h => h.elim)
  intro l J Jx W hW hJ hJx hY h0
  refine callsIn_wide.2 ((hit l W hW).mono fun e W' ⟨h1, h2⟩ => ?_)
  subst h2
  exact ⟨h1, .inl ⟨[], trivial, h0⟩⟩
theorem leaves_cons {P : Program} {fn : Func} {tmps : Array Value} {R : Ending → World → Prop} {D : Nat} {ds : List Deferred} {w : World} (hK : w.heap[D]? = some (.deferred (some [])))
    (h : LeavesInM Fence.wide 9 P fn tmps R ds .returning (w.putObj D (.deferred none))) : LeavesInM Fence.wide 9 P fn tmps R ({ target := .collected D, args := #[] } :: ds) .returning w :=
  ⟨by simp, .inl ⟨_, _, rfl, run_takeDeferred hK, h⟩⟩
theorem leaves_nil {P : Program} {fn : Func} {tmps : Array Value} {R : Ending → World → Prop} {w : World} {v : Value} (h : (results fn tmps).run P w = .ok v w) (hR : R (.returned v) w) : LeavesInM Fence.wide 9 P fn tmps R [] .returning w := ⟨v, h, hR⟩
/-- the collected block is done with -/
theorem below_put {w W : World} {B D : Nat} {o o' : Obj} (h : Below B w W) (hB : B ≤ D) (hD : W.heap[D]? = some o) (hs : B ≤ w.heap.size) : Below B w (W.putObj D o') :=
  h.grown (grownBy_putObj' W D o') (Nat.le_trans hs h.size) (fun k e => by cases e; exact hB)
theorem put_other {W : World} {D k : Nat} {o o' x : Obj} (hD : W.heap[D]? = some o) (h : W.heap[k]? = some x) (hne : k ≠ D) : (W.putObj D o').heap[k]? = some x :=
  ((grownBy_putObj' W D o').block k (Array.getElem?_eq_some_iff.1 h).1 (fun e => hne (by injection e))).trans h
end Go.Proofs.Ytmjfbilhalkegaa
