/- A region that draws its order: calls that leave old memory as it is, and loads, may be taken first, where every later world does. No condition. -/
import Derived.Test.YtfgcjgabknoamaaLib
import Derived.Deep.RegionHeld3
namespace Go.Proofs.Ytfgcjgabknoamaa
set_option linter.unusedVariables false
set_option linter.unusedSimpArgs false
open Go.RowKit

section
variable {P : Program} {ops : Array Oper} {Q : Exit → Act → World → Prop} {md : Region.Mode} {S : World → Prop}

/-- from every world that meets S the operation leaves v in its slot, old memory as it is, and S -/
def Gives (P : Program) (ops : Array Oper) (S : World → Prop) (o : Oper) (v : Value) (a : Act) : Prop :=
  (Region.wanted o (yielded ops a.tmps) = true ∧ ∀ w, S w → (execOp a.eval o).run P w = .ok (.value v) w ∨ ∃ f args, (execOp a.eval o).run P w = .ok (.enter f args) w ∧ Calls P f args w fun e w' => e = .returned v ∧ Below w.heap.size w w' ∧ S w') ∨
  (Region.wanted o (yielded ops a.tmps) = false ∧ v = undef)
theorem Gives.same {o : Oper} {v : Value} {a a' : Act} (h : Gives P ops S o v a) (he : execOp a'.eval o = execOp a.eval o) (hw : Region.wanted o (yielded ops a'.tmps) = Region.wanted o (yielded ops a.tmps)) : Gives P ops S o v a' := by
  unfold Gives at *
  rw [he, hw]
  exact h
theorem Gives.step {i : Nat} {o : Oper} {v : Value} {a : Act} (hi : ops[i]? = some o) (h : Gives P ops S o v a) {K : Act → World → Prop} {w : World} (hS : S w) (hK : ∀ w', Below w.heap.size w w' → S w' → K (a.put o.dst v) w') : wpOp P ops Q i K a w := by
  unfold wpOp
  rw [hi]
  rcases h with ⟨hw, hv⟩ | ⟨hw, rfl⟩
  · simp only [hw, if_true]
    refine .inl ?_
    rcases hv w hS with hr | ⟨f, args, hr, hc⟩
    · unfold Oper.wp; rw [hr]; exact hK w (Below.refl _ _) hS
    · unfold Oper.wp; rw [hr]
      exact hc.mono fun e w' ⟨he, hb, hs⟩ => by subst he; exact hK w' hb hs
  · simp only [hw, Bool.false_eq_true, if_false]
    exact hK w (Below.refl _ _) hS
/-- two operations that have nothing to do with one another -/
theorem wpOp_past {j : Nat} {oi oj : Oper} {v : Value} (hj : ops[j]? = some oj) (hap : oi.apart ops oj = true) (hi : ∀ cs b, oi.op ≠ .select cs b) (hs : ∀ cs b, oj.op ≠ .select cs b) (hQ : ∀ c a w, Q (.panic c) (a.put oi.dst v) w → Q (.panic c) a w)
    {K : Act → World → Prop} {a : Act} {w : World} (hy : Gives P ops S oi v a) (h : wpOp P ops Q j K (a.put oi.dst v) w) : wpOp P ops Q j (fun a' w' => Gives P ops S oi v a' ∧ K (a'.put oi.dst v) w') a w := by
  obtain ⟨p1, p2, p3⟩ := Oper.apart_spec hap
  have stay : ∀ u, Gives P ops S oi v (a.put oj.dst u) := fun u => hy.same (execOp_put oi hi a oj.dst u p3) (wanted_put oi a oj.dst u p3)
  have fin : ∀ u w', K ((a.put oi.dst v).put oj.dst u) w' → Gives P ops S oi v (a.put oj.dst u) ∧ K ((a.put oj.dst u).put oi.dst v) w' := fun u w' hk => ⟨stay u, by rw [← Act.put_comm a v u p2]; exact hk⟩
  have hex := execOp_put oj hs a oi.dst v p1
  unfold wpOp at *
  rw [hj] at *
  simp only [wanted_put oj a oi.dst v p1] at h ⊢
  by_cases hw : Region.wanted oj (yielded ops a.tmps) = true
  · rw [if_pos hw] at h ⊢
    rcases h with h | ⟨h1, h2⟩
    · left
      unfold Oper.wp at *
      rw [hex] at h
      cases hr : (execOp a.eval oj).run P w with
      | ok n w' =>
        rw [hr] at h
        cases n with
        | value u => exact fin u w' h
        | skip => exact fin undef w' h
        | defer d =>
          have hd : Gives P ops S oi v (({ a with defers := d :: a.defers } : Act).put oj.dst undef) := (show Gives P ops S oi v { a with defers := d :: a.defers } from hy.same rfl rfl).same (execOp_put oi hi _ oj.dst undef p3) (wanted_put oi _ oj.dst undef p3)
          simp only [Oper.upon] at h ⊢
          refine ⟨hd, ?_⟩
          rw [← Act.put_comm _ v undef p2, ← Act.put_defers]
          exact h
        | enter f args =>
          refine Calls.mono h fun e w2 he => ?_
          cases e with
          | returned u => exact fin u w2 he
          | panicked c => exact hQ _ _ _ he
          | outgrown => exact he
        | row r args => exact Rows.mono h fun u w2 he => fin u w2 he
        | _ => exact h
      | halt x w' =>
        rw [hr] at h
        cases x with
        | panic u => exact hQ _ _ _ h
        | _ => exact h
    · right
      unfold Oper.asks at *
      rw [hex] at h1
      exact ⟨h1, h2⟩
  · rw [if_neg hw] at h ⊢
    exact fin undef w h

/-- whatever order is picked, from every later world -/
def wpAnyR (P : Program) (md : Region.Mode) (ops : Array Oper) (Q : Exit → Act → World → Prop) (S : World → Prop) : Nat → Array Bool → Act → World → Prop
  | 0, listed, a, w => ∀ w1, Below w.heap.size w w1 → S w1 → Region.ready md ops listed = [] ∧ Q .normal a w1
  | fuel + 1, listed, a, w => ∀ w1, Below w.heap.size w w1 → S w1 → (Region.ready md ops listed = [] → Q .normal a w1) ∧
    ∀ i ∈ Region.ready md ops listed, wpOp P ops Q i (fun a' w' => S w' ∧ wpAnyR P md ops Q S fuel (listed.setIfInBounds i true) a' w') a w1
theorem wpAnyR.later : ∀ {fuel : Nat} {listed : Array Bool} {a : Act} {w w' : World}, wpAnyR P md ops Q S fuel listed a w → Below w.heap.size w w' → wpAnyR P md ops Q S fuel listed a w'
  | 0, _, _, _, _, h, hb => fun w1 h1 hS => h w1 (below_then hb h1) hS
  | _ + 1, _, _, _, _, h, hb => fun w1 h1 hS => h w1 (below_then hb h1) hS
theorem any_of_R : ∀ (fuel : Nat) (listed : Array Bool) (a : Act) (w : World), S w → wpAnyR P md ops Q S fuel listed a w → wpAny P md ops Q fuel listed a w
  | 0, _, _, w, hS, h => h w (Below.refl _ _) hS
  | fuel + 1, _, _, w, hS, h => ⟨(h w (Below.refl _ _) hS).1, fun i hi => wpOp_mono (fun a' w' h' => any_of_R fuel _ a' w' h'.1 h'.2) ((h w (Below.refl _ _) hS).2 i hi)⟩
theorem wpAnyR_first {i : Nat} {oi : Oper} {v : Value} (hi : ops[i]? = some oi) (hsel : ∀ (j : Nat) (o : Oper) cs b, ops[j]? = some o → o.op ≠ .select cs b) (hQ : ∀ c a w, Q (.panic c) (a.put oi.dst v) w → Q (.panic c) a w) :
    ∀ (fuel : Nat) (listed : Array Bool) (a : Act) (w : World), (∀ j oj, ops[j]? = some oj → j ≠ i → listed.getD j true = false → (∀ e ∈ oj.after, Region.binds md e = true → e.on ≠ i) → oi.apart ops oj = true) →
      i ∈ Region.ready md ops listed → Gives P ops S oi v a → wpAnyR P md ops Q S fuel (listed.setIfInBounds i true) (a.put oi.dst v) w → wpAnyR P md ops Q S (fuel + 1) listed a w := by
  intro fuel
  induction fuel with
  | zero =>
    intro listed a w _ hr hy H w1 hb hS
    refine ⟨fun h => (by rw [h] at hr; cases hr), fun j hj => ?_⟩
    by_cases e : j = i
    · subst e; exact hy.step hi hS (fun w' hb' hS' => ⟨hS', H.later (below_then hb hb')⟩)
    · have h1 := ready_mono hj e
      rw [(H w1 hb hS).1] at h1
      cases h1
  | succ fuel ih =>
    intro listed a w hfree hr hy H w1 hb hS
    refine ⟨fun h => (by rw [h] at hr; cases hr), fun j hj => ?_⟩
    by_cases e : j = i
    · subst e; exact hy.step hi hS (fun w' hb' hS' => ⟨hS', H.later (below_then hb hb')⟩)
    · have h1 := (H w1 hb hS).2 j (ready_mono hj e)
      obtain ⟨hun, oj, hoj, hall⟩ := mem_ready.1 hj
      have hno : ∀ x ∈ oj.after, Region.binds md x = true → x.on ≠ i := fun x hx hbx heq => by
        have g1 := hall x hx hbx
        have g0 := (mem_ready.1 hr).1
        rw [heq] at g1
        rcases Nat.lt_or_ge i listed.size with h' | h'
        · simp [h'] at g0 g1; rw [g0] at g1; cases g1
        · simp [Array.getElem?_eq_none h'] at g1
      have h2 := wpOp_past hoj (hfree j oj hoj e hun hno) (fun cs b => hsel i oi cs b hi) (fun cs b => hsel j oj cs b hoj) hQ hy h1
      refine wpOp_mono (fun a' w' h3 => ⟨h3.2.1, ih (listed.setIfInBounds j true) a' w' (fun k ok hk hki hkun hkno => ?_) (ready_mono hr (Ne.symm e)) h3.1 ?_⟩) h2
      · refine hfree k ok hk hki ?_ hkno
        by_cases hjk : j = k
        · subst hjk; exact hun
        · rw [getD_set_ne true hjk] at hkun; exact hkun
      · rw [Array.setIfInBounds_comm _ _ e]; exact h3.2.2
/-- take number i first -/
theorem wpAnyR_take {i : Nat} {oi : Oper} {v : Value} {fuel : Nat} {listed : Array Bool} {a : Act} {w : World} (hi : ops[i]? = some oi) (hs : Region.noSelect ops = true) (hf : Region.free md ops listed i = true) (hr : (Region.ready md ops listed).contains i = true)
    (hQ : ∀ c a w, Q (.panic c) (a.put oi.dst v) w → Q (.panic c) a w) (hy : Gives P ops S oi v a) (h : wpAnyR P md ops Q S fuel (listed.setIfInBounds i true) (a.put oi.dst v) w) : wpAnyR P md ops Q S (fuel + 1) listed a w :=
  wpAnyR_first hi (Region.noSelect_spec hs) hQ fuel listed a w (Region.free_spec hi hf) (by simpa using hr) hy h
/-- what may come up next, each in turn -/
def AllR (P : Program) (md : Region.Mode) (ops : Array Oper) (Q : Exit → Act → World → Prop) (S : World → Prop) (fuel : Nat) (listed : Array Bool) (a : Act) (w : World) (rs : List Nat) : Prop :=
  ∀ i ∈ rs, wpOp P ops Q i (fun a' w' => S w' ∧ wpAnyR P md ops Q S fuel (listed.setIfInBounds i true) a' w') a w
theorem AllR.nil {fuel : Nat} {listed : Array Bool} {a : Act} {w : World} : AllR P md ops Q S fuel listed a w [] := fun _ h => by cases h
theorem AllR.cons {fuel : Nat} {listed : Array Bool} {a : Act} {w : World} {i : Nat} {o : Oper} {rs : List Nat} (ho : ops[i]? = some o)
    (h : ∀ K' : Act → World → Prop, Shut (∀ a w, S w → wpAnyR P md ops Q S fuel (listed.setIfInBounds i true) a w → K' a w) → if Region.wanted o (yielded ops a.tmps) = true then Oper.wp P o a w K' Q else K' (a.put o.dst undef) w)
    (hs : AllR P md ops Q S fuel listed a w rs) : AllR P md ops Q S fuel listed a w (i :: rs) := fun j hj => by
  rcases List.mem_cons.1 hj with rfl | hj
  · exact wpOp_step ho (fun K' hK => h K' (fun a w hS hW => hK a w ⟨hS, hW⟩))
  · exact hs j hj
theorem wpAnyR_ready {rs : List Nat} {fuel : Nat} {listed : Array Bool} {a : Act} {w : World} (hr : Region.ready md ops listed = rs) (hne : rs ≠ [])
    (h : ∀ w1, Below w.heap.size w w1 → S w1 → AllR P md ops Q S fuel listed a w1 rs) : wpAnyR P md ops Q S (fuel + 1) listed a w :=
  fun w1 hb hS => ⟨fun h0 => absurd (hr ▸ h0) hne, hr ▸ h w1 hb hS⟩
theorem wpAnyR_done {listed : Array Bool} {a : Act} {w : World} (hr : Region.ready md ops listed = []) (h : ∀ w1, Below w.heap.size w w1 → S w1 → Q .normal a w1) : ∀ fuel, wpAnyR P md ops Q S fuel listed a w
  | 0 => fun w1 hb hS => ⟨hr, h w1 hb hS⟩
  | _ + 1 => fun w1 hb hS => ⟨fun _ => h w1 hb hS, by rw [hr]; simp⟩
theorem wp_region_R {id : Nat} {a : Act} {w : World} (hm : P.follows .mixedOrders = true) (hS : S w.drew) (h : wpAnyR P .any ops Q S ops.size (Array.replicate ops.size false) a w.drew) : (Code.region id ops true).wp P Q a w :=
  wp_region_any hm (any_of_R _ _ _ _ hS h)
theorem op_alloc_named {o : Oper} {a : Act} {w : World} {K : Act → World → Prop} (T : TypeId) (ho : o.op = .alloc T) (Z : Array Value) (hz : ((P.info? T).bind (·.zero)).map Value.cells = some Z)
    (h : K (a.put o.dst (.pointer (some ⟨w.heap.size, 0, none⟩))) (w.alloc (.cells Z T))) : o.wp P a w K Q := by
  cases hq : P.info? T with
  | none => simp [hq] at hz
  | some i =>
    cases hq2 : i.zero with
    | none => simp [hq, hq2] at hz
    | some z =>
      simp [hq, hq2] at hz
      subst hz
      unfold Oper.wp execOp
      simp only [ho, Instr.alloc, zeroValue, typeInfo, newVar, newRow, Sem.run_bind, Sem.run_pure, run_program, Result.andThen_ok, run_newObj_alloc, hq, hq2]
      exact h
/-- a call by its contract -/
theorem give_call {o : Oper} {v : Value} {a : Act} (f : FuncId) (args : Array Value) (hw : Region.wanted o (yielded ops a.tmps) = true) (he : ∀ w, S w → (execOp a.eval o).run P w = .ok (.enter f args) w)
    (hc : ∀ w, S w → Calls P f args w fun e w' => e = .returned v ∧ Below w.heap.size w w') (hS : ∀ w w', S w → Below w.heap.size w w' → S w') : Gives P ops S o v a :=
  .inl ⟨hw, fun w h => .inr ⟨f, args, he w h, (hc w h).mono fun e w' ⟨h1, h2⟩ => ⟨h1, h2, hS w w' h h2⟩⟩⟩
theorem give_val {o : Oper} {v : Value} {a : Act} (hw : Region.wanted o (yielded ops a.tmps) = true) (he : ∀ w, S w → (execOp a.eval o).run P w = .ok (.value v) w) : Gives P ops S o v a :=
  .inl ⟨hw, fun w h => .inl (he w h)⟩
end
end Go.Proofs.Ytfgcjgabknoamaa
