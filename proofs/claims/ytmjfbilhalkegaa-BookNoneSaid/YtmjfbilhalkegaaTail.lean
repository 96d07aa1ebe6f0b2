/- A region that draws its order and ends in one operation that waits for all the others (a store): one walk in the text's order serves every order. No condition. -/
import Derived.Test.YtmjfbilhalkegaaQuiet
namespace Go.Proofs.Ytmjfbilhalkegaa
set_option linter.unusedVariables false
set_option linter.unusedSimpArgs false
open Go.RowKit

/-- The last operation, made idle. -/
def idle (st : Oper) : Oper := { st with op := .move (.const undef) }
/-- Does the last operation wait for each of the first n? -/
def waitsAll (l : List Oper) (n : Nat) (st : Oper) : Bool := (List.range n).all fun i => st.after.any fun e => Region.binds .any e && (e.on == i || (match l[e.on]? with | some o => o.after.any (fun d => Region.binds .any d && d.on == i) | none => false))
/-- Does every operation wait for earlier ones alone? -/
def backB (ops : Array Oper) : Bool := (List.range ops.size).all fun k => match ops[k]? with | some o => o.after.all fun e => decide (e.on < k) | none => true

section
variable {P : Program} {C : World → Prop} {Q' : Exit → Act → World → Prop} {l : List Oper} {st : Oper}

theorem get_head {i : Nat} (h : i < l.length) (x : Oper) : (l ++ [x]).toArray[i]? = l[i]? := by
  rw [List.getElem?_toArray, List.getElem?_append_left h]
theorem get_last (x : Oper) : (l ++ [x]).toArray[l.length]? = some x := by
  rw [List.getElem?_toArray, List.getElem?_append_right (Nat.le_refl _)]
  simp
theorem get_none {i : Nat} (h : l.length < i) (x : Oper) : (l ++ [x]).toArray[i]? = none := by
  rw [List.getElem?_toArray]
  simp
  omega

theorem get_cases (i : Nat) (x y : Oper) : (i < l.length ∧ (l ++ [x]).toArray[i]? = (l ++ [y]).toArray[i]?) ∨ (i = l.length) ∨ (l.length < i) := by
  rcases Nat.lt_trichotomy i l.length with h | h | h
  · exact .inl ⟨h, by rw [get_head h, get_head h]⟩
  · exact .inr (.inl h)
  · exact .inr (.inr h)

theorem yielded_idle (t : Array Value) : yielded (l ++ [st]).toArray t = yielded (l ++ [idle st]).toArray t := by
  funext j
  unfold yielded
  rcases get_cases (l := l) j st (idle st) with ⟨_, h⟩ | h | h
  · rw [h]
  · subst h; rw [get_last, get_last]; rfl
  · rw [get_none h, get_none h]

theorem ready_idle (listed : Array Bool) : Region.ready .any (l ++ [st]).toArray listed = Region.ready .any (l ++ [idle st]).toArray listed := by
  unfold Region.ready
  have hs : (l ++ [st]).toArray.size = (l ++ [idle st]).toArray.size := by simp
  rw [hs]
  congr 1
  funext i
  rcases get_cases (l := l) i st (idle st) with ⟨_, h⟩ | h | h
  · rw [h]
  · subst h; rw [get_last, get_last]; rfl
  · rw [get_none h, get_none h]

/-- While something is left, something may come up. -/
theorem some_ready {ops : Array Oper} (hb : backB ops = true) {listed : Array Bool} (hsz : listed.size = ops.size) : ∀ (i : Nat), i < ops.size → listed.getD i true = false → Region.ready .any ops listed ≠ [] := by
  intro i
  induction i using Nat.strongRecOn with
  | _ i ih =>
    intro hi hun hr
    by_cases hex : ∃ j, j < i ∧ listed.getD j true = false
    · obtain ⟨j, hj, hju⟩ := hex
      exact ih j hj (by omega) hju hr
    · have hmem : i ∈ Region.ready .any ops listed := by
        rw [mem_ready]
        refine ⟨hun, ops[i], Array.getElem?_eq_getElem hi, fun e he _ => ?_⟩
        have h1 := List.all_eq_true.1 hb i (List.mem_range.2 hi)
        rw [Array.getElem?_eq_getElem hi] at h1
        simp only at h1
        have h2 := Array.all_eq_true_iff_forall_mem.1 h1 e he
        have hlt : e.on < i := by simpa using h2
        have h3 : ¬ listed.getD e.on true = false := fun h => hex ⟨e.on, hlt, h⟩
        have hls : e.on < listed.size := by omega
        simp only [Array.getD, hls, dif_pos] at h3 ⊢
        simpa using h3
      rw [hr] at hmem
      cases hmem

theorem set_getD {listed : Array Bool} {i j : Nat} (h : i ≠ j) (d : Bool) : (listed.setIfInBounds i true).getD j d = listed.getD j d := by
  simp only [Array.getD_eq_getD_getElem?, Array.getElem?_setIfInBounds_ne h]

/-- What is listed has its own listed. -/
def closedIn (ops : Array Oper) (listed : Array Bool) : Prop := ∀ (j : Nat) (o : Oper), listed.getD j false = true → ops[j]? = some o → ∀ e ∈ o.after, Region.binds .any e = true → listed.getD e.on false = true
theorem closedIn_set {ops : Array Oper} {listed : Array Bool} {i : Nat} {o : Oper} (h : closedIn ops listed) (ho : ops[i]? = some o) (hall : ∀ e ∈ o.after, Region.binds .any e = true → listed.getD e.on false = true) : closedIn ops (listed.setIfInBounds i true) := by
  have hup : ∀ j, listed.getD j false = true → (listed.setIfInBounds i true).getD j false = true := fun j hj => by
    by_cases e : i = j
    · subst e
      have hlt : i < listed.size := by
        rcases Nat.lt_or_ge i listed.size with h' | h'
        · exact h'
        · simp [Array.getD_eq_getD_getElem?, Array.getElem?_eq_none h'] at hj
      simp [Array.getD_eq_getD_getElem?, hlt]
    · rw [set_getD e]; exact hj
  intro j x hj hx e he hb
  by_cases e1 : i = j
  · subst e1
    rw [ho] at hx
    injection hx with hx
    subst hx
    exact hup _ (hall e he hb)
  · rw [set_getD e1] at hj
    exact hup _ (h j x hj hx e he hb)

theorem any_of_tail (hgd : st.guard = none) (hwa : waitsAll l l.length st = true) (hb : backB (l ++ [st]).toArray = true) :
    ∀ (f : Nat) (listed : Array Bool) (a : Act) (w : World), C w → listed.size = l.length + 1 → listed.getD l.length true = false →
      wpAnyQ P .any (l ++ [idle st]).toArray C (fun a' => ∀ w', C w' → st.wp P a' w' (fun a w => Q' .normal a w) Q') f listed a →
      st.dst = none → closedIn (l ++ [st]).toArray listed → wpAny P .any (l ++ [st]).toArray Q' f listed a w := by
  intro f
  induction f with
  | zero =>
    intro listed a w _ hsz hun h _ _
    exact absurd (by rw [ready_idle]; exact h.1) (some_ready hb (by simp [hsz]) l.length (by simp) hun)
  | succ f ih =>
    intro listed a w hC hsz hun h hd hcl
    refine ⟨fun h0 => absurd h0 (some_ready hb (by simp [hsz]) l.length (by simp) hun), fun i hi => ?_⟩
    have hq := h.2 i (by rw [← ready_idle]; exact hi)
    by_cases hin : i = l.length
    · subst hin
      -- all the others have come up
      obtain ⟨_, o, ho, hall⟩ := mem_ready.1 hi
      rw [get_last] at ho
      injection ho with ho
      subst ho
      have hlist : ∀ j, j < l.length → listed.getD j false = true := fun j hj => by
        have h1 := List.all_eq_true.1 hwa j (List.mem_range.2 hj)
        obtain ⟨e, he, hb'⟩ := Array.any_eq_true'.1 h1
        simp only [Bool.and_eq_true, Bool.or_eq_true, beq_iff_eq] at hb'
        rcases hb'.2 with h2 | h2
        · rw [← h2]
          exact hall e he hb'.1
        · cases hx : l[e.on]? with
          | none => rw [hx] at h2; cases h2
          | some x =>
            rw [hx] at h2
            obtain ⟨d, hdm, hdb⟩ := Array.any_eq_true'.1 h2
            simp only [Bool.and_eq_true, beq_iff_eq] at hdb
            rw [← hdb.2]
            have hlt : e.on < l.length := (List.getElem?_eq_some_iff.1 hx).1
            exact hcl e.on x (hall e he hb'.1) (by rw [get_head hlt]; exact hx) d hdm hdb.1
      have hrn : Region.ready .any (l ++ [st]).toArray (listed.setIfInBounds l.length true) = [] := by
        rw [List.eq_nil_iff_forall_not_mem]
        intro k hk
        obtain ⟨hku, ok, hok, _⟩ := mem_ready.1 hk
        rcases Nat.lt_trichotomy k l.length with h' | h' | h'
        · rw [set_getD (by omega)] at hku
          have := hlist k h'
          have hks : k < listed.size := by omega
          simp only [Array.getD, hks, dif_pos] at hku this
          rw [hku] at this
          cases this
        · subst h'
          have : l.length < listed.size := by omega
          simp [Array.getD_eq_getD_getElem?, this] at hku
        · rw [get_none h'] at hok
          cases hok
      have hQT : ∀ w', C w' → st.wp P a w' (fun a w => Q' .normal a w) Q' := by
        unfold qOp at hq
        rw [get_last] at hq
        simp only [Region.wanted, idle, hgd, if_true] at hq
        obtain ⟨v, _, hq'⟩ := hq
        have hput : a.put none v = a := rfl
        dsimp only at hq'
        rw [hd, hput] at hq'
        rw [ready_idle] at hrn
        cases f with
        | zero => exact hq'.2
        | succ f =>
          have hid : idle st = { dst := none, op := Op.move (Operand.const undef), type := st.type, pos := st.pos, after := st.after, guard := none } := by
            unfold idle
            rw [hd, hgd]
          rw [hid] at hrn
          exact hq'.1 hrn
      unfold wpOp
      rw [get_last]
      simp only [Region.wanted, hgd, if_true]
      refine .inl (Oper.wp_mono (fun a' w' hn => ?_) (hQT w hC))
      cases f with
      | zero => exact ⟨hrn, hn⟩
      | succ f => exact ⟨fun _ => hn, fun j hj => by rw [hrn] at hj; cases hj⟩
    · have hil : i < l.length := by
        obtain ⟨_, o, ho, _⟩ := mem_ready.1 hi
        rcases Nat.lt_trichotomy i l.length with h' | h' | h'
        · exact h'
        · exact absurd h' hin
        · rw [get_none h'] at ho; cases ho
      have hq2 : qOp P (l ++ [st]).toArray C i (wpAnyQ P .any (l ++ [idle st]).toArray C (fun a' => ∀ w', C w' → st.wp P a' w' (fun a w => Q' .normal a w) Q') f (listed.setIfInBounds i true)) a := by
        unfold qOp at hq ⊢
        rw [get_head hil] at hq ⊢
        rw [yielded_idle]
        exact hq
      exact wpOp_of_qOp hC (fun a' w' hw' hh => ih _ a' w' hw' (by simp [hsz]) (by rw [set_getD hin]; exact hun) hh hd (by
        obtain ⟨_, o, ho, hall⟩ := mem_ready.1 hi
        exact closedIn_set hcl ho hall)) hq2

theorem wpQuiet_snoc {ops : Array Oper} {Q : Act → Prop} {o : Oper} : ∀ (l : List Oper) (a : Act), wpQuiet P ops C (wpQuiet P ops C Q [o]) l a → wpQuiet P ops C Q (l ++ [o]) a
  | [], _, h => h
  | x :: l, a, h => by
    show wpQuiet P ops C Q (x :: (l ++ [o])) a
    unfold wpQuiet at h ⊢
    split
    · rename_i hw
      rw [if_pos hw] at h
      obtain ⟨v, h1, h2⟩ := h
      exact ⟨v, h1, wpQuiet_snoc l _ h2⟩
    · rename_i hw
      rw [if_neg hw] at h
      exact wpQuiet_snoc l _ h

theorem wp_region_tail {id : Nat} {a : Act} {w : World} {L : List Oper} (n : Nat) (hL : L = L.take n ++ [L.getD n default]) (hn : (L.take n).length = n) (hm : P.follows .mixedOrders = true)
    (hB : Region.lexB .any (L.take n ++ [idle (L.getD n default)]).toArray = true) (hgd : (L.getD n default).guard = none) (hd : (L.getD n default).dst = none) (hwa : waitsAll (L.take n) n (L.getD n default) = true) (hb : backB L.toArray = true)
    (h : WQ P (L.take n ++ [idle (L.getD n default)]).toArray (fun w' => Below w.heap.size w w') (fun a' => ∀ w', Below w.heap.size w w' → (L.getD n default).wp P a' w' (fun a w => Q' .normal a w) Q') (L.take n) a) : (Code.region id L.toArray true).wp P Q' a w := by
  generalize L.take n = l at *
  generalize L.getD n default = st at *
  subst hL
  subst hn
  refine wp_region_any hm ?_
  simp only [Region.lexB, Bool.and_eq_true] at hB
  have hq : wpQuiet P (l ++ [idle st]).toArray (fun w' => Below w.heap.size w w') (fun a' => ∀ w', Below w.heap.size w w' → st.wp P a' w' (fun a w => Q' .normal a w) Q') (l ++ [idle st]) a := by
    refine wpQuiet_snoc l a ?_
    have hstep : ∀ (l' : List Oper) (a' : Act), wpQuiet P (l ++ [idle st]).toArray (fun w' => Below w.heap.size w w') (fun a' => ∀ w', Below w.heap.size w w' → st.wp P a' w' (fun a w => Q' .normal a w) Q') l' a' →
        wpQuiet P (l ++ [idle st]).toArray (fun w' => Below w.heap.size w w') (wpQuiet P (l ++ [idle st]).toArray (fun w' => Below w.heap.size w w') (fun a' => ∀ w', Below w.heap.size w w' → st.wp P a' w' (fun a w => Q' .normal a w) Q') [idle st]) l' a' := by
      intro l'
      induction l' with
      | nil =>
        intro a' h'
        show (if Region.wanted (idle st) (yielded (l ++ [idle st]).toArray a'.tmps) = true then _ else _)
        have hw : Region.wanted (idle st) (yielded (l ++ [idle st]).toArray a'.tmps) = true := by simp [Region.wanted, idle, hgd]
        rw [if_pos hw]
        refine ⟨undef, fun w' _ => ⟨rfl, rfl⟩, ?_⟩
        show (∀ w', Below w.heap.size w w' → st.wp P (a'.put st.dst undef) w' (fun a w => Q' .normal a w) Q')
        rw [hd]
        exact h'
      | cons x l' ihl =>
        intro a' h'
        unfold wpQuiet at h' ⊢
        split
        · rename_i hw
          rw [if_pos hw] at h'
          obtain ⟨v, h1, h2⟩ := h'
          exact ⟨v, h1, ihl _ h2⟩
        · rename_i hw
          rw [if_neg hw] at h'
          exact ihl _ h'
    exact hstep l a h.out
  have hlex := wpAnyQ_lex (P := P) (C := fun w' => Below w.heap.size w w') (md := .any) hB.1 (l ++ [idle st]) 0 (Array.replicate (l ++ [idle st]).toArray.size false) a (by simp) (by simpa using hB.2) hq
  have hsz : (l ++ [st]).toArray.size = (l ++ [idle st]).length := by simp
  rw [hsz]
  refine any_of_tail (C := fun w' => Below w.heap.size w w') hgd hwa hb _ _ a _ (Below.drew (Below.refl _ _)) (by simp) ?_ (by simpa using hlex) hd (fun j o hj => by
    exfalso
    rw [Array.getD_eq_getD_getElem?, Array.getElem?_replicate] at hj
    split at hj <;> cases hj)
  simp [Array.getD_eq_getD_getElem?]
end
end Go.Proofs.Ytmjfbilhalkegaa
