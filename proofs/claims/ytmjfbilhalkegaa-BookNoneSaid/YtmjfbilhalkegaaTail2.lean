/- As the text on the end of a region that draws its order: here the last operation may wait for the others through several between. No condition. -/
import Derived.Test.YtmjfbilhalkegaaTail
namespace Go.Proofs.Ytmjfbilhalkegaa
set_option linter.unusedVariables false
set_option linter.unusedSimpArgs false
open Go.RowKit

/-- Does operation k wait for i, through at most f others? -/
def reachB (l : List Oper) : Nat → Nat → Nat → Bool
  | 0, k, i => k == i
  | f + 1, k, i => k == i || (match l[k]? with | some o => o.after.any (fun d => Region.binds .any d && reachB l f d.on i) | none => false)
def waitsDeep (l : List Oper) (n : Nat) (st : Oper) : Bool := (List.range n).all fun i => st.after.any fun e => Region.binds .any e && reachB l 8 e.on i

section
variable {P : Program} {C : World → Prop} {Q' : Exit → Act → World → Prop} {l : List Oper} {st : Oper}
theorem reach_listed {listed : Array Bool} (hcl : closedIn (l ++ [st]).toArray listed) : ∀ (f k i : Nat), listed.getD k false = true → reachB l f k i = true → listed.getD i false = true
  | 0, k, i, h, hr => by
    have : k = i := by simpa [reachB] using hr
    exact this ▸ h
  | f + 1, k, i, h, hr => by
    unfold reachB at hr
    rw [Bool.or_eq_true] at hr
    rcases hr with h2 | h2
    · have : k = i := by simpa using h2
      exact this ▸ h
    · cases hx : l[k]? with
      | none => rw [hx] at h2; cases h2
      | some x =>
        rw [hx] at h2
        obtain ⟨d, hdm, hdb⟩ := Array.any_eq_true'.1 h2
        rw [Bool.and_eq_true] at hdb
        have hlt : k < l.length := (List.getElem?_eq_some_iff.1 hx).1
        exact reach_listed hcl f d.on i (hcl k x h (by rw [get_head hlt]; exact hx) d hdm hdb.1) hdb.2

theorem any_of_tail2 (hgd : st.guard = none) (hwa : waitsDeep l l.length st = true) (hb : backB (l ++ [st]).toArray = true) :
    ∀ (f : Nat) (listed : Array Bool) (a : Act) (w : World), C w → listed.size = l.length + 1 → listed.getD l.length true = false →
      wpAnyQ P .any (l ++ [idle st]).toArray C (fun a' => ∀ w', C w' → st.wp P a' w' (fun a w => Q' .normal a w) Q') f listed a →
      st.dst = none → closedIn (l ++ [st]).toArray listed → wpAny P .any (l ++ [st]).toArray Q' f listed a w := by
  intro f
  induction f with
  | zero =>
    intro listed a w _ hsz hun h _ _
    exact absurd (by rw [ready_idle]; exact h.1) (some_ready hb (by simp [hsz]) l.length (by simp) hun)
  | succ f ih =>
    intro listed a w hC hsz hun h hd hcl
    refine ⟨fun h0 => absurd h0 (some_ready hb (by simp [hsz]) l.length (by simp) hun), fun i hi => ?_⟩
    have hq := h.2 i (by rw [← ready_idle]; exact hi)
    by_cases hin : i = l.length
    · subst hin
      -- all the others have come up
      obtain ⟨_, o, ho, hall⟩ := mem_ready.1 hi
      rw [get_last] at ho
      injection ho with ho
      subst ho
      have hlist : ∀ j, j < l.length → listed.getD j false = true := fun j hj => by
        have h1 := List.all_eq_true.1 hwa j (List.mem_range.2 hj)
        obtain ⟨e, he, hb'⟩ := Array.any_eq_true'.1 h1
        simp only [Bool.and_eq_true] at hb'
        exact reach_listed hcl 8 e.on j (hall e he hb'.1) hb'.2
      have hrn : Region.ready .any (l ++ [st]).toArray (listed.setIfInBounds l.length true) = [] := by
        rw [List.eq_nil_iff_forall_not_mem]
        intro k hk
        obtain ⟨hku, ok, hok, _⟩ := mem_ready.1 hk
        rcases Nat.lt_trichotomy k l.length with h' | h' | h'
        · rw [set_getD (by omega)] at hku
          have := hlist k h'
          have hks : k < listed.size := by omega
          simp only [Array.getD, hks, dif_pos] at hku this
          rw [hku] at this
          cases this
        · subst h'
          have : l.length < listed.size := by omega
          simp [Array.getD_eq_getD_getElem?, this] at hku
        · rw [get_none h'] at hok
          cases hok
      have hQT : ∀ w', C w' → st.wp P a w' (fun a w => Q' .normal a w) Q' := by
        unfold qOp at hq
        rw [get_last] at hq
        simp only [Region.wanted, idle, hgd, if_true] at hq
        obtain ⟨v, _, hq'⟩ := hq
        have hput : a.put none v = a := rfl
        dsimp only at hq'
        rw [hd, hput] at hq'
        rw [ready_idle] at hrn
        cases f with
        | zero => exact hq'.2
        | succ f =>
          have hid : idle st = { dst := none, op := Op.move (Operand.const undef), type := st.type, pos := st.pos, after := st.after, guard := none } := by
            unfold idle
            rw [hd, hgd]
          rw [hid] at hrn
          exact hq'.1 hrn
      unfold wpOp
      rw [get_last]
      simp only [Region.wanted, hgd, if_true]
      refine .inl (Oper.wp_mono (fun a' w' hn => ?_) (hQT w hC))
      cases f with
      | zero => exact ⟨hrn, hn⟩
      | succ f => exact ⟨fun _ => hn, fun j hj => by rw [hrn] at hj; cases hj⟩
    · have hil : i < l.length := by
        obtain ⟨_, o, ho, _⟩ := mem_ready.1 hi
        rcases Nat.lt_trichotomy i l.length with h' | h' | h'
        · exact h'
        · exact absurd h' hin
        · rw [get_none h'] at ho; cases ho
      have hq2 : qOp P (l ++ [st]).toArray C i (wpAnyQ P .any (l ++ [idle st]).toArray C (fun a' => ∀ w', C w' → st.wp P a' w' (fun a w => Q' .normal a w) Q') f (listed.setIfInBounds i true)) a := by
        unfold qOp at hq ⊢
        rw [get_head hil] at hq ⊢
        rw [yielded_idle]
        exact hq
      exact wpOp_of_qOp hC (fun a' w' hw' hh => ih _ a' w' hw' (by simp [hsz]) (by rw [set_getD hin]; exact hun) hh hd (by
        obtain ⟨_, o, ho, hall⟩ := mem_ready.1 hi
        exact closedIn_set hcl ho hall)) hq2

theorem wp_region_tail2 {id : Nat} {a : Act} {w : World} {L : List Oper} (n : Nat) (hL : L = L.take n ++ [L.getD n default]) (hn : (L.take n).length = n) (hm : P.follows .mixedOrders = true)
    (hB : Region.lexB .any (L.take n ++ [idle (L.getD n default)]).toArray = true) (hgd : (L.getD n default).guard = none) (hd : (L.getD n default).dst = none) (hwa : waitsDeep (L.take n) n (L.getD n default) = true) (hb : backB L.toArray = true)
    (h : WQ P (L.take n ++ [idle (L.getD n default)]).toArray (fun w' => Below w.heap.size w w') (fun a' => ∀ w', Below w.heap.size w w' → (L.getD n default).wp P a' w' (fun a w => Q' .normal a w) Q') (L.take n) a) : (Code.region id L.toArray true).wp P Q' a w := by
  generalize L.take n = l at *
  generalize L.getD n default = st at *
  subst hL
  subst hn
  refine wp_region_any hm ?_
  simp only [Region.lexB, Bool.and_eq_true] at hB
  have hq : wpQuiet P (l ++ [idle st]).toArray (fun w' => Below w.heap.size w w') (fun a' => ∀ w', Below w.heap.size w w' → st.wp P a' w' (fun a w => Q' .normal a w) Q') (l ++ [idle st]) a := by
    refine wpQuiet_snoc l a ?_
    have hstep : ∀ (l' : List Oper) (a' : Act), wpQuiet P (l ++ [idle st]).toArray (fun w' => Below w.heap.size w w') (fun a' => ∀ w', Below w.heap.size w w' → st.wp P a' w' (fun a w => Q' .normal a w) Q') l' a' →
        wpQuiet P (l ++ [idle st]).toArray (fun w' => Below w.heap.size w w') (wpQuiet P (l ++ [idle st]).toArray (fun w' => Below w.heap.size w w') (fun a' => ∀ w', Below w.heap.size w w' → st.wp P a' w' (fun a w => Q' .normal a w) Q') [idle st]) l' a' := by
      intro l'
      induction l' with
      | nil =>
        intro a' h'
        show (if Region.wanted (idle st) (yielded (l ++ [idle st]).toArray a'.tmps) = true then _ else _)
        have hw : Region.wanted (idle st) (yielded (l ++ [idle st]).toArray a'.tmps) = true := by simp [Region.wanted, idle, hgd]
        rw [if_pos hw]
        refine ⟨undef, fun w' _ => ⟨rfl, rfl⟩, ?_⟩
        show (∀ w', Below w.heap.size w w' → st.wp P (a'.put st.dst undef) w' (fun a w => Q' .normal a w) Q')
        rw [hd]
        exact h'
      | cons x l' ihl =>
        intro a' h'
        unfold wpQuiet at h' ⊢
        split
        · rename_i hw
          rw [if_pos hw] at h'
          obtain ⟨v, h1, h2⟩ := h'
          exact ⟨v, h1, ihl _ h2⟩
        · rename_i hw
          rw [if_neg hw] at h'
          exact ihl _ h'
    exact hstep l a h.out
  have hlex := wpAnyQ_lex (P := P) (C := fun w' => Below w.heap.size w w') (md := .any) hB.1 (l ++ [idle st]) 0 (Array.replicate (l ++ [idle st]).toArray.size false) a (by simp) (by simpa using hB.2) hq
  have hsz : (l ++ [st]).toArray.size = (l ++ [idle st]).length := by simp
  rw [hsz]
  refine any_of_tail2 (C := fun w' => Below w.heap.size w w') hgd hwa hb _ _ a _ (Below.drew (Below.refl _ _)) (by simp) ?_ (by simpa using hlex) hd (fun j o hj => by
    exfalso
    rw [Array.getD_eq_getD_getElem?, Array.getElem?_replicate] at hj
    split at hj <;> cases hj)
  simp [Array.getD_eq_getD_getElem?]
end
end Go.Proofs.Ytmjfbilhalkegaa
