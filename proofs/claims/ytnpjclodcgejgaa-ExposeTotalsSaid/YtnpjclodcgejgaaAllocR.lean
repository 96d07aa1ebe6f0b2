/- A region that draws its order, makes one variable at whatever moment, and ends in a store that waits for all: one walk serves every order. No condition. -/
import Derived.Test.YtnpjclodcgejgaaTail2
namespace Go.Proofs.Ytnpjclodcgejgaa
set_option linter.unusedVariables false
set_option linter.unusedSimpArgs false
open Go.RowKit

/-! two contracts of one call name one value -/
theorem runs_end_le {P : Program} {m m1 m2 : Machine} {n d : Nat} {v1 v2 : Value} {w1 w2 : World} (h1 : runN P n m = .next m1) (e1 : step P m1 = .ended (.done v1) w1) (h2 : runN P (n + d) m = .next m2) (e2 : step P m2 = .ended (.done v2) w2) : v1 = v2 := by
  rw [runN_add, h1] at h2
  simp only at h2
  cases d with
  | zero =>
    have : m1 = m2 := by simpa [runN] using h2
    subst this
    rw [e1] at e2
    injection e2 with e2
    injection e2
  | succ d => simp [runN, e1] at h2
theorem calls_det {P : Program} {f : FuncId} {args : Array Value} {w : World} {v1 v2 : Value} {A B : World → Prop} (hi : P.inits.idxOf? f = none)
    (h1 : Calls P f args w fun e w' => e = .returned v1 ∧ A w') (h2 : Calls P f args w fun e w' => e = .returned v2 ∧ B w') : v1 = v2 := by
  obtain ⟨e1, w1, fr1, ⟨rfl, _⟩, c1, hf1, l1⟩ := h1 []
  obtain ⟨e2, w2, fr2, ⟨rfl, _⟩, c2, hf2, l2⟩ := h2 []
  obtain ⟨n1, hn1⟩ := (show Steps P _ _ from c1)
  obtain ⟨n2, hn2⟩ := (show Steps P _ _ from c2)
  have s1 := step_leave_done l1 (by rw [hf1]; exact hi)
  have s2 := step_leave_done l2 (by rw [hf2]; exact hi)
  rcases Nat.le_total n1 n2 with h | h
  · obtain ⟨d, rfl⟩ := Nat.exists_eq_add_of_le h
    exact runs_end_le hn1 s1 hn2 s2
  · obtain ⟨d, rfl⟩ := Nat.exists_eq_add_of_le h
    exact (runs_end_le hn2 s2 hn1 s1).symm

def Stable (C : World → Prop) : Prop := ∀ w w', C w → Below w.heap.size w w' → C w'
def NoInit (P : Program) (o : Oper) : Prop := ∀ (a : Act) (w : World) f args w', (execOp a.eval o).run P w = .ok (.enter f args) w' → P.inits.idxOf? f = none

theorem quiet_same {P : Program} {o : Oper} {a : Act} {C C' : World → Prop} {v v' : Value} {x : World} (hni : NoInit P o) (h : o.quietAt P a C x v) (h' : o.quietAt P a C' x v') : v = v' := by
  unfold Oper.quietAt at h h'
  cases hr : (execOp a.eval o).run P x with
  | ok n w' =>
    rw [hr] at h h'
    cases n <;> simp only [Oper.quietUpon] at h h'
    case value u => rw [← h.2, ← h'.2]
    case skip => rw [h.2, h'.2]
    case enter f args => exact calls_det (hni a x f args w' hr) h.2 h'.2
  | halt y w' => rw [hr] at h; simp only [Oper.quietUpon] at h

theorem q_call_st {P : Program} {ops : Array Oper} {C : World → Prop} {Q : Act → Prop} {o : Oper} {rest : List Oper} {a : Act} (hs : Stable C) (v : Value) (f : FuncId) (args : Array Value) (hw : Region.wanted o (yielded ops a.tmps) = true)
    (hc : ∀ w, Calls P f args w fun e w'' => e = .returned v ∧ Below w.heap.size w w'') (he : ∀ w, C w → (execOp a.eval o).run P w = .ok (.enter f args) w) (h : WQ P ops C Q rest (a.put o.dst v)) : WQ P ops C Q (o :: rest) a :=
  q_call v f args hw he (fun w hw => (hc w).mono fun _ _ ⟨h1, h2⟩ => ⟨h1, hs _ _ hw h2⟩) h
theorem v_not {P : Program} {s : Sem Value} {w w' : World} {f : FuncId} {args : Array Value} (h : ((do pure (Next.value (← s))) : Sem Next).run P w = .ok (.enter f args) w') : False := by
  rw [Sem.run_bind] at h
  cases hx : s.run P w with
  | ok x w1 => rw [hx] at h; simp at h
  | halt y w1 => rw [hx] at h; simp [Result.andThen] at h
theorem ni_load {P : Program} {d : Option Tmp} {t : TypeId} {x : Operand} {ty : TypeId} {pos : String} {af : Array Edge} {gd : Option (Nat × Bool)} : NoInit P ⟨d, .load t x, ty, pos, af, gd⟩ := fun a w f args w' h => (v_not (s := Instr.loadAt t (a.eval x)) h).elim
theorem ni_field {P : Program} {d : Option Tmp} {t : TypeId} {x : Operand} {i : Nat} {ty : TypeId} {pos : String} {af : Array Edge} {gd : Option (Nat × Bool)} : NoInit P ⟨d, .fieldAddr t x i, ty, pos, af, gd⟩ := fun a w f args w' h => (v_not (s := Instr.fieldAt t (a.eval x) i) h).elim

/-! regions alike but for what an operation does -/
def Alike (L1 L2 : List Oper) : Prop := L1.map (·.after) = L2.map (·.after) ∧ L1.map (·.dst) = L2.map (·.dst)
theorem Alike.at_ {L1 L2 : List Oper} (h : Alike L1 L2) (i : Nat) : (L1.toArray[i]?).map (·.after) = (L2.toArray[i]?).map (·.after) ∧ (L1.toArray[i]?).bind (·.dst) = (L2.toArray[i]?).bind (·.dst) := by
  have h1 := congrArg (·[i]?) h.1
  have h2 := congrArg (·[i]?) h.2
  simp only [List.getElem?_map] at h1 h2
  refine ⟨by simpa using h1, ?_⟩
  rw [List.getElem?_toArray, List.getElem?_toArray]
  cases e1 : L1[i]? <;> cases e2 : L2[i]? <;> simp_all
theorem ready_alike {L1 L2 : List Oper} (h : Alike L1 L2) (listed : Array Bool) : Region.ready .any L1.toArray listed = Region.ready .any L2.toArray listed := by
  unfold Region.ready
  have hs : L1.toArray.size = L2.toArray.size := by
    have := congrArg List.length h.1
    simpa using this
  rw [hs]
  congr 1
  funext i
  have h1 := (h.at_ i).1
  cases e1 : L1.toArray[i]? <;> cases e2 : L2.toArray[i]? <;> simp_all
theorem yielded_alike {L1 L2 : List Oper} (h : Alike L1 L2) (t : Array Value) : yielded L1.toArray t = yielded L2.toArray t := by
  funext j
  unfold yielded
  rw [(h.at_ j).2]

section
variable {P : Program} {l : List Oper} {al st : Oper}
def setg (g : Nat) (al : Oper) : Oper := { al with op := .move (.const (.pointer (some ⟨g, 0, none⟩))) }

theorem g_low {x y : Oper} {i : Nat} (h : i < l.length) : (l ++ [x] ++ [y]).toArray[i]? = l[i]? := by
  rw [List.getElem?_toArray, List.append_assoc, List.getElem?_append_left h]
theorem g_mid {x y : Oper} : (l ++ [x] ++ [y]).toArray[l.length]? = some x := by
  rw [List.getElem?_toArray, List.append_assoc, List.getElem?_append_right (Nat.le_refl _)]
  simp
theorem g_top {x y : Oper} : (l ++ [x] ++ [y]).toArray[l.length + 1]? = some y := by
  rw [List.getElem?_toArray, List.append_assoc, List.getElem?_append_right (by omega)]
  simp
theorem g_off {x y : Oper} {i : Nat} (h : l.length + 1 < i) : (l ++ [x] ++ [y]).toArray[i]? = none := by
  rw [List.getElem?_toArray]
  simp
  omega
theorem alike_set (g : Nat) (y y' : Oper) (h1 : y.after = y'.after) (h2 : y.dst = y'.dst) : Alike (l ++ [al] ++ [y]) (l ++ [setg g al] ++ [y']) := by
  constructor <;> simp [setg, h1, h2]

/-- Once it is drawn it does not matter what the variable's operation does. -/
theorem anyQ_swap {C : World → Prop} {Q : Act → Prop} {g : Nat} {y : Oper} : ∀ (f : Nat) (listed : Array Bool) (a : Act), listed.getD l.length false = true →
    wpAnyQ P .any (l ++ [setg g al] ++ [y]).toArray C Q f listed a → wpAnyQ P .any (l ++ [al] ++ [y]).toArray C Q f listed a := by
  intro f
  induction f with
  | zero =>
    intro listed a _ h
    exact ⟨by rw [ready_alike (alike_set g y y rfl rfl)]; exact h.1, h.2⟩
  | succ f ih =>
    intro listed a hl h
    refine ⟨fun h0 => h.1 (by rw [← ready_alike (alike_set g y y rfl rfl)]; exact h0), fun i hi => ?_⟩
    have hq := h.2 i (by rw [← ready_alike (alike_set g y y rfl rfl)]; exact hi)
    have hne : i ≠ l.length := fun e => by
      subst e
      have h1 := (mem_ready.1 hi).1
      have hls : l.length < listed.size := by
        rcases Nat.lt_or_ge l.length listed.size with h' | h'
        · exact h'
        · simp [Array.getD_eq_getD_getElem?, Array.getElem?_eq_none h'] at hl
      simp only [Array.getD, hls, dif_pos] at h1 hl
      rw [hl] at h1
      cases h1
    have hsame : (l ++ [al] ++ [y]).toArray[i]? = (l ++ [setg g al] ++ [y]).toArray[i]? := by
      rcases Nat.lt_trichotomy i l.length with h' | h' | h'
      · rw [g_low h', g_low h']
      · exact absurd h' hne
      · by_cases e : i = l.length + 1
        · subst e; rw [g_top, g_top]
        · rw [g_off (by omega), g_off (by omega)]
    unfold qOp at hq ⊢
    rw [hsame, yielded_alike (alike_set g y y rfl rfl)]
    exact qOp_mono (P := P) (ops := (l ++ [setg g al] ++ [y]).toArray) (i := i) (C := C) (fun a' h' => ih _ a' (getD_set_true hl) h') hq

theorem any_of_alloc {Q' : Exit → Act → World → Prop} {W : World} {T : TypeId} {Z : Array Value} {d : Tmp} (hal : al.op = .alloc T) (hald : al.dst = some d) (halg : al.guard = none)
    (hz : ((P.info? T).bind (·.zero)).map Value.cells = some Z) (hgd : st.guard = none) (hd : st.dst = none) (hwa : waitsDeep (l ++ [al]) (l ++ [al]).length st = true) (hb : backB (l ++ [al] ++ [st]).toArray = true)
    (hni : ∀ o ∈ l, NoInit P o) :
    ∀ (f : Nat) (listed : Array Bool) (a : Act) (w : World), Below W.heap.size W w → listed.size = l.length + 2 → listed.getD l.length true = false → listed.getD (l.length + 1) true = false →
      (∀ (g : Nat) (C : World → Prop), Stable C → (∀ x, C x → Below W.heap.size W x) → (∃ x, C x) →
        wpAnyQ P .any (l ++ [setg g al] ++ [idle st]).toArray C (fun a' => (W.heap.size ≤ g ∧ ∀ x, C x → x.heap[g]? = some (.cells Z T (0, 0))) → ∀ w', C w' → st.wp P a' w' (fun a w => Q' .normal a w) Q') f listed a) →
      closedIn (l ++ [al] ++ [st]).toArray listed → wpAny P .any (l ++ [al] ++ [st]).toArray Q' f listed a w := by
  have hAl : ∀ g, Alike (l ++ [al] ++ [st]) (l ++ [setg g al] ++ [idle st]) := fun g => alike_set g st (idle st) rfl rfl
  intro f
  induction f with
  | zero =>
    intro listed a w hW hsz hun hun2 h _
    exact absurd (by rw [ready_alike (hAl 0)]; exact (h 0 _ (fun w w' h h' => below_then h h') (fun x h => h) ⟨w, hW⟩).1) (some_ready hb (by simp [hsz]) l.length (by simp) hun)
  | succ f ih =>
    intro listed a w hW hsz hun hun2 h hcl
    have hC0 := h 0 (fun x => Below W.heap.size W x) (fun w w' h h' => below_then h h') (fun x h => h) ⟨w, hW⟩
    refine ⟨fun h0 => absurd h0 (some_ready hb (by simp [hsz]) l.length (by simp) hun), fun i hi => ?_⟩
    have hir : ∀ g, i ∈ Region.ready .any (l ++ [setg g al] ++ [idle st]).toArray listed := fun g => by rw [← ready_alike (hAl g)]; exact hi
    obtain ⟨_, o, ho, hall⟩ := mem_ready.1 hi
    rcases Nat.lt_trichotomy i l.length with hlt | heq | hgt
    · -- one of the others
      have hne1 : i ≠ l.length := by omega
      have hne2 : i ≠ l.length + 1 := by omega
      have hol : l[i]? = some o := by rw [← g_low (x := al) (y := st) hlt]; exact ho
      have hmem : o ∈ l := List.mem_of_getElem? hol
      have hqs : ∀ g C, qOp P (l ++ [setg g al] ++ [idle st]).toArray C i = fun K a => if Region.wanted o (yielded (l ++ [al] ++ [st]).toArray a.tmps) then o.quiet P a C K else K (a.put o.dst undef) := fun g C => by
        funext K a
        unfold qOp
        rw [g_low hlt, hol, yielded_alike (hAl g)]
      have hall' := closedIn_set hcl ho hall
      unfold wpOp
      rw [ho]
      simp only
      by_cases hw : Region.wanted o (yielded (l ++ [al] ++ [st]).toArray a.tmps) = true
      · rw [if_pos hw]
        -- the value, in the least class that holds this world
        have hst : Stable (fun x => Below w.heap.size w x) := fun w1 w2 h1 h2 => below_then h1 h2
        have hsub : ∀ x, Below w.heap.size w x → Below W.heap.size W x := fun x hx => below_then hW hx
        have hq0 := (h 0 _ hst hsub ⟨w, Below.refl _ _⟩).2 i (hir 0)
        rw [hqs] at hq0
        simp only [if_pos hw] at hq0
        obtain ⟨v, hv, _⟩ := hq0
        have hone := hC0.2 i (hir 0)
        rw [hqs] at hone
        simp only [if_pos hw] at hone
        obtain ⟨v0, hv0, _⟩ := hone
        have e0 : v0 = v := quiet_same (hni o hmem) (hv0 w hW) (hv w (Below.refl _ _))
        refine .inl (Oper.wp_of_quiet (C := fun x => Below w.heap.size w x) (K := fun a' => a' = a.put o.dst v) (Below.refl _ _) (fun a' w' hw' ha' => ?_) ⟨v, hv, rfl⟩)
        subst ha'
        refine ih _ _ w' (below_then hW hw') (by simp [hsz]) (by rw [set_getD hne1]; exact hun) (by rw [set_getD hne2]; exact hun2) (fun g C hs hc hx => ?_) hall'
        have hq := (h g C hs hc hx).2 i (hir g)
        rw [hqs] at hq
        simp only [if_pos hw] at hq
        obtain ⟨v', hv', hn'⟩ := hq
        obtain ⟨x, hxC⟩ := hx
        have e1 : v' = v := (quiet_same (hni o hmem) (hv' x hxC) (hv0 x (hc x hxC))).trans e0
        rw [e1] at hn'
        exact hn'
      · rw [if_neg hw]
        refine ih _ _ w hW (by simp [hsz]) (by rw [set_getD hne1]; exact hun) (by rw [set_getD hne2]; exact hun2) (fun g C hs hc hx => ?_) hall'
        have hq := (h g C hs hc hx).2 i (hir g)
        rw [hqs] at hq
        simp only [if_neg hw] at hq
        exact hq
    · -- the variable is made
      subst heq
      rw [g_mid] at ho
      injection ho with ho
      subst ho
      have hW2 : Below W.heap.size W (w.alloc (.cells Z T)) := below_alloc hW _
      have hCs : Stable (fun x : World => Below W.heap.size W x ∧ x.heap[w.heap.size]? = some (.cells Z T (0, 0))) := fun w1 w2 h1 h2 => ⟨below_then h1.1 h2, kept h2 h1.2⟩
      have hq := (h w.heap.size _ hCs (fun x hx => hx.1) ⟨_, hW2, heap_alloc_new _ _⟩).2 l.length (hir _)
      unfold qOp at hq
      rw [g_mid] at hq
      simp only at hq
      rw [if_pos (show Region.wanted (setg w.heap.size al) (yielded (l ++ [setg w.heap.size al] ++ [idle st]).toArray a.tmps) = true by simp [Region.wanted, setg, halg])] at hq
      obtain ⟨v, hv, hn⟩ := hq
      have hvv : v = .pointer (some ⟨w.heap.size, 0, none⟩) := by
        have := hv _ ⟨hW2, heap_alloc_new _ _⟩
        unfold Oper.quietAt execOp at this
        simp only [setg, Oper.quietUpon, Sem.run_pure] at this
        exact this.2.symm
      subst hvv
      unfold wpOp
      rw [g_mid]
      simp only [Region.wanted, halg, if_true]
      refine .inl ?_
      have hnext : wpAny P .any (l ++ [al] ++ [st]).toArray Q' f (listed.setIfInBounds l.length true) (a.put al.dst (.pointer (some ⟨w.heap.size, 0, none⟩))) (w.alloc (.cells Z T)) := by
        have hl1 : (listed.setIfInBounds l.length true).getD l.length false = true := by
          have : l.length < listed.size := by omega
          simp [Array.getD_eq_getD_getElem?, this]
        refine any_of_tail2 (C := fun x : World => Below W.heap.size W x ∧ x.heap[w.heap.size]? = some (.cells Z T (0, 0))) hgd hwa hb f _ _ _ ⟨hW2, heap_alloc_new _ _⟩ (by simp [hsz]) (by simp; simpa [Array.getD_eq_getD_getElem?] using hun2) ?_ hd (closedIn_set hcl (o := al) g_mid hall)
        refine anyQ_swap (g := w.heap.size) f _ _ hl1 ?_
        have hmono : ∀ (f : Nat) (li : Array Bool) (a : Act) {ops : Array Oper} {C : World → Prop} {Q1 Q2 : Act → Prop}, (∀ a, Q1 a → Q2 a) → wpAnyQ P .any ops C Q1 f li a → wpAnyQ P .any ops C Q2 f li a := by
          intro f
          induction f with
          | zero => intro li a ops C Q1 Q2 hQ h; exact ⟨h.1, hQ _ h.2⟩
          | succ f ihf => intro li a ops C Q1 Q2 hQ h; exact ⟨fun h0 => hQ _ (h.1 h0), fun i hi => qOp_mono (fun a' h' => ihf _ a' hQ h') (h.2 i hi)⟩
        exact hmono f _ _ (Q1 := fun a' => (W.heap.size ≤ w.heap.size ∧ ∀ x : World, Below W.heap.size W x ∧ x.heap[w.heap.size]? = some (.cells Z T (0, 0)) → x.heap[w.heap.size]? = some (.cells Z T (0, 0))) → ∀ w', (Below W.heap.size W w' ∧ w'.heap[w.heap.size]? = some (.cells Z T (0, 0))) → st.wp P a' w' (fun a w => Q' .normal a w) Q')
          (Q2 := fun a' => ∀ w', (Below W.heap.size W w' ∧ w'.heap[w.heap.size]? = some (.cells Z T (0, 0))) → st.wp P a' w' (fun a w => Q' .normal a w) Q') (fun a' h' => h' ⟨hW.size, fun x hx => hx.2⟩) hn
      unfold Oper.wp execOp
      cases hi : P.info? T with
      | none => simp [hi] at hz
      | some it =>
        cases hq2 : it.zero with
        | none => simp [hi, hq2] at hz
        | some z =>
          simp [hi, hq2] at hz
          subst hz
          simp only [hal, Instr.alloc, zeroValue, typeInfo, newVar, newRow, Sem.run_bind, Sem.run_pure, run_program, Result.andThen_ok, run_newObj_alloc, hi, hq2]
          exact hnext
    · -- the store waits for the variable
      exfalso
      by_cases e : i = l.length + 1
      · subst e
        rw [g_top] at ho
        injection ho with ho
        subst ho
        have h1 := List.all_eq_true.1 hwa l.length (List.mem_range.2 (by simp))
        obtain ⟨ed, he, hb'⟩ := Array.any_eq_true'.1 h1
        simp only [Bool.and_eq_true] at hb'
        have h2 := reach_listed hcl 8 ed.on l.length (hall ed he hb'.1) hb'.2
        have hls : l.length < listed.size := by omega
        simp only [Array.getD, hls, dif_pos] at h2 hun
        rw [h2] at hun
        cases hun
      · rw [g_off (by omega)] at ho
        cases ho

theorem wp_region_alloc {Q' : Exit → Act → World → Prop} {id : Nat} {a : Act} {w : World} {L : List Oper} (n : Nat) (T : TypeId) (Z : Array Value) (d : Tmp) (hL : L = L.take n ++ [L.getD n default] ++ [L.getD (n + 1) default]) (hn : (L.take n).length = n) (hm : P.follows .mixedOrders = true)
    (hal : (L.getD n default).op = .alloc T) (hald : (L.getD n default).dst = some d) (halg : (L.getD n default).guard = none) (hz : ((P.info? T).bind (·.zero)).map Value.cells = some Z)
    (hB : ∀ g, Region.lexB .any (L.take n ++ [setg g (L.getD n default)] ++ [idle (L.getD (n + 1) default)]).toArray = true) (hgd : (L.getD (n + 1) default).guard = none) (hd : (L.getD (n + 1) default).dst = none)
    (hwa : waitsDeep (L.take n ++ [L.getD n default]) (n + 1) (L.getD (n + 1) default) = true) (hb : backB L.toArray = true) (hni : ∀ o ∈ L.take n, NoInit P o)
    (h : ∀ (g : Nat) (C : World → Prop), Stable C → (∀ x, C x → Below w.heap.size w x) → WQ P (L.take n ++ [setg g (L.getD n default)] ++ [idle (L.getD (n + 1) default)]).toArray C
      (fun a' => (w.heap.size ≤ g ∧ ∀ x, C x → x.heap[g]? = some (.cells Z T (0, 0))) → ∀ w', C w' → (L.getD (n + 1) default).wp P a' w' (fun a w => Q' .normal a w) Q') (L.take n ++ [setg g (L.getD n default)]) a) : (Code.region id L.toArray true).wp P Q' a w := by
  generalize L.take n = l at *
  generalize L.getD n default = al at *
  generalize L.getD (n + 1) default = st at *
  subst hL
  subst hn
  refine wp_region_any hm ?_
  have hq : ∀ (g : Nat) (C : World → Prop), Stable C → (∀ x, C x → Below w.heap.size w x) → wpQuiet P (l ++ [setg g al] ++ [idle st]).toArray C (fun a' => (w.heap.size ≤ g ∧ ∀ x, C x → x.heap[g]? = some (.cells Z T (0, 0))) → ∀ w', C w' → st.wp P a' w' (fun a w => Q' .normal a w) Q') (l ++ [setg g al] ++ [idle st]) a := fun g C hs hc => by
    refine wpQuiet_snoc (l ++ [setg g al]) a ?_
    have hstep : ∀ (l' : List Oper) (a' : Act), wpQuiet P (l ++ [setg g al] ++ [idle st]).toArray C (fun a' => (w.heap.size ≤ g ∧ ∀ x, C x → x.heap[g]? = some (.cells Z T (0, 0))) → ∀ w', C w' → st.wp P a' w' (fun a w => Q' .normal a w) Q') l' a' →
        wpQuiet P (l ++ [setg g al] ++ [idle st]).toArray C (wpQuiet P (l ++ [setg g al] ++ [idle st]).toArray C (fun a' => (w.heap.size ≤ g ∧ ∀ x, C x → x.heap[g]? = some (.cells Z T (0, 0))) → ∀ w', C w' → st.wp P a' w' (fun a w => Q' .normal a w) Q') [idle st]) l' a' := by
      intro l'
      induction l' with
      | nil =>
        intro a' h'
        show (if Region.wanted (idle st) (yielded (l ++ [setg g al] ++ [idle st]).toArray a'.tmps) = true then _ else _)
        have hw : Region.wanted (idle st) (yielded (l ++ [setg g al] ++ [idle st]).toArray a'.tmps) = true := by simp [Region.wanted, idle, hgd]
        rw [if_pos hw]
        refine ⟨undef, fun w' _ => ⟨rfl, rfl⟩, ?_⟩
        have hput : a'.put st.dst undef = a' := by rw [hd]; rfl
        show ((w.heap.size ≤ g ∧ ∀ x, C x → x.heap[g]? = some (.cells Z T (0, 0))) → ∀ w', C w' → st.wp P (a'.put st.dst undef) w' (fun a w => Q' .normal a w) Q')
        rw [hput]
        exact h'
      | cons x l' ihl =>
        intro a' h'
        unfold wpQuiet at h' ⊢
        split
        · rename_i hw
          rw [if_pos hw] at h'
          obtain ⟨v, h1, h2⟩ := h'
          exact ⟨v, h1, ihl _ h2⟩
        · rename_i hw
          rw [if_neg hw] at h'
          exact ihl _ h'
    exact hstep _ a (h g C hs hc).out
  have hsz : (l ++ [al] ++ [st]).toArray.size = l.length + 2 := by simp
  rw [hsz]
  refine any_of_alloc (W := w) hal hald halg hz hgd hd (by simpa using hwa) hb hni _ _ a _ (Below.drew (Below.refl _ _)) (by simp) (by simp [Array.getD_eq_getD_getElem?]) (by simp [Array.getD_eq_getD_getElem?]) (fun g C hs hc _ => ?_) (fun j o hj => by
    exfalso
    rw [Array.getD_eq_getD_getElem?, Array.getElem?_replicate] at hj
    split at hj <;> cases hj)
  have hBg := hB g
  simp only [Region.lexB, Bool.and_eq_true] at hBg
  have hlex := wpAnyQ_lex (P := P) (C := C) (md := .any) hBg.1 (l ++ [setg g al] ++ [idle st]) 0 (Array.replicate (l ++ [setg g al] ++ [idle st]).toArray.size false) a (by simp) (by simpa using hBg.2) (hq g C hs hc)
  simpa using hlex
end
end Go.Proofs.Ytnpjclodcgejgaa
