/- Each call of a calendar answers as the document's does. Condition: the calendars are alike. -/
import Derived.Test.YtobokknfpjjdeaaRf05
import Derived.Test.YtobokknfpjjdeaaCalS
import Derived.Test.YtobokknfpjjdeaaCalE
namespace Go.Proofs.Ytobokknfpjjdeaa
set_option linter.unusedVariables false
set_option linter.unusedSimpArgs false
open Go.RowKit

def CK (g base k : Nat) (day : Int) (L : Nat → Array Value) (w w' : World) : Prop := CalIs w' g base k day L ∧ Below base w w' ∧ Kq g w w'
def RK (g base k : Nat) (day : Int) (L : Nat → Array Value) (v : Value) (w w' : World) : Prop := ∃ v', RIs w' g base k day L v' ∧ Below base w w' ∧ Kr g v w w' ∧ (v'.ownBlock = v.ownBlock ∨ ∀ b, v'.ownBlock = some b → w.heap.size ≤ b)
theorem kq_kv {g : Nat} {A B : World} (h : Kv g A B) : Kq g A B := fun v d hv => by
  obtain ⟨h1, d', h2⟩ := h v d hv
  exact ⟨h1, d', v, h2, .inl rfl⟩
theorem ck_same {w w' : World} {g base k : Nat} {day : Int} {L : Nat → Array Value} (h : CalIs w g base k day L) (hb : Below w.heap.size w w') : CK g base k day L w w' := by
  obtain ⟨v, hg, _⟩ := h.row
  exact ⟨h.kept hb, hb.mono (by have := h.bg; have := (Array.getElem?_eq_some_iff.1 hg).1; omega), kq_kv (kv_below hb)⟩
theorem rk_kept {w w' : World} {g base k : Nat} {day : Int} {L : Nat → Array Value} {v : Value} (h : RKept g base k day L v w w') : RK g base k day L v w w' := ⟨v, h.1, h.2.1, h.2.2, .inl rfl⟩
theorem rk_same {w w' : World} {g base k : Nat} {day : Int} {L : Nat → Array Value} {v : Value} (h : RIs w g base k day L v) (hb : Below w.heap.size w w') : RK g base k day L v w w' := rk_kept (RKept.same h hb)
theorem rk_eq {w w' : World} {g base k : Nat} {day : Int} {L : Nat → Array Value} {v : Value} (h : RIs w g base k day L v) (hb : w = w') : RK g base k day L v w w' := by subst hb; exact rk_same h (Below.refl _ _)
/-- the program's F and the document's G answer alike, and leave the calendars alike -/
def Both (k : Nat) (day : Int) (L : Nat → Array Value) (F G : FuncId) (args : Value → Array Value) : Prop :=
  ∃ (r : Int) (k' : Nat) (day' : Int) (L' : Nat → Array Value),
    (∀ w g base, CalIs w g base k day L → Calls Try.prog F (args (.pointer (some ⟨g, 0, none⟩))) w fun e w' => e = .returned (.int .i64 r) ∧ CK g base k' day' L' w w') ∧
    (∀ w g base v, RIs w g base k day L v → Calls Try.prog G (args (.pointer (some ⟨g, 0, none⟩))) w fun e w' => e = .returned (.int .i64 r) ∧ RK g base k' day' L' v w w')
theorem thereL (L : Nat → Array Value) (k : Nat) (n : Int) : (∀ i, i < k → N (L i) 0 ≠ n) ∨ ∃ i, i < k ∧ N (L i) 0 = n := by
  by_cases h : ∀ i, i < k → N (L i) 0 ≠ n
  · exact .inl h
  · refine .inr (Classical.byContradiction fun hn => h fun i hi e => hn ⟨i, hi, e⟩)
theorem both_next (k : Nat) (day : Int) (L : Nat → Array Value) : Both k day L 30 37 (fun p => #[p]) := by
  by_cases hd : day = 4294967295
  · refine ⟨6, k, day, L, fun w g base h => (cnext_any h).mono fun e w' h1 => ?_, fun w g base v h => (rnext_any h).mono fun e w' h1 => ?_⟩
    · rcases h1 with ⟨_, h1, h2⟩ | ⟨h0, _⟩
      · exact ⟨h1, ck_same h h2⟩
      · exact absurd hd h0
    · rcases h1 with ⟨_, h1, h2⟩ | ⟨h0, _⟩
      · exact ⟨h1, rk_eq h h2⟩
      · exact absurd hd h0
  · refine ⟨0, k, day + 1, L, fun w g base h => (cnext_any h).mono fun e w' h1 => ?_, fun w g base v h => (rnext_any h).mono fun e w' h1 => ?_⟩
    · rcases h1 with ⟨h0, _⟩ | ⟨_, h1, h2, h3, h4⟩
      · exact absurd h0 hd
      · exact ⟨h1, h2, h3, kq_kv h4⟩
    · rcases h1 with ⟨h0, _⟩ | ⟨_, h1, h2⟩
      · exact absurd h0 hd
      · exact ⟨h1, rk_kept h2⟩
theorem both_halt (k : Nat) (day : Int) (L : Nat → Array Value) (n : Int) (on : Bool) : Both k day L 29 39 (fun p => #[p, .int .u32 n, .bool on]) := by
  rcases thereL L k n with hn | ⟨i, hi, hn⟩
  · exact ⟨7, k, day, L, fun w g base h => (chalt_out on h hn).mono fun e w' ⟨h1, h2⟩ => ⟨h1, ck_same h h2⟩, fun w g base v h => (rhalt_out on h hn).mono fun e w' ⟨h1, h2⟩ => ⟨h1, rk_eq h h2⟩⟩
  · by_cases hs : N (L i) 25 = 3
    · exact ⟨50, k, day, L, fun w g base h => (chalt_gone on h hi hn hs).mono fun e w' ⟨h1, h2⟩ => ⟨h1, ck_same h h2⟩, fun w g base v h => (rhalt_gone on h hi hn hs).mono fun e w' ⟨h1, h2⟩ => ⟨h1, rk_eq h h2⟩⟩
    · exact ⟨0, k, day, _, fun w g base h => (chalt_set on h hi hn hs).mono fun e w' ⟨h1, h2, h3, h4⟩ => ⟨h1, h2, h3, kq_kv h4⟩, fun w g base v h => (rhalt_set on h hi hn hs).mono fun e w' ⟨h1, h2⟩ => ⟨h1, rk_kept h2⟩⟩
theorem both_pub (k : Nat) (day : Int) (L : Nat → Array Value) (n x : Int) (hx : F64 x) : Both k day L 28 40 (fun p => #[p, .int .u32 n, .int .i64 x]) := by
  rcases thereL L k n with hn | ⟨i, hi, hn⟩
  · exact ⟨7, k, day, L, fun w g base h => (cpub_out x h hn).mono fun e w' ⟨h1, h2⟩ => ⟨h1, ck_same h h2⟩, fun w g base v h => (rpub_out x h hn).mono fun e w' ⟨h1, h2⟩ => ⟨h1, rk_eq h h2⟩⟩
  · by_cases hs : N (L i) 25 = 3
    · exact ⟨50, k, day, L, fun w g base h => (cpub_gone x h hi hn hs).mono fun e w' ⟨h1, h2⟩ => ⟨h1, ck_same h h2⟩, fun w g base v h => (rpub_gone x h hi hn hs).mono fun e w' ⟨h1, h2⟩ => ⟨h1, rk_eq h h2⟩⟩
    · cases hp : ipB ((L i).extract 0 25) x
      · exact ⟨52, k, day, L, fun w g base h => (cpub_bad x h hi hn hs hx hp).mono fun e w' ⟨h1, h2⟩ => ⟨h1, ck_same h h2⟩, fun w g base v h => (rpub_bad x h hi hn hs hx hp).mono fun e w' ⟨h1, h2⟩ => ⟨h1, rk_same h h2⟩⟩
      · exact ⟨0, k, day, _, fun w g base h => (cpub_set x h hi hn hs hx hp).mono fun e w' ⟨h1, h2, h3, h4⟩ => ⟨h1, h2, h3, kq_kv h4⟩, fun w g base v h => (rpub_set x h hi hn hs hx hp).mono fun e w' ⟨h1, h2⟩ => ⟨h1, rk_kept h2⟩⟩
theorem both_due (k : Nat) (day : Int) (L : Nat → Array Value) (n : Int) : Both k day L 35 41 (fun p => #[p, .int .u32 n]) := by
  rcases thereL L k n with hn | ⟨i, hi, hn⟩
  · exact ⟨7, k, day, L, fun w g base h => (cdue_out h hn).mono fun e w' ⟨h1, h2⟩ => ⟨h1, ck_same h h2⟩, fun w g base v h => (rdue_out h hn).mono fun e w' ⟨h1, h2⟩ => ⟨h1, rk_eq h h2⟩⟩
  · by_cases hs : N (L i) 25 = 3
    · exact ⟨50, k, day, L, fun w g base h => (cdue_gone h hi hn hs).mono fun e w' ⟨h1, h2⟩ => ⟨h1, ck_same h h2⟩, fun w g base v h => (rdue_gone h hi hn hs).mono fun e w' ⟨h1, h2⟩ => ⟨h1, rk_eq h h2⟩⟩
    · by_cases hp : N (L i) 23 ≤ day ∧ FirstDue L k i
      · refine ⟨0, k, day, L, fun w g base h => (cdue_any h hi hn hs).mono fun e w' h1 => ?_, fun w g base v h => (rdue_any h hi hn hs).mono fun e w' h1 => ?_⟩
        · rcases h1 with ⟨⟨_, h0⟩ | ⟨h1, _⟩, h2⟩
          · exact absurd hp h0
          · exact ⟨h1, ck_same h h2⟩
        · rcases h1 with ⟨⟨_, h0⟩ | ⟨h1, _⟩, h2⟩
          · exact absurd hp h0
          · exact ⟨h1, rk_same h h2⟩
      · refine ⟨51, k, day, L, fun w g base h => (cdue_any h hi hn hs).mono fun e w' h1 => ?_, fun w g base v h => (rdue_any h hi hn hs).mono fun e w' h1 => ?_⟩
        · rcases h1 with ⟨⟨h1, _⟩ | ⟨_, h0⟩, h2⟩
          · exact ⟨h1, ck_same h h2⟩
          · exact absurd h0 hp
        · rcases h1 with ⟨⟨h1, _⟩ | ⟨_, h0⟩, h2⟩
          · exact ⟨h1, rk_same h h2⟩
          · exact absurd h0 hp
theorem both_exp (k : Nat) (day : Int) (L : Nat → Array Value) (n : Int) : Both k day L 27 42 (fun p => #[p, .int .u32 n]) := by
  rcases thereL L k n with hn | ⟨i, hi, hn⟩
  · exact ⟨7, k, day, L, fun w g base h => (cexp_out h hn).mono fun e w' ⟨h1, h2⟩ => ⟨h1, ck_same h h2⟩, fun w g base v h => (rexp_out h hn).mono fun e w' ⟨h1, h2⟩ => ⟨h1, rk_eq h h2⟩⟩
  · by_cases hs : N (L i) 25 = 3
    · exact ⟨50, k, day, L, fun w g base h => (cexp_gone h hi hn hs).mono fun e w' ⟨h1, h2⟩ => ⟨h1, ck_same h h2⟩, fun w g base v h => (rexp_gone h hi hn hs).mono fun e w' ⟨h1, h2⟩ => ⟨h1, rk_eq h h2⟩⟩
    · by_cases hp : N (L i) 23 ≤ day ∧ FirstDue L k i
      · refine ⟨0, k, day, stt L i 3, fun w g base h => (cexp_in h hi hn hs).mono fun e w' h1 => ?_, fun w g base v h => (rexp_in h hi hn hs).mono fun e w' h1 => ?_⟩
        · rcases h1 with ⟨_, h0, _⟩ | ⟨h1, _, _, h2, h3, h4⟩
          · exact absurd hp h0
          · exact ⟨h1, h2, h3, kq_kv h4⟩
        · rcases h1 with ⟨_, h0, _⟩ | ⟨h1, _, _, h2⟩
          · exact absurd hp h0
          · exact ⟨h1, rk_kept h2⟩
      · refine ⟨51, k, day, L, fun w g base h => (cexp_in h hi hn hs).mono fun e w' h1 => ?_, fun w g base v h => (rexp_in h hi hn hs).mono fun e w' h1 => ?_⟩
        · rcases h1 with ⟨h1, _, h2⟩ | ⟨_, h0, h00, _⟩
          · exact ⟨h1, ck_same h h2⟩
          · exact absurd ⟨h0, h00⟩ hp
        · rcases h1 with ⟨h1, _, h2⟩ | ⟨_, h0, h00, _⟩
          · exact ⟨h1, rk_same h h2⟩
          · exact absurd ⟨h0, h00⟩ hp
theorem both_list (k : Nat) (day : Int) (L : Nat → Array Value) (A : Array Value) (hA : IsSpec A) (hs : ∀ i j, i < j → j < k → N (L i) 0 < N (L j) 0) : Both k day L 25 38 (fun p => #[p, .agg A]) := by
  cases hm : mayB A
  · exact ⟨2, k, day, L, fun w g base h => (clist_bad h hA hm).mono fun e w' ⟨h1, h2⟩ => ⟨h1, ck_same h h2⟩, fun w g base v h => (rlist_bad h hA hm).mono fun e w' ⟨h1, h2⟩ => ⟨h1, rk_same h h2⟩⟩
  · rcases thereL L k (N A 0) with hn | ⟨i, hi, hn⟩
    · obtain ⟨pi, hat⟩ := at_ex hs (N A 0)
      by_cases hd : N A 23 < day
      · exact ⟨51, k, day, L, fun w g base h => (clist_late h hA hm hat hn hd).mono fun e w' ⟨h1, h2⟩ => ⟨h1, ck_same h h2⟩, fun w g base v h => (rlist_late h hA hm hn hd).mono fun e w' ⟨h1, h2⟩ => ⟨h1, rk_same h h2⟩⟩
      · by_cases hk : k < 16
        · exact ⟨0, k + 1, day, ins L pi (conA A (N A 24)), fun w g base h => (clist_ok h hA hm hat hn (by omega) hk).mono fun e w' ⟨h1, h2, h3, h4⟩ => ⟨h1, h2, h3, h4⟩, fun w g base v h => (rlist_ok h hA hm hat hn (by omega) hk).mono fun e w' ⟨h1, v', h2, h3, h4, h5⟩ => ⟨h1, v', h2, h3, h4, .inr h5⟩⟩
        · exact ⟨9, k, day, L, fun w g base h => (clist_full h hA hm hat hn (by omega) (by omega)).mono fun e w' ⟨h1, h2⟩ => ⟨h1, ck_same h h2⟩, fun w g base v h => (rlist_full h hA hm hn (by omega) (by omega)).mono fun e w' ⟨h1, h2⟩ => ⟨h1, rk_same h h2⟩⟩
    · exact ⟨8, k, day, L, fun w g base h => (clist_twice h hA hm hi hn).mono fun e w' ⟨h1, h2⟩ => ⟨h1, ck_same h h2⟩, fun w g base v h => (rlist_twice h hA hm hi hn).mono fun e w' ⟨h1, h2⟩ => ⟨h1, rk_same h h2⟩⟩
/-- the program's calendar and the document's, apart from each other -/
structure Pair (w0 w : World) (g gw k : Nat) (day : Int) (L : Nat → Array Value) (v : Value) : Prop where
  c : CalIs w g w0.heap.size k day L
  d : RIs w gw w0.heap.size k day L v
  be : Below w0.heap.size w0 w
  ap : ∀ vc e, w.heap[g]? = some (.cells #[.bool true, .int .u32 e, vc] 93 (0, 0)) → ∀ b, vc.ownBlock = some b → v.ownBlock ≠ some b
theorem Pair.kept {w0 w w' : World} {g gw k : Nat} {day : Int} {L : Nat → Array Value} {v : Value} (h : Pair w0 w g gw k day L v) (hb : Below w.heap.size w w') : Pair w0 w' g gw k day L v :=
  ⟨h.c.kept hb, h.d.kept hb, h.be.trans (hb.mono h.be.size), fun vc e hv => by
    obtain ⟨v1, h1, _⟩ := h.c.row
    have h2 := Ytobokknfpjjdeaa.kept hb h1
    rw [h2] at hv
    simp at hv
    obtain ⟨e1, e2⟩ := hv
    subst e1 e2
    exact h.ap _ _ h1⟩
/-- the program goes a step ahead -/
structure Mid (w0 w : World) (g gw k k' : Nat) (day day' : Int) (L L' : Nat → Array Value) (v : Value) : Prop where
  c : CalIs w g w0.heap.size k' day' L'
  d : RIs w gw w0.heap.size k day L v
  be : Below w0.heap.size w0 w
  ap : ∀ vc e, w.heap[g]? = some (.cells #[.bool true, .int .u32 e, vc] 93 (0, 0)) → ∀ b, vc.ownBlock = some b → v.ownBlock ≠ some b
theorem Mid.kept {w0 w w' : World} {g gw k k' : Nat} {day day' : Int} {L L' : Nat → Array Value} {v : Value} (h : Mid w0 w g gw k k' day day' L L' v) (hb : Below w.heap.size w w') : Mid w0 w' g gw k k' day day' L L' v :=
  ⟨h.c.kept hb, h.d.kept hb, h.be.trans (hb.mono h.be.size), fun vc e hv => by
    obtain ⟨v1, h1, _⟩ := h.c.row
    have h2 := Ytobokknfpjjdeaa.kept hb h1
    rw [h2] at hv
    simp at hv
    obtain ⟨e1, e2⟩ := hv
    subst e1 e2
    exact h.ap _ _ h1⟩
/-- a block that is neither calendar's stays at the program's step -/
theorem Pair.step {w0 w w' : World} {g gw k k' : Nat} {day day' : Int} {L L' : Nat → Array Value} {v : Value} (h : Pair w0 w g gw k day L v) (hk : CK g w0.heap.size k' day' L' w w') :
    Mid w0 w' g gw k k' day day' L L' v ∧ ∀ (i : Nat) (A : Array Value) (t : TypeId) (fr : Nat × Nat), w.heap[i]? = some (Obj.cells A t fr) → t ≠ 93 → t ≠ 65 → w'.heap[i]? = some (Obj.cells A t fr) := by
  obtain ⟨c1, c2, c3⟩ := hk
  obtain ⟨vc, hg, hrow⟩ := h.c.row
  obtain ⟨q1, d', vc', hg', q2⟩ := c3 vc day hg
  have hst : ∀ (i : Nat) (A : Array Value) (t : TypeId) (fr : Nat × Nat), w.heap[i]? = some (Obj.cells A t fr) → t ≠ 93 → t ≠ 65 → w'.heap[i]? = some (Obj.cells A t fr) := fun i A t fr hi h1 h2 => by
    refine (q1 i (fun e => ?_) (fun e => ?_) (Array.getElem?_eq_some_iff.1 hi).1).trans hi
    · subst e; rw [hg] at hi; injection hi with hi; injection hi with _ hi; exact h1 hi.symm
    · obtain ⟨A9, f9, h9⟩ := own_tag hrow i e.symm
      rw [h9] at hi; injection hi with hi; injection hi with _ hi; exact h2 hi.symm
  have hdw := hst gw _ _ _ h.d.row (by decide) (by decide)
  refine ⟨⟨c1, ⟨hdw, ?_, h.d.bg, h.d.con, h.d.srt, h.d.hk, h.d.hd⟩, h.be.trans c2, fun v1 e hv b hb => ?_⟩, hst⟩
  · obtain ⟨a1, a2 | ⟨gx, cap, cur, p1, p2, p3, p4⟩⟩ := h.d.own
    · exact ⟨a1, .inl a2⟩
    · refine ⟨a1, .inr ⟨gx, cap, cur, p1, p2, ?_, p4⟩⟩
      refine (q1 gx (fun e => ?_) (fun e => ?_) (Array.getElem?_eq_some_iff.1 p3).1).trans p3
      · subst e; rw [hg] at p3; injection p3 with p3; injection p3 with _ p3; exact absurd p3 (by decide)
      · exact h.ap vc day hg gx e.symm (by rw [p1]; rfl)
  · rw [hg'] at hv
    simp at hv
    obtain ⟨e1, e2⟩ := hv
    subst e1 e2
    rcases q2 with q2 | ⟨b2, q2, q3⟩
    · exact h.ap vc day hg b (q2.symm.trans hb)
    · rw [hb] at q2
      cases q2
      intro hv
      have := (h.d.own.lt b hv).2
      omega
/-- the document goes the same step -/
theorem Mid.step {w0 w w' : World} {g gw k k' : Nat} {day day' : Int} {L L' : Nat → Array Value} {v : Value} (h : Mid w0 w g gw k k' day day' L L' v) (hk : RK gw w0.heap.size k' day' L' v w w') :
    ∃ v', Pair w0 w' g gw k' day' L' v' ∧ ∀ (i : Nat) (A : Array Value) (t : TypeId) (fr : Nat × Nat), w.heap[i]? = some (Obj.cells A t fr) → t ≠ 89 → t ≠ 65 → w'.heap[i]? = some (Obj.cells A t fr) := by
  obtain ⟨v', r1, r2, r3, r4⟩ := hk
  obtain ⟨vc, hg, hrow⟩ := h.c.row
  have hst : ∀ (i : Nat) (A : Array Value) (t : TypeId) (fr : Nat × Nat), w.heap[i]? = some (Obj.cells A t fr) → t ≠ 89 → t ≠ 65 → w'.heap[i]? = some (Obj.cells A t fr) := fun i A t fr hi h1 h2 => by
    refine (r3 i (fun e => ?_) (fun e => ?_) (Array.getElem?_eq_some_iff.1 hi).1).trans hi
    · subst e; rw [h.d.row] at hi; injection hi with hi; injection hi with _ hi; exact h1 hi.symm
    · obtain ⟨A9, f9, h9⟩ := own_tag h.d.own i e.symm
      rw [h9] at hi; injection hi with hi; injection hi with _ hi; exact h2 hi.symm
  have hgw := hst g _ _ _ hg (by decide) (by decide)
  refine ⟨v', ⟨⟨⟨vc, hgw, ?_⟩, h.c.con, h.c.srt, h.c.bg, h.c.hk, h.c.hd⟩, r1, h.be.trans r2, fun v1 e hv b hb hb2 => ?_⟩, hst⟩
  · obtain ⟨a1, a2 | ⟨gx, cap, cur, p1, p2, p3, p4⟩⟩ := hrow
    · exact ⟨a1, .inl a2⟩
    · refine ⟨a1, .inr ⟨gx, cap, cur, p1, p2, ?_, p4⟩⟩
      refine (r3 gx (fun e => ?_) (fun e => ?_) (Array.getElem?_eq_some_iff.1 p3).1).trans p3
      · subst e; rw [h.d.row] at p3; injection p3 with p3; injection p3 with _ p3; exact absurd p3 (by decide)
      · exact h.ap vc day' hg gx (by rw [p1]; rfl) e.symm
  · rw [hgw] at hv
    simp at hv
    obtain ⟨e1, e2⟩ := hv
    subst e1 e2
    rcases r4 with r4 | r4
    · exact h.ap vc _ hg b hb (r4.symm.trans hb2)
    · have h1 := r4 b hb2
      have h2 := (hrow.lt b hb).2
      omega
end Go.Proofs.Ytobokknfpjjdeaa
