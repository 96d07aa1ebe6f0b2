/- CalendarPlays, walked: it returns true. Condition: the numbers fit their kinds. -/
import Derived.Test.YtobokknfpjjdeaaQl05
import Derived.Test.YtobokknfpjjdeaaOp05
import Derived.Test.YtobokknfpjjdeaaSame05
import Derived.Test.YtobokknfpjjdeaaConIn05
import Derived.Test.YtobokknfpjjdeaaHr
namespace Go.Proofs.Ytobokknfpjjdeaa
set_option linter.unusedVariables false
set_option linter.unusedSimpArgs false
open Go.RowKit

def zop0 : Array Value := #[.int .i64 0, .int .u32 0, .int .u8 0, .int .i64 0, .int .i64 0, .int .i64 0, .int .i64 0, .int .i64 0, .int .i64 0, .int .i64 0, .int .i64 0, .int .i64 0, .int .i64 0, .int .i64 0, .int .i64 0, .int .i64 0, .int .i64 0, .int .i64 0, .int .i64 0, .int .i64 0, .int .i64 0, .int .i64 0, .int .i64 0, .int .i64 0, .int .u32 0, .int .i64 0, .int .u32 0, .bool false, .int .i64 0]
theorem zop0_29 : zop0.size = 29 := rfl
theorem Pair.same {w0 w : World} {g gw k : Nat} {day : Int} {L : Nat → Array Value} {v : Value} (h : Pair w0 w g gw k day L v) :
    Calls Try.prog 33 #[.pointer (some ⟨g, 0, none⟩), .pointer (some ⟨gw, 0, none⟩)] w fun e w' => e = .returned (.bool true) ∧ Below w.heap.size w w' :=
  same05_yes h.c (h.d.ref.cal h.d.con)
/-- what lies in the round's own block -/
def Opb (bo : Nat) (A : Array Value) (w : World) : Prop := w.heap[bo]? = some (.cells A 85 (0, 0))
theorem Opb.kept {bo : Nat} {A : Array Value} {w w' : World} (h : Opb bo A w) (hb : Below w.heap.size w w') : Opb bo A w' := Ytobokknfpjjdeaa.kept hb h
theorem Pair.go {w0 w w' : World} {g gw k k' bo : Nat} {day day' : Int} {L L' : Nat → Array Value} {v : Value} {A : Array Value} (h : Pair w0 w g gw k day L v) (ho : Opb bo A w) (hk : CK g w0.heap.size k' day' L' w w') :
    Mid w0 w' g gw k k' day day' L L' v ∧ Opb bo A w' := by
  obtain ⟨h1, h2⟩ := h.step hk
  exact ⟨h1, h2 _ _ _ _ ho (by decide) (by decide)⟩
theorem Mid.go {w0 w w' : World} {g gw k k' bo : Nat} {day day' : Int} {L L' : Nat → Array Value} {v : Value} {A : Array Value} (h : Mid w0 w g gw k k' day day' L L' v) (ho : Opb bo A w) (hk : RK gw w0.heap.size k' day' L' v w w') :
    ∃ v', Pair w0 w' g gw k' day' L' v' ∧ Opb bo A w' := by
  obtain ⟨v', h1, h2⟩ := h.step hk
  exact ⟨v', h1, h2 _ _ _ _ ho (by decide) (by decide)⟩
/-- the rows of two of the program's calendars lie apart -/
def Ap2 (w : World) (g g2 : Nat) : Prop := ∀ vc e v2 e2, w.heap[g]? = some (.cells #[.bool true, .int .u32 e, vc] 93 (0, 0)) → w.heap[g2]? = some (.cells #[.bool true, .int .u32 e2, v2] 93 (0, 0)) → ∀ b, vc.ownBlock = some b → v2.ownBlock ≠ some b
theorem ck_other {w w' : World} {g g2 b0 b2 k k' k2 : Nat} {day day' day2 : Int} {L L' L2 : Nat → Array Value} (hk : CK g b0 k' day' L' w w') (hc : CalIs w g b0 k day L) (h2 : CalIs w g2 b2 k2 day2 L2) (hne : g ≠ g2) (ap : Ap2 w g g2) : CalIs w' g2 b2 k2 day2 L2 ∧ Ap2 w' g g2 := by
  obtain ⟨c1, c2, c3⟩ := hk
  obtain ⟨vc, hg, hrow⟩ := hc.row
  obtain ⟨v2, hg2, hrow2⟩ := h2.row
  obtain ⟨q1, d', vc', hg', q2⟩ := c3 vc day hg
  have hgl : w.heap.size ≤ w'.heap.size ∨ True := .inr trivial
  have hg2' : w'.heap[g2]? = some (.cells #[.bool true, .int .u32 day2, v2] 93 (0, 0)) := by
    refine (q1 g2 (fun e => hne e.symm) (fun e => ?_) (Array.getElem?_eq_some_iff.1 hg2).1).trans hg2
    obtain ⟨A9, f9, h9⟩ := own_tag hrow g2 e.symm
    rw [h9] at hg2; injection hg2 with hg2; injection hg2 with _ hg2; exact absurd hg2 (by decide)
  refine ⟨⟨⟨v2, hg2', ?_⟩, h2.con, h2.srt, h2.bg, h2.hk, h2.hd⟩, fun v1 e1 v3 e3 hv hv3 b hb hb3 => ?_⟩
  · obtain ⟨a1, a2 | ⟨gx, cap, cur, p1, p2, p3, p4⟩⟩ := hrow2
    · exact ⟨a1, .inl a2⟩
    · refine ⟨a1, .inr ⟨gx, cap, cur, p1, p2, ?_, p4⟩⟩
      refine (q1 gx (fun e => ?_) (fun e => ?_) (Array.getElem?_eq_some_iff.1 p3).1).trans p3
      · subst e; rw [hg] at p3; injection p3 with p3; injection p3 with _ p3; exact absurd p3 (by decide)
      · exact ap vc day v2 day2 hg hg2 gx e.symm (by rw [p1]; rfl)
  · rw [hg'] at hv
    simp at hv
    obtain ⟨z1, z2⟩ := hv
    rw [hg2'] at hv3
    simp at hv3
    obtain ⟨z3, z4⟩ := hv3
    subst z1 z2 z3 z4
    rcases q2 with q2 | ⟨b2, q2, q3⟩
    · exact ap vc day v2 day2 hg hg2 b (q2.symm.trans hb) hb3
    · rw [hb] at q2
      cases q2
      have := (hrow2.lt b hb3).2
      omega
theorem ap2_kept {w w' : World} {g g2 b0 b2 k k2 : Nat} {day day2 : Int} {L L2 : Nat → Array Value} (hc : CalIs w g b0 k day L) (h2 : CalIs w g2 b2 k2 day2 L2) (ap : Ap2 w g g2) (hb : Below w.heap.size w w') : Ap2 w' g g2 := fun v1 e1 v3 e3 hv hv3 => by
  obtain ⟨vc, hg, _⟩ := hc.row
  obtain ⟨v2, hg2, _⟩ := h2.row
  rw [Ytobokknfpjjdeaa.kept hb hg] at hv
  rw [Ytobokknfpjjdeaa.kept hb hg2] at hv3
  simp at hv hv3
  obtain ⟨z1, z2⟩ := hv
  obtain ⟨z3, z4⟩ := hv3
  subst z1 z2 z3 z4
  exact ap _ _ _ _ hg hg2
/-- a copy, while the first one goes its way -/
structure Tri (w0 w : World) (g gw g2 m k k1 : Nat) (day day1 : Int) (L L1 : Nat → Array Value) (v : Value) : Prop where
  p : Mid w0 w g gw k k1 day day1 L L1 v
  c : CalIs w g2 m k day L
  ne : g < g2
  ap : Ap2 w g g2
  lo : ∀ b, v.ownBlock = some b → b < m
  ml : w0.heap.size ≤ m
theorem Tri.kept {w0 w w' : World} {g gw g2 m k k1 : Nat} {day day1 : Int} {L L1 : Nat → Array Value} {v : Value} (h : Tri w0 w g gw g2 m k k1 day day1 L L1 v) (hb : Below w.heap.size w w') : Tri w0 w' g gw g2 m k k1 day day1 L L1 v :=
  ⟨h.p.kept hb, h.c.kept hb, h.ne, ap2_kept h.p.c h.c h.ap hb, h.lo, h.ml⟩
theorem tri_new {w0 w w' : World} {g gw g2 k : Nat} {day : Int} {L : Nat → Array Value} {v : Value} (h : Pair w0 w g gw k day L v) (hb : Below w.heap.size w w') (hc : CalIs w' g2 w.heap.size k day L) : Tri w0 w' g gw g2 w.heap.size k k day day L L v := by
  have h' := h.kept hb
  obtain ⟨vc, hg, hrow⟩ := h.c.row
  have hgl := (Array.getElem?_eq_some_iff.1 hg).1
  refine ⟨⟨h'.c, h'.d, h'.be, h'.ap⟩, hc, by have := hc.bg; omega, fun v1 e1 v3 e3 hv hv3 b hb1 hb3 => ?_, fun b hb => (h.d.own.lt b hb).2, h.be.size⟩
  rw [Ytobokknfpjjdeaa.kept hb hg] at hv
  simp at hv
  obtain ⟨z1, z2⟩ := hv
  subst z1 z2
  obtain ⟨v2, hg2, hrow2⟩ := hc.row
  rw [hg2] at hv3
  simp at hv3
  obtain ⟨z3, z4⟩ := hv3
  subst z3 z4
  have h1 := (hrow.lt b hb1).2
  have h2 := (hrow2.lt b hb3).1
  omega
theorem Tri.step {w0 w w' : World} {g gw g2 m k k1 k2 bo : Nat} {day day1 day2 : Int} {L L1 L2 : Nat → Array Value} {v : Value} {A : Array Value} (h : Tri w0 w g gw g2 m k k1 day day1 L L1 v) (ho : Opb bo A w) (hk : CK g w0.heap.size k2 day2 L2 w w') : Tri w0 w' g gw g2 m k k2 day day2 L L2 v ∧ Opb bo A w' := by
  obtain ⟨q1, q2⟩ := ck_other hk h.p.c h.c (by have := h.ne; omega) h.ap
  have hM : Mid w0 w' g gw k k2 day day2 L L2 v ∧ Opb bo A w' := by
    obtain ⟨c1, c2, c3⟩ := hk
    obtain ⟨vc, hg, hrow⟩ := h.p.c.row
    obtain ⟨r1, d', vc', hg', r2⟩ := c3 vc day1 hg
    have hst : ∀ (i : Nat) (A : Array Value) (t : TypeId) (fr : Nat × Nat), w.heap[i]? = some (Obj.cells A t fr) → t ≠ 93 → t ≠ 65 → w'.heap[i]? = some (Obj.cells A t fr) := fun i A t fr hi h1 h2 => by
      refine (r1 i (fun e => ?_) (fun e => ?_) (Array.getElem?_eq_some_iff.1 hi).1).trans hi
      · subst e; rw [hg] at hi; injection hi with hi; injection hi with _ hi; exact h1 hi.symm
      · obtain ⟨A9, f9, h9⟩ := own_tag hrow i e.symm
        rw [h9] at hi; injection hi with hi; injection hi with _ hi; exact h2 hi.symm
    have hdw := hst gw _ _ _ h.p.d.row (by decide) (by decide)
    refine ⟨⟨c1, ⟨hdw, ?_, h.p.d.bg, h.p.d.con, h.p.d.srt, h.p.d.hk, h.p.d.hd⟩, h.p.be.trans c2, fun v1 e hv b hb => ?_⟩, hst _ _ _ _ ho (by decide) (by decide)⟩
    · obtain ⟨a1, a2 | ⟨gx, cap, cur, p1, p2, p3, p4⟩⟩ := h.p.d.own
      · exact ⟨a1, .inl a2⟩
      · refine ⟨a1, .inr ⟨gx, cap, cur, p1, p2, ?_, p4⟩⟩
        refine (r1 gx (fun e => ?_) (fun e => ?_) (Array.getElem?_eq_some_iff.1 p3).1).trans p3
        · subst e; rw [hg] at p3; injection p3 with p3; injection p3 with _ p3; exact absurd p3 (by decide)
        · exact h.p.ap vc day1 hg gx e.symm (by rw [p1]; rfl)
    · rw [hg'] at hv
      simp at hv
      obtain ⟨z1, z2⟩ := hv
      subst z1 z2
      rcases r2 with r2 | ⟨b2, r2, r3⟩
      · exact h.p.ap vc day1 hg b (r2.symm.trans hb)
      · rw [hb] at r2
        cases r2
        intro hv
        have := (h.p.d.own.lt b hv).2
        omega
  exact ⟨⟨hM.1, q1, h.ne, q2, h.lo, h.ml⟩, hM.2⟩
theorem Tri.pair {w0 w : World} {g gw g2 m k k1 : Nat} {day day1 : Int} {L L1 : Nat → Array Value} {v : Value} (h : Tri w0 w g gw g2 m k k1 day day1 L L1 v) : Pair w0 w g2 gw k day L v := by
  obtain ⟨v2, hg2, hrow2⟩ := h.c.row
  have hml := h.ml
  refine ⟨⟨⟨v2, hg2, Go.Joins.ownsRow_le hrow2 hml⟩, h.c.con, h.c.srt, by have := h.c.bg; omega, h.c.hk, h.c.hd⟩, h.p.d, h.p.be, fun v1 e hv b hb hb2 => ?_⟩
  rw [hg2] at hv
  simp at hv
  obtain ⟨z1, z2⟩ := hv
  subst z1 z2
  have h1 := (hrow2.lt b hb).1
  have h2 := h.lo b hb2
  omega
end Go.Proofs.Ytobokknfpjjdeaa
