/- Texts that UncLaw07 stands on, one behind the other, part 8. Conditions: each theorem names its own. -/
import Derived.Test.YtmjfbilhalkegaaMgUncLaw077
/-! A book: an order comes. Condition: the book is one, the order may come. -/
namespace Go.Proofs.Ytmjfbilhalkegaa
set_option linter.unusedVariables false
set_option linter.unusedSimpArgs false
open Go.RowKit Go.Deep

/-- an order's own side, and the other one -/
structure TwX (w : World) (g1 g2 base : Nat) (b : Bool) (l1 l2 : List Od) : Prop where
  s1 : SL w g1 base b l1
  s2 : SL w g2 base (!b) l2
  ne : g1 ≠ g2
  ap : ∀ v1 v2, w.heap[g1]? = some (.cells #[.bool true, .bool b, v1] 77 (0, 0)) → w.heap[g2]? = some (.cells #[.bool true, .bool (!b), v2] 77 (0, 0)) → ∀ q, v1.ownBlock = some q → v2.ownBlock ≠ some q
theorem TwX.kept {w w' : World} {g1 g2 base : Nat} {b : Bool} {l1 l2 : List Od} (h : TwX w g1 g2 base b l1 l2) (hb : Below w.heap.size w w') : TwX w' g1 g2 base b l1 l2 := by
  obtain ⟨vb, h1, _⟩ := h.s1.s.row
  obtain ⟨vs, h2, _⟩ := h.s2.s.row
  refine ⟨h.s1.kept hb, h.s2.kept hb, h.ne, fun v1 v2 e1 e2 => ?_⟩
  obtain ⟨_, rfl⟩ := side_inj (Ytmjfbilhalkegaa.kept hb h1) e1
  obtain ⟨_, rfl⟩ := side_inj (Ytmjfbilhalkegaa.kept hb h2) e2
  exact h.ap _ _ h1 h2
theorem TwX.st1 {w w' : World} {g1 g2 base : Nat} {b : Bool} {l1 l2 l : List Od} (h : TwX w g1 g2 base b l1 l2) (hk : SK g1 base b l w w') : TwX w' g1 g2 base b l l2 := by
  obtain ⟨q1, q2⟩ := sl_stay h.s1 h.s2 h.ne h.ap hk.ks hk.ko
  exact ⟨hk.s, q1, h.ne, q2⟩
theorem TwX.st2 {w w' : World} {g1 g2 base : Nat} {b : Bool} {l1 l2 l : List Od} (h : TwX w g1 g2 base b l1 l2) (hk : SK g2 base (!b) l w w') : TwX w' g1 g2 base b l1 l := by
  obtain ⟨q1, q2⟩ := sl_stay h.s2 h.s1 (fun e => h.ne e.symm) (fun v v2 e1 e2 q e3 e4 => h.ap v2 v e2 e1 q e4 e3) hk.ks hk.ko
  exact ⟨q1, hk.s, h.ne, fun v1 v2 e1 e2 q e3 e4 => q2 v2 v1 e2 e1 q e4 e3⟩
theorem Two.x {w : World} {gb gs base : Nat} {lb ls : List Od} (h : Two w gb gs base lb ls) (b : Bool) : TwX w (if b then gb else gs) (if b then gs else gb) base b (if b then lb else ls) (if b then ls else lb) := by
  cases b
  · exact ⟨h.s, h.b, fun e => h.ne e.symm, fun v1 v2 e1 e2 q e3 e4 => h.ap v2 v1 e2 e1 q e4 e3⟩
  · exact ⟨h.b, h.s, h.ne, h.ap⟩
theorem TwX.two {w : World} {gb gs base : Nat} {b : Bool} {l1 l2 : List Od} (h : TwX w (if b then gb else gs) (if b then gs else gb) base b l1 l2) : Two w gb gs base (if b then l1 else l2) (if b then l2 else l1) := by
  cases b
  · exact ⟨h.s2, h.s1, fun e => h.ne e.symm, fun v1 v2 e1 e2 q e3 e4 => h.ap v2 v1 e2 e1 q e4 e3⟩
  · exact ⟨h.s1, h.s2, h.ne, h.ap⟩
/-- the row of a side is another block than q -/
def Nb (g q : Nat) (b : Bool) (w : World) : Prop := ∀ v, w.heap[g]? = some (.cells #[.bool true, .bool b, v] 77 (0, 0)) → v.ownBlock ≠ some q
theorem nb_new {w w' : World} {g base q : Nat} {b : Bool} {l : List Od} (h : SL w g base b l) (hq : w.heap.size ≤ q) (hb : Below w.heap.size w w') : Nb g q b w' := fun v hv e => by
  obtain ⟨v0, hg, hr⟩ := h.s.row
  obtain ⟨_, rfl⟩ := side_inj (Ytmjfbilhalkegaa.kept hb hg) hv
  have := (hr.lt q e).2
  omega
theorem nb_below {w w' : World} {g base q : Nat} {b : Bool} {l : List Od} (h : SL w g base b l) (hn : Nb g q b w) (hb : Below w.heap.size w w') : Nb g q b w' := fun v hv => by
  obtain ⟨v0, hg, hr⟩ := h.s.row
  obtain ⟨_, rfl⟩ := side_inj (Ytmjfbilhalkegaa.kept hb hg) hv
  exact hn _ hg
theorem nb_ks {w w' : World} {g base q : Nat} {b : Bool} {l : List Od} (h : SL w g base b l) (hn : Nb g q b w) (hk : Ks g w w') (hq : q < w.heap.size) : Nb g q b w' := fun v hv e => by
  obtain ⟨v0, hg, hr⟩ := h.s.row
  obtain ⟨_, v1, h1, h2⟩ := hk v0 b hg
  obtain ⟨_, rfl⟩ := side_inj h1 hv
  rcases h2 with h2 | ⟨q2, h2, h3⟩
  · exact hn _ hg (h2.symm.trans e)
  · rw [e] at h2; cases h2; omega
/-- a block of whatever type that is neither the side nor its row stays -/
theorem ks_stay {w w' : World} {g base q : Nat} {b : Bool} {l : List Od} {o : Obj} (h : SL w g base b l) (hn : Nb g q b w) (hk : Ks g w w') (hg : q ≠ g) (ho : w.heap[q]? = some o) : w'.heap[q]? = some o := by
  obtain ⟨v0, h0, hr⟩ := h.s.row
  exact ((hk v0 b h0).1 q hg (fun e => hn _ h0 e.symm) (Array.getElem?_eq_some_iff.1 ho).1).trans ho
/-- a block that lay below n, and is neither a side nor a side's row, stays so -/
def Kb (n g1 g2 : Nat) (b : Bool) (w0 w : World) : Prop := ∀ (q : Nat) (o : Obj), q < n → w0.heap[q]? = some o → q ≠ g1 → q ≠ g2 → Nb g1 q b w0 → Nb g2 q (!b) w0 → w.heap[q]? = some o ∧ Nb g1 q b w ∧ Nb g2 q (!b) w
theorem Kb.trans {n g1 g2 : Nat} {b : Bool} {w0 w w' : World} (h : Kb n g1 g2 b w0 w) (h2 : Kb n g1 g2 b w w') : Kb n g1 g2 b w0 w' := fun q o hq ho e1 e2 n1 n2 => by
  obtain ⟨a1, a2, a3⟩ := h q o hq ho e1 e2 n1 n2
  exact h2 q o hq a1 e1 e2 a2 a3
theorem nb_same {w w' : World} {g base q : Nat} {b : Bool} {l : List Od} (h : SL w g base b l) (hn : Nb g q b w) (r : ∀ o, w.heap[g]? = some o → w'.heap[g]? = some o) : Nb g q b w' := fun v hv => by
  obtain ⟨v0, hg, _⟩ := h.s.row
  obtain ⟨_, rfl⟩ := side_inj (r _ hg) hv
  exact hn _ hg
theorem kb_rows {w w' : World} {n g1 g2 base : Nat} {b : Bool} {l1 l2 : List Od} (h : TwX w g1 g2 base b l1 l2) (r1 : ∀ o, w.heap[g1]? = some o → w'.heap[g1]? = some o) (r2 : ∀ o, w.heap[g2]? = some o → w'.heap[g2]? = some o)
    (hs : ∀ (q : Nat) (o : Obj), q < n → w.heap[q]? = some o → w'.heap[q]? = some o) : Kb n g1 g2 b w w' := fun q o hq ho _ _ n1 n2 => ⟨hs q o hq ho, nb_same h.s1 n1 r1, nb_same h.s2 n2 r2⟩
theorem kb_below {w w' : World} {n g1 g2 base : Nat} {b : Bool} {l1 l2 : List Od} (h : TwX w g1 g2 base b l1 l2) (hb : Below w.heap.size w w') : Kb n g1 g2 b w w' :=
  kb_rows h (fun _ ho => Ytmjfbilhalkegaa.kept hb ho) (fun _ ho => Ytmjfbilhalkegaa.kept hb ho) (fun _ _ _ ho => Ytmjfbilhalkegaa.kept hb ho)
theorem kb_side {w w' : World} {n g1 g2 base : Nat} {b : Bool} {l1 l2 l : List Od} (h : TwX w g1 g2 base b l1 l2) (hk : SK g2 base (!b) l w w') : Kb n g1 g2 b w w' := fun q o _ ho _ e2 n1 n2 => by
  obtain ⟨v1, h1, _⟩ := h.s1.s.row
  have h1' := hk.ko.cells g1 _ _ _ (by decide) h.ne h1
  refine ⟨ks_stay h.s2 n2 hk.ks e2 ho, fun v hv => ?_, nb_ks h.s2 n2 hk.ks (Array.getElem?_eq_some_iff.1 ho).1⟩
  obtain ⟨_, rfl⟩ := side_inj h1' hv
  exact n1 _ h1
theorem kb_side1 {w w' : World} {n g1 g2 base : Nat} {b : Bool} {l1 l2 l : List Od} (h : TwX w g1 g2 base b l1 l2) (hk : SK g1 base b l w w') : Kb n g1 g2 b w w' := fun q o _ ho e1 _ n1 n2 => by
  obtain ⟨v2, h2, _⟩ := h.s2.s.row
  have h2' := hk.ko.cells g2 _ _ _ (by decide) (fun e => h.ne e.symm) h2
  refine ⟨ks_stay h.s1 n1 hk.ks e1 ho, nb_ks h.s1 n1 hk.ks (Array.getElem?_eq_some_iff.1 ho).1, fun v hv => ?_⟩
  obtain ⟨_, rfl⟩ := side_inj h2' hv
  exact n2 _ h2
def trs (l : List Tr) (i : Nat) : Tr := l.getD i ⟨0, 0, 0, 0⟩
/-- what an order that comes has met so far -/
structure Cst (w0 w : World) (g : Nat) (AB : Array Value) (g1 g2 base bo bp : Nat) (o : Od) (l1 l2 : List Od) (left fl : Int) (tr : List Tr) (gn : List Int) (vt vg : Value) : Prop where
  bk : w.heap[g]? = some (.cells AB 56 (0, 0))
  two : TwX w g1 g2 base o.b l1 l2
  bx : w.heap[bo]? = some (.cells (oa { o with q := left }) 30 (0, 0))
  px : w.heap[bp]? = some (.cells #[vt, vg, .int .i64 fl, .int .i64 0] 41 (0, 0))
  n1 : Nb g1 bo o.b w
  n2 : Nb g2 bo (!o.b) w
  rt : w.ownsRow w0.heap.size 46 4 vt tr.length (flat (fun i => ta (trs tr i)) tr.length)
  rg : w.ownsRow w0.heap.size 27 1 vg gn.length (gn.map (Value.int .u64))
  be : Below base w0 w
  fr : Kb w0.heap.size g1 g2 o.b w0 w
/-- the same without the two rows -/
structure Cpre (w0 w : World) (g : Nat) (AB : Array Value) (g1 g2 base bo bp : Nat) (o : Od) (l1 l2 : List Od) (left fl : Int) (vt vg : Value) : Prop where
  bk : w.heap[g]? = some (.cells AB 56 (0, 0))
  two : TwX w g1 g2 base o.b l1 l2
  bx : w.heap[bo]? = some (.cells (oa { o with q := left }) 30 (0, 0))
  px : w.heap[bp]? = some (.cells #[vt, vg, .int .i64 fl, .int .i64 0] 41 (0, 0))
  n1 : Nb g1 bo o.b w
  n2 : Nb g2 bo (!o.b) w
  be : Below base w0 w
  fr : Kb w0.heap.size g1 g2 o.b w0 w
theorem Cst.pre {w0 w : World} {g g1 g2 base bo bp : Nat} {AB : Array Value} {o : Od} {l1 l2 : List Od} {left fl : Int} {tr : List Tr} {gn : List Int} {vt vg : Value} (h : Cst w0 w g AB g1 g2 base bo bp o l1 l2 left fl tr gn vt vg) : Cpre w0 w g AB g1 g2 base bo bp o l1 l2 left fl vt vg := ⟨h.bk, h.two, h.bx, h.px, h.n1, h.n2, h.be, h.fr⟩
theorem own_sameT {w w' : World} {base n c : Nat} {e : TypeId} {v : Value} {xs : List Value} (h : w.ownsRow base e c v n xs) (hs : ∀ (g : Nat) (A : Array Value), v.ownBlock = some g → w.heap[g]? = some (.cells A e (0, 0)) → w'.heap[g]? = some (.cells A e (0, 0))) : w'.ownsRow base e c v n xs := by
  obtain ⟨a1, a2 | ⟨gx, cap, cur, p1, p2, p3, p4'⟩⟩ := h
  · exact ⟨a1, .inl a2⟩
  · exact ⟨a1, .inr ⟨gx, cap, cur, p1, p2, hs gx _ (by rw [p1]; rfl) p3, p4'⟩⟩
/-- sides and their rows stay -/
def Kt (w w' : World) : Prop := ∀ (q : Nat) (A : Array Value) (t : TypeId) (fr : Nat × Nat), w.heap[q]? = some (Obj.cells A t fr) → (t = 77 ∨ t = 30) → w'.heap[q]? = some (Obj.cells A t fr)
theorem sl_kt {w w' : World} {g base : Nat} {b : Bool} {l : List Od} (h : SL w g base b l) (hk : Kt w w') : SL w' g base b l := by
  obtain ⟨v, hg, hr⟩ := h.s.row
  exact ⟨⟨⟨v, hk _ _ _ _ hg (.inl rfl), own_sameT hr (fun q A _ hq => hk _ _ _ _ hq (.inr rfl))⟩, h.s.ord, h.s.bg, h.s.hk⟩, h.ok⟩
theorem TwX.kt {w w' : World} {g1 g2 base : Nat} {b : Bool} {l1 l2 : List Od} (h : TwX w g1 g2 base b l1 l2) (hk : Kt w w') : TwX w' g1 g2 base b l1 l2 := by
  obtain ⟨vb, h1, _⟩ := h.s1.s.row
  obtain ⟨vs, h2, _⟩ := h.s2.s.row
  refine ⟨sl_kt h.s1 hk, sl_kt h.s2 hk, h.ne, fun v1 v2 e1 e2 => ?_⟩
  obtain ⟨_, rfl⟩ := side_inj (hk _ _ _ _ h1 (.inl rfl)) e1
  obtain ⟨_, rfl⟩ := side_inj (hk _ _ _ _ h2 (.inl rfl)) e2
  exact h.ap _ _ h1 h2
theorem nb_kt {w w' : World} {g base q : Nat} {b : Bool} {l : List Od} (h : SL w g base b l) (hn : Nb g q b w) (hk : Kt w w') : Nb g q b w' := fun v hv => by
  obtain ⟨v0, hg, hr⟩ := h.s.row
  obtain ⟨_, rfl⟩ := side_inj (hk _ _ _ _ hg (.inl rfl)) hv
  exact hn _ hg
theorem kt_set {w : World} {q i : Nat} {A : Array Value} {t : TypeId} {fr : Nat × Nat} {v : Value} (hq : w.heap[q]? = some (Obj.cells A t fr)) (h1 : t ≠ 77) (h2 : t ≠ 30) : Kt w (w.setCell ⟨q, i, none⟩ v) := fun p B u fr2 hp ht => by
  refine heap_set_other hp (fun e => ?_)
  subst e
  rw [hq] at hp; injection hp with hp; injection hp with _ hp
  subst hp
  rcases ht with ht | ht
  · exact h1 ht
  · exact h2 ht
theorem kt_grown {w w' : World} {row : Option Nat} (hg : w.grownBy w' row) (hr : ∀ q, row = some q → ∃ A t fr, w.heap[q]? = some (Obj.cells A t fr) ∧ t ≠ 77 ∧ t ≠ 30) : Kt w w' := fun p B u fr2 hp ht => by
  refine (hg.block p (Array.getElem?_eq_some_iff.1 hp).1 (fun e => ?_)).trans hp
  obtain ⟨A, t, fr, h0, h1, h2⟩ := hr p e.symm
  rw [h0] at hp; injection hp with hp; injection hp with _ hp
  subst hp
  rcases ht with ht | ht
  · exact h1 ht
  · exact h2 ht
theorem kt_below {w w' : World} (h : Below w.heap.size w w') : Kt w w' := fun _ _ _ _ hq _ => Ytmjfbilhalkegaa.kept h hq
theorem Cst.kept {w0 w w' : World} {g g1 g2 base bo bp : Nat} {AB : Array Value} {o : Od} {l1 l2 : List Od} {left fl : Int} {tr : List Tr} {gn : List Int} {vt vg : Value} (h : Cst w0 w g AB g1 g2 base bo bp o l1 l2 left fl tr gn vt vg) (hb : Below w.heap.size w w') (hl : base ≤ w.heap.size) : Cst w0 w' g AB g1 g2 base bo bp o l1 l2 left fl tr gn vt vg :=
  ⟨Ytmjfbilhalkegaa.kept hb h.bk, h.two.kept hb, Ytmjfbilhalkegaa.kept hb h.bx, Ytmjfbilhalkegaa.kept hb h.px, nb_below h.two.s1 h.n1 hb, nb_below h.two.s2 h.n2 hb, own_below hb h.rt, own_below hb h.rg, h.be.trans (hb.mono hl), h.fr.trans (kb_below h.two hb)⟩
theorem Cst.side {w0 w w' : World} {g g1 g2 base bo bp : Nat} {AB : Array Value} {o : Od} {l1 l2 l : List Od} {left fl : Int} {tr : List Tr} {gn : List Int} {vt vg : Value} (h : Cst w0 w g AB g1 g2 base bo bp o l1 l2 left fl tr gn vt vg) (hk : SK g2 base (!o.b) l w w') : Cst w0 w' g AB g1 g2 base bo bp o l1 l left fl tr gn vt vg := by
  obtain ⟨v1, h1, _⟩ := h.two.s1.s.row
  obtain ⟨v2, h2, _⟩ := h.two.s2.s.row
  have hne := h.two.ne
  have e1 : bo ≠ g2 := fun e => by
    have hb := h.bx
    subst e; rw [h2] at hb; injection hb with hb; injection hb with _ hb; exact absurd hb (by decide)
  have e2 : bp ≠ g2 := fun e => by
    have hb := h.px
    subst e; rw [h2] at hb; injection hb with hb; injection hb with _ hb; exact absurd hb (by decide)
  have h1' := hk.ko.cells g1 _ _ _ (by decide) hne h1
  have e3 : g ≠ g2 := fun e => by
    have hb := h.bk
    subst e; rw [h2] at hb; injection hb with hb; injection hb with _ hb; exact absurd hb (by decide)
  refine ⟨hk.ko.cells g _ _ _ (by decide) e3 h.bk, h.two.st2 hk, ks_stay h.two.s2 h.n2 hk.ks e1 h.bx, hk.ko.cells bp _ _ _ (by decide) e2 h.px, fun v hv => ?_, nb_ks h.two.s2 h.n2 hk.ks (Array.getElem?_eq_some_iff.1 h.bx).1, own_sameT h.rt (fun q A _ hq => hk.ko.cells q _ _ _ (by decide) (fun e => ?_) hq), own_sameT h.rg (fun q A _ hq => hk.ko.cells q _ _ _ (by decide) (fun e => ?_) hq), h.be.trans hk.be, h.fr.trans (kb_side h.two hk)⟩
  · obtain ⟨_, rfl⟩ := side_inj h1' hv
    exact h.n1 _ h1
  · subst e; rw [h2] at hq; injection hq with hq; injection hq with _ hq; exact absurd hq (by decide)
  · subst e; rw [h2] at hq; injection hq with hq; injection hq with _ hq; exact absurd hq (by decide)
theorem Cst.side1 {w0 w w' : World} {g g1 g2 base bo bp : Nat} {AB : Array Value} {o : Od} {l1 l2 l : List Od} {left fl : Int} {tr : List Tr} {gn : List Int} {vt vg : Value} (h : Cst w0 w g AB g1 g2 base bo bp o l1 l2 left fl tr gn vt vg) (hk : SK g1 base o.b l w w') : Cst w0 w' g AB g1 g2 base bo bp o l l2 left fl tr gn vt vg := by
  obtain ⟨v1, h1, _⟩ := h.two.s1.s.row
  obtain ⟨v2, h2, _⟩ := h.two.s2.s.row
  have hne := h.two.ne
  have e1 : bo ≠ g1 := fun e => by
    have hb := h.bx
    subst e; rw [h1] at hb; injection hb with hb; injection hb with _ hb; exact absurd hb (by decide)
  have e2 : bp ≠ g1 := fun e => by
    have hb := h.px
    subst e; rw [h1] at hb; injection hb with hb; injection hb with _ hb; exact absurd hb (by decide)
  have h2' := hk.ko.cells g2 _ _ _ (by decide) (fun e => hne e.symm) h2
  have e3 : g ≠ g1 := fun e => by
    have hb := h.bk
    subst e; rw [h1] at hb; injection hb with hb; injection hb with _ hb; exact absurd hb (by decide)
  refine ⟨hk.ko.cells g _ _ _ (by decide) e3 h.bk, h.two.st1 hk, ks_stay h.two.s1 h.n1 hk.ks e1 h.bx, hk.ko.cells bp _ _ _ (by decide) e2 h.px, nb_ks h.two.s1 h.n1 hk.ks (Array.getElem?_eq_some_iff.1 h.bx).1, fun v hv => ?_, own_sameT h.rt (fun q A _ hq => hk.ko.cells q _ _ _ (by decide) (fun e => ?_) hq), own_sameT h.rg (fun q A _ hq => hk.ko.cells q _ _ _ (by decide) (fun e => ?_) hq), h.be.trans hk.be, h.fr.trans (kb_side1 h.two hk)⟩
  · obtain ⟨_, rfl⟩ := side_inj h2' hv
    exact h.n2 _ h2
  · subst e; rw [h1] at hq; injection hq with hq; injection hq with _ hq; exact absurd hq (by decide)
  · subst e; rw [h1] at hq; injection hq with hq; injection hq with _ hq; exact absurd hq (by decide)
theorem sl_off {w w' : World} {g base q : Nat} {b : Bool} {l : List Od} (h : SL w g base b l) (hn : Nb g q b w) (hg : q ≠ g) (ho : ∀ i, i ≠ q → w'.heap[i]? = w.heap[i]?) : SL w' g base b l ∧ Nb g q b w' := by
  obtain ⟨v, h0, hr⟩ := h.s.row
  have h0' := (ho g (fun e => hg e.symm)).trans h0
  refine ⟨⟨⟨⟨v, h0', own_sameT hr (fun i A e hq => (ho i (fun e2 => hn _ h0 (by rw [e, e2]))).trans hq)⟩, h.s.ord, h.s.bg, h.s.hk⟩, h.ok⟩, fun u hu => ?_⟩
  obtain ⟨_, rfl⟩ := side_inj h0' hu
  exact hn _ h0
theorem Cst.left {w0 w : World} {g g1 g2 base bo bp : Nat} {AB : Array Value} {o : Od} {l1 l2 : List Od} {left fl : Int} {tr : List Tr} {gn : List Int} {vt vg : Value} (y : Int) (h : Cst w0 w g AB g1 g2 base bo bp o l1 l2 left fl tr gn vt vg) (hlo : base ≤ bo) (hnb : w0.heap.size ≤ bo) : Cst w0 (w.setCell ⟨bo, 4, none⟩ (.int .i64 y)) g AB g1 g2 base bo bp o l1 l2 y fl tr gn vt vg := by
  obtain ⟨v1, h1, _⟩ := h.two.s1.s.row
  obtain ⟨v2, h2, _⟩ := h.two.s2.s.row
  have ty : ∀ (q : Nat) (A : Array Value) (t : TypeId) (fr : Nat × Nat), w.heap[q]? = some (Obj.cells A t fr) → t ≠ 30 → q ≠ bo := fun q A t fr hq ht e => by
    have hb := h.bx
    subst e; rw [hq] at hb; injection hb with hb; injection hb with _ hb; exact ht hb
  have ho : ∀ i, i ≠ bo → (w.setCell ⟨bo, 4, none⟩ (.int .i64 y)).heap[i]? = w.heap[i]? := fun i hi => heap_setCell_other w ⟨bo, 4, none⟩ i _ hi
  have e1 := ty _ _ _ _ h1 (by decide)
  have e2 := ty _ _ _ _ h2 (by decide)
  obtain ⟨a1, a2⟩ := sl_off h.two.s1 h.n1 (fun e => e1 e.symm) ho
  obtain ⟨b1, b2⟩ := sl_off h.two.s2 h.n2 (fun e => e2 e.symm) ho
  refine ⟨(ho _ (ty _ _ _ _ h.bk (by decide))).trans h.bk, ⟨a1, b1, h.two.ne, fun u1 u2 q1 q2 => ?_⟩, heap_set (i := 4) h.bx, (ho _ (ty _ _ _ _ h.px (by decide))).trans h.px, a2, b2, own_sameT h.rt (fun q A _ hq => (ho _ (ty _ _ _ _ hq (by decide))).trans hq), own_sameT h.rg (fun q A _ hq => (ho _ (ty _ _ _ _ hq (by decide))).trans hq), below_set h.be hlo, h.fr.trans (kb_rows h.two (fun o q => (ho _ e1).trans q) (fun o q => (ho _ e2).trans q) (fun q o hq h9 => (ho _ (by omega)).trans h9))⟩
  rw [ho _ e1] at q1
  rw [ho _ e2] at q2
  exact h.two.ap _ _ q1 q2
/-- the answer's own cells are written -/
theorem Cpre.ans {w0 w : World} {g g1 g2 base bo bp i : Nat} {AB : Array Value} {o : Od} {l1 l2 : List Od} {left fl fl' : Int} {vt vg vt' vg' x : Value} (h : Cpre w0 w g AB g1 g2 base bo bp o l1 l2 left fl vt vg) (hlo : base ≤ bp) (hnb : w0.heap.size ≤ bp) (hs : (#[vt, vg, .int .i64 fl, .int .i64 0] : Array Value).setIfInBounds i x = #[vt', vg', .int .i64 fl', .int .i64 0]) {tr' : List Tr} {gn' : List Int}
    (h1 : w.ownsRow w0.heap.size 46 4 vt' tr'.length (flat (fun i => ta (trs tr' i)) tr'.length)) (h2 : w.ownsRow w0.heap.size 27 1 vg' gn'.length (gn'.map (Value.int .u64))) :
    Cst w0 (w.setCell ⟨bp, i, none⟩ x) g AB g1 g2 base bo bp o l1 l2 left fl' tr' gn' vt' vg' := by
  have hk := kt_set (i := i) (v := x) h.px (by decide) (by decide)
  have ty : ∀ (q : Nat) (A : Array Value) (t : TypeId) (fr : Nat × Nat), w.heap[q]? = some (Obj.cells A t fr) → t ≠ 41 → (w.setCell ⟨bp, i, none⟩ x).heap[q]? = some (Obj.cells A t fr) := fun q A t fr hq ht => heap_set_other hq (fun e => by
    have hb := h.px
    subst e; rw [hq] at hb; injection hb with hb; injection hb with _ hb; exact ht hb)
  refine ⟨ty _ _ _ _ h.bk (by decide), h.two.kt hk, ty _ _ _ _ h.bx (by decide), ?_, nb_kt h.two.s1 h.n1 hk, nb_kt h.two.s2 h.n2 hk, own_sameT h1 (fun q A _ hq => ty _ _ _ _ hq (by decide)), own_sameT h2 (fun q A _ hq => ty _ _ _ _ hq (by decide)), below_set h.be hlo, h.fr.trans (kb_rows h.two (fun o q => ?_) (fun o q => ?_) (fun q o hq h9 => heap_set_other h9 (by omega)))⟩
  rotate_left
  · obtain ⟨v1, e1, _⟩ := h.two.s1.s.row
    rw [e1] at q; cases q
    exact ty _ _ _ _ e1 (by decide)
  · obtain ⟨v1, e1, _⟩ := h.two.s2.s.row
    rw [e1] at q; cases q
    exact ty _ _ _ _ e1 (by decide)
  have h3 := heap_set (i := i) (v := x) h.px
  rw [hs] at h3
  exact h3
/-- a row of trades, or of numbers, grows -/
theorem Cst.grown {w0 w w' : World} {g g1 g2 base bo bp : Nat} {AB : Array Value} {o : Od} {l1 l2 : List Od} {left fl : Int} {tr : List Tr} {gn : List Int} {vt vg : Value} {row : Option Nat} {t0 : TypeId} (h : Cst w0 w g AB g1 g2 base bo bp o l1 l2 left fl tr gn vt vg) (hg : w.grownBy w' row) (hr : ∀ q, row = some q → w0.heap.size ≤ q ∧ ∃ A fr, w.heap[q]? = some (Obj.cells A t0 fr)) (ht : t0 = 46 ∨ t0 = 27) (hlo : base ≤ w0.heap.size) :
    Cpre w0 w' g AB g1 g2 base bo bp o l1 l2 left fl vt vg ∧ (t0 ≠ 46 → w'.ownsRow w0.heap.size 46 4 vt tr.length (flat (fun i => ta (trs tr i)) tr.length)) ∧ (t0 ≠ 27 → w'.ownsRow w0.heap.size 27 1 vg gn.length (gn.map (Value.int .u64))) := by
  have hk : Kt w w' := kt_grown hg (fun q e => by
    obtain ⟨_, A, fr, h0⟩ := hr q e
    exact ⟨A, t0, fr, h0, by rcases ht with rfl | rfl <;> decide, by rcases ht with rfl | rfl <;> decide⟩)
  have ty : ∀ (q : Nat) (A : Array Value) (t : TypeId) (fr : Nat × Nat), w.heap[q]? = some (Obj.cells A t fr) → t ≠ t0 → w'.heap[q]? = some (Obj.cells A t fr) := fun q A t fr hq hne => (hg.block q (Array.getElem?_eq_some_iff.1 hq).1 (fun e => by
    obtain ⟨_, A9, fr9, h9⟩ := hr q e.symm
    rw [hq] at h9; injection h9 with h9; injection h9 with _ h9; exact hne h9)).trans hq
  exact ⟨⟨ty _ _ _ _ h.bk (by rcases ht with rfl | rfl <;> decide), h.two.kt hk, ty _ _ _ _ h.bx (by rcases ht with rfl | rfl <;> decide), ty _ _ _ _ h.px (by rcases ht with rfl | rfl <;> decide), nb_kt h.two.s1 h.n1 hk, nb_kt h.two.s2 h.n2 hk, h.be.grown hg (by have := h.be.size; omega) (fun q e => by have := (hr q e).1; omega), h.fr.trans (kb_rows h.two (fun o q => by
    obtain ⟨v1, e1, _⟩ := h.two.s1.s.row
    rw [e1] at q; cases q
    exact hk _ _ _ _ e1 (.inl rfl)) (fun o q => by
    obtain ⟨v1, e1, _⟩ := h.two.s2.s.row
    rw [e1] at q; cases q
    exact hk _ _ _ _ e1 (.inl rfl)) (fun q o hq h9 => (hg.block q (Array.getElem?_eq_some_iff.1 h9).1 (fun e => by have := (hr q e.symm).1; omega)).trans h9))⟩, fun hne => own_sameT h.rt (fun q A _ hq => ty _ _ _ _ hq (fun e => hne e.symm)), fun hne => own_sameT h.rg (fun q A _ hq => ty _ _ _ _ hq (fun e => hne e.symm))⟩
end Go.Proofs.Ytmjfbilhalkegaa
/-! A slice built of one struct; one row more behind the own ones. No condition. -/
namespace Go.Proofs.Ytmjfbilhalkegaa
set_option linter.unusedVariables false
set_option linter.unusedSimpArgs false
open Go.RowKit

theorem at_slice1 (T : TypeId) {P : Program} {ops : Array Oper} {Q : Exit → Act → World → Prop} {rest : List Oper} {a : Act} {w : World} {d : Option Tmp} {n : Nat} {ps : Array (Nat × Operand)} {ty : TypeId} {pos : String} {af : Array Edge} {gd : Option (Nat × Bool)}
    (h : wpList P ops Q (⟨d, .buildSlice T n ps, ty, pos, af, gd⟩ :: rest) a w) : wpList P ops Q (⟨d, .buildSlice T n ps, ty, pos, af, gd⟩ :: rest) a w := h
theorem wpList_slice1c {P : Program} {ops : Array Oper} {rest : List Oper} {o : Oper} {a : Act} {w : World} {Q : Exit → Act → World → Prop} (hgd : Region.wanted o (yielded ops a.tmps) = true) (t e : TypeId) (x : Operand) (ho : o.op = .buildSlice t 1 #[(0, x)])
    (B : Array Value) (c : Nat) (hx : a.eval x = .agg B) (hB : B.size = c) (ie : TypeInfo) (z : Value) (hu : P.underlying t = some (.slice e)) (hie : P.info? e = some ie) (hz : ie.zero = some z) (h4 : ie.size = c) (hz4 : z.cells.size = c) (hc : 0 < c) (hc2 : c ≤ 1000)
    (h : wpList P ops Q rest (a.put o.dst (.slice (some ⟨w.heap.size, 0, none⟩) 1 1)) (w.alloc (.cells B e))) : wpList P ops Q (o :: rest) a w :=
  wpList_step fun K hK => by
    rw [if_pos hgd]
    exact op_slice1 t e x ho B c hx hB ie z hu hie hz h4 hz4 hc hc2 (hK _ _ h)
/-- one row more behind the own ones -/
theorem wpList_append_row1 {ops : Array Oper} {rest : List Oper} {o : Oper} {a : Act} {w : World} {Q : Exit → Act → World → Prop} {E S : TypeId} {c : Nat} {X : Array Value} (hgd : o.guard = none) (s x : Operand)
    (ho : o.op = .call { callee := .builtin .append, args := #[s, x], argTypes := #[S, S] }) (hS : Try.prog.underlying S = some (.slice E))
    (hi : ∃ i z, Try.prog.info? E = some i ∧ i.zero = some z ∧ i.size = c ∧ i.bytes ≤ 1000 ∧ z.cells.size = c) (hc : 0 < c) (hX : X.size = c) (hXa : X.all (·.oneCell') = true)
    (base : Nat) (v : Value) (n : Nat) (xs : List Value) (hs : a.eval s = v) (hown : w.ownsRow base E c v n xs) (hx : a.eval x = .slice (some ⟨w.heap.size, 0, none⟩) 1 1) (hn : n ≤ 100000000) (hbase : base ≤ w.heap.size)
    (h : ∀ v' w', w'.ownsRow base E c v' (n + 1) (xs ++ X.toList) → (w.alloc (.cells X E)).grownBy w' v.ownBlock → (∀ q, v.ownBlock = some q → base ≤ q) → wpList Try.prog ops Q rest (a.put o.dst v') w') : wpList Try.prog ops Q (o :: rest) a (w.alloc (.cells X E)) := by
  obtain ⟨i, z, h1, h2, h3, h4, h5⟩ := hi
  have hb := Nat.mul_le_mul (show n + 1 ≤ 100000001 by omega) h4
  refine wpList_append_own (w.alloc (.cells X E)) hgd s x _ ho base _ i z c i.bytes hS h1 h2 h3 rfl h5 hc v n xs hs (hown.alloc _) ⟨w.heap.size, 0, none⟩ 1 1 X.toList hx (by simp [hX]) (fun j u hj => ?_) (fun u hu => ?_) (by unfold maxLen; omega) (by omega) (by simp; omega) ?_
  · have e : (⟨w.heap.size, 0, none⟩ : Addr).add j = ⟨w.heap.size, j, none⟩ := by unfold Addr.add; split <;> simp_all
    rw [e, cellF (heap_alloc_new w (.cells X E))]
    simpa using hj
  · rw [Array.all_eq_true'] at hXa
    exact hXa u (by simpa using hu)
  · exact fun v' w' h6 h7 _ => h v' w' h6 h7 (fun q hq => (hown.lt q hq).1)
end Go.Proofs.Ytmjfbilhalkegaa
