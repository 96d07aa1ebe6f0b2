/- Two books side by side: a call of one leaves the other. Condition: both are books. -/
import Derived.Test.YtmjfbilhalkegaaMgUncLaw0717
namespace Go.Proofs.Ytmjfbilhalkegaa
set_option linter.unusedVariables false
set_option linter.unusedSimpArgs false
open Go.RowKit Go.Deep

/-- q is a block of the book -/
def Blk (w : World) (g gb gs q : Nat) : Prop := q = g ∨ q = gb ∨ q = gs ∨ ¬ Nb gb q true w ∨ ¬ Nb gs q false w
structure Pair (w : World) (g gb gs base : Nat) (lb ls : List Od) (g2 gb2 gs2 base2 : Nat) (lb2 ls2 : List Od) : Prop where
  a : BkG w g gb gs base lb ls
  b : BkG w g2 gb2 gs2 base2 lb2 ls2
  ap : ∀ q, Blk w g gb gs q → Blk w g2 gb2 gs2 q → False
theorem not_nb {w : World} {g base q : Nat} {b : Bool} {l : List Od} (h : SL w g base b l) (hq : ¬ Nb g q b w) : ∃ v, w.heap[g]? = some (.cells #[.bool true, .bool b, v] 77 (0, 0)) ∧ v.ownBlock = some q := by
  obtain ⟨v, hg, _⟩ := h.s.row
  refine ⟨v, hg, ?_⟩
  by_cases e : v.ownBlock = some q
  · exact e
  · exact absurd (fun v' hv' => by obtain ⟨_, rfl⟩ := side_inj hg hv'; exact e) hq
theorem nb_of {w : World} {g q : Nat} {b : Bool} {v : Value} (hg : w.heap[g]? = some (.cells #[.bool true, .bool b, v] 77 (0, 0))) (hq : v.ownBlock = some q) : ¬ Nb g q b w := fun h => h v hg hq
/-- a side whose blocks stay -/
theorem sl_hold {w w' : World} {g base : Nat} {b : Bool} {l : List Od} (h : SL w g base b l) (hk : ∀ q o, (q = g ∨ ¬ Nb g q b w) → w.heap[q]? = some o → w'.heap[q]? = some o) : SL w' g base b l := by
  obtain ⟨v, hg, hr⟩ := h.s.row
  exact ⟨⟨⟨v, hk _ _ (.inl rfl) hg, own_sameT hr (fun q A e hq => hk _ _ (.inr (nb_of hg e)) hq)⟩, h.s.ord, h.s.bg, h.s.hk⟩, h.ok⟩
/-- a book whose blocks stay -/
theorem bkg_hold {w w' : World} {g gb gs base : Nat} {lb ls : List Od} (h : BkG w g gb gs base lb ls) (hk : ∀ q o, Blk w g gb gs q → w.heap[q]? = some o → w'.heap[q]? = some o) : BkG w' g gb gs base lb ls ∧ ∀ q, Blk w' g gb gs q → Blk w g gb gs q := by
  obtain ⟨vb, e1, _⟩ := h.two.b.s.row
  obtain ⟨vs, e2, _⟩ := h.two.s.s.row
  have f1 := hk _ _ (.inr (.inl rfl)) e1
  have f2 := hk _ _ (.inr (.inr (.inl rfl))) e2
  refine ⟨⟨hk _ _ (.inl rfl) h.row, ⟨sl_hold h.two.b (fun q o hq => hk q o (hq.elim (fun e => .inr (.inl e)) (fun e => .inr (.inr (.inr (.inl e)))))), sl_hold h.two.s (fun q o hq => hk q o (hq.elim (fun e => .inr (.inr (.inl e))) (fun e => .inr (.inr (.inr (.inr e)))))), h.two.ne, fun v1 v2 a1 a2 => ?_⟩, h.bg⟩, fun q hq => ?_⟩
  · obtain ⟨_, rfl⟩ := side_inj f1 a1
    obtain ⟨_, rfl⟩ := side_inj f2 a2
    exact h.two.ap _ _ e1 e2
  · rcases hq with e | e | e | e | e
    · exact .inl e
    · exact .inr (.inl e)
    · exact .inr (.inr (.inl e))
    · exact .inr (.inr (.inr (.inl (fun hn => e (fun v hv => by obtain ⟨_, rfl⟩ := side_inj f1 hv; exact hn _ e1)))))
    · exact .inr (.inr (.inr (.inr (fun hn => e (fun v hv => by obtain ⟨_, rfl⟩ := side_inj f2 hv; exact hn _ e2)))))
theorem Pair.swap {w : World} {g gb gs base : Nat} {lb ls : List Od} {g2 gb2 gs2 base2 : Nat} {lb2 ls2 : List Od} (h : Pair w g gb gs base lb ls g2 gb2 gs2 base2 lb2 ls2) : Pair w g2 gb2 gs2 base2 lb2 ls2 g gb gs base lb ls := ⟨h.b, h.a, fun q h1 h2 => h.ap q h2 h1⟩
theorem blk_lt {w : World} {g gb gs base q : Nat} {lb ls : List Od} (h : BkG w g gb gs base lb ls) (hq : Blk w g gb gs q) : base ≤ q ∧ q < w.heap.size := by
  have hl := bkg_lt h
  have h1 := h.bg
  have h2 := h.two.b.s.bg
  have h3 := h.two.s.s.bg
  obtain ⟨vb, e1, r1⟩ := h.two.b.s.row
  obtain ⟨vs, e2, r2⟩ := h.two.s.s.row
  rcases hq with e | e | e | e | e
  · omega
  · omega
  · omega
  · obtain ⟨v, f1, f2⟩ := not_nb h.two.b e
    obtain ⟨_, rfl⟩ := side_inj e1 f1
    exact r1.lt q f2
  · obtain ⟨v, f1, f2⟩ := not_nb h.two.s e
    obtain ⟨_, rfl⟩ := side_inj e2 f1
    exact r2.lt q f2
/-- a call of the first -/
theorem Pair.one {w w' : World} {g gb gs base : Nat} {lb ls la lc : List Od} {g2 gb2 gs2 base2 : Nat} {lb2 ls2 : List Od} (h : Pair w g gb gs base lb ls g2 gb2 gs2 base2 lb2 ls2) (hs : BkS w w' g gb gs base la lc) : Pair w' g gb gs base la lc g2 gb2 gs2 base2 lb2 ls2 := by
  have out : ∀ q, Blk w g2 gb2 gs2 q → q ≠ g ∧ q ≠ gb ∧ q ≠ gs ∧ Nb gb q true w ∧ Nb gs q false w := fun q hq => by
    have hn := fun e => h.ap q e hq
    refine ⟨fun e => hn (.inl e), fun e => hn (.inr (.inl e)), fun e => hn (.inr (.inr (.inl e))), ?_, ?_⟩
    · by_cases e : Nb gb q true w
      · exact e
      · exact absurd (.inr (.inr (.inr (.inl e)))) hn
    · by_cases e : Nb gs q false w
      · exact e
      · exact absurd (.inr (.inr (.inr (.inr e)))) hn
  have keep : ∀ q o, Blk w g2 gb2 gs2 q → w.heap[q]? = some o → w'.heap[q]? = some o ∧ Nb gb q true w' ∧ Nb gs q false w' := fun q o hq ho => by
    obtain ⟨_, a2, a3, a4, a5⟩ := out q hq
    exact hs.fr q o (Array.getElem?_eq_some_iff.1 ho).1 ho a2 a3 a4 a5
  obtain ⟨q1, q2⟩ := bkg_hold h.b (fun q o hq ho => (keep q o hq ho).1)
  refine ⟨hs.bk, q1, fun q e1 e2 => ?_⟩
  have hq := q2 q e2
  obtain ⟨a1, a2, a3, _, _⟩ := out q hq
  have hlt := (blk_lt h.b hq).2
  obtain ⟨_, n1, n2⟩ := keep q _ hq (Array.getElem?_eq_getElem hlt)
  rcases e1 with e | e | e | e | e
  · exact a1 e
  · exact a2 e
  · exact a3 e
  · exact e n1
  · exact e n2
theorem Pair.two {w w' : World} {g gb gs base : Nat} {lb ls la lc : List Od} {g2 gb2 gs2 base2 : Nat} {lb2 ls2 : List Od} (h : Pair w g gb gs base lb ls g2 gb2 gs2 base2 lb2 ls2) (hs : BkS w w' g2 gb2 gs2 base2 la lc) : Pair w' g gb gs base lb ls g2 gb2 gs2 base2 la lc := (h.swap.one hs).swap
theorem Pair.below {w w' : World} {g gb gs base : Nat} {lb ls : List Od} {g2 gb2 gs2 base2 : Nat} {lb2 ls2 : List Od} (h : Pair w g gb gs base lb ls g2 gb2 gs2 base2 lb2 ls2) (hb : Below w.heap.size w w') : Pair w' g gb gs base lb ls g2 gb2 gs2 base2 lb2 ls2 := h.one (bks_same h.a hb)
/-- a book that was made behind the other one -/
theorem pair_new {w w' : World} {g gb gs base : Nat} {lb ls : List Od} {g2 gb2 gs2 base2 : Nat} {lb2 ls2 : List Od} (h : BkG w g gb gs base lb ls) (hb : Below w.heap.size w w') (h2 : BkG w' g2 gb2 gs2 base2 lb2 ls2) (hs : w.heap.size ≤ base2) : Pair w' g gb gs base lb ls g2 gb2 gs2 base2 lb2 ls2 := by
  obtain ⟨q1, q2⟩ := bkg_hold (w' := w') h (fun q o _ ho => Ytmjfbilhalkegaa.kept hb ho)
  refine ⟨q1, h2, fun q e1 e2 => ?_⟩
  have := (blk_lt h (q2 q e1)).2
  have := (blk_lt h2 e2).1
  omega
end Go.Proofs.Ytmjfbilhalkegaa
