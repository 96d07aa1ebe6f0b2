/- A net and the document's, side by side; a copy, while the first one goes its way. Condition: the nets are alike. -/
import Derived.Test.YtfgcjgabknoamaaPn28
namespace Go.Proofs.Ytfgcjgabknoamaa
set_option linter.unusedVariables false
set_option linter.unusedSimpArgs false
open Go.RowKit

structure NP (w0 w : World) (g gw : Nat) (m : MS) : Prop where
  c : Cn m w g w0.heap.size
  d : Dn m w gw w0.heap.size
  be : Below w0.heap.size w0 w
theorem NP.kept {w0 w w' : World} {g gw : Nat} {m : MS} (h : NP w0 w g gw m) (hb : Below w.heap.size w w') : NP w0 w' g gw m := ⟨h.c.kept hb, h.d.kept hb, below_then h.be hb⟩
/-- the program goes a step ahead -/
structure NM (w0 w : World) (g gw : Nat) (m m' : MS) : Prop where
  c : Cn m' w g w0.heap.size
  d : Dn m w gw w0.heap.size
  be : Below w0.heap.size w0 w
theorem NM.kept {w0 w w' : World} {g gw : Nat} {m m' : MS} (h : NM w0 w g gw m m') (hb : Below w.heap.size w w') : NM w0 w' g gw m m' := ⟨h.c.kept hb, h.d.kept hb, below_then h.be hb⟩
/-- what lies in the round's own block -/
def Opn (bo : Nat) (A : Array Value) (w : World) : Prop := w.heap[bo]? = some (.cells A 50 (0, 0))
theorem Opn.kept {bo : Nat} {A : Array Value} {w w' : World} (h : Opn bo A w) (hb : Below w.heap.size w w') : Opn bo A w' := Ytfgcjgabknoamaa.kept hb h
theorem NP.go {w0 w w' : World} {g gw bo : Nat} {m m' : MS} {A : Array Value} (h : NP w0 w g gw m) (ho : Opn bo A w) (hk : CK g w0.heap.size m' w w') : NM w0 w' g gw m m' ∧ Opn bo A w' :=
  ⟨⟨hk.1, h.d.kp hk.2.2, h.be.trans hk.2.1⟩, hk.2.2 _ _ _ _ ho (by decide) (by decide)⟩
theorem NM.stay {w0 w w' : World} {g gw : Nat} {m m' : MS} (h : NM w0 w g gw m m') (hk : Kd gw w w') : ∀ (q : Nat) (A : Array Value) (t : TypeId) (fr : Nat × Nat), w.heap[q]? = some (Obj.cells A t fr) → t ≠ 48 → w'.heap[q]? = some (Obj.cells A t fr) := by
  obtain ⟨_, _, hd⟩ := h.d
  exact kd_stay hd.row hk
theorem NM.go {w0 w w' : World} {g gw bo : Nat} {m m' : MS} {A : Array Value} (h : NM w0 w g gw m m') (ho : Opn bo A w) (hk : DK gw w0.heap.size m' w w') : NP w0 w' g gw m' ∧ Opn bo A w' :=
  ⟨⟨h.c.kd h.d hk.2.2, hk.1, h.be.trans hk.2.1⟩, h.stay hk.2.2 _ _ _ _ ho (by decide)⟩
/-- the same, where block x holds none of the bytes -/
structure NX (w0 w : World) (g gw x : Nat) (m m' : MS) : Prop where
  c : CnX m' w g w0.heap.size x
  d : DnX m w gw w0.heap.size x
  be : Below w0.heap.size w0 w
theorem NX.kept {w0 w w' : World} {g gw x : Nat} {m m' : MS} (h : NX w0 w g gw x m m') (hb : Below w.heap.size w w') : NX w0 w' g gw x m m' := ⟨h.c.kept hb, h.d.kept hb, below_then h.be hb⟩
theorem NX.np {w0 w : World} {g gw x : Nat} {m : MS} (h : NX w0 w g gw x m m) : NP w0 w g gw m := ⟨h.c.cn, h.d.dn, h.be⟩
theorem NP.x {w0 w : World} {g gw x : Nat} {m : MS} (h : NP w0 w g gw m) (hx : w.heap.size ≤ x) : NX w0 w g gw x m m := ⟨cn_x h.c hx, dn_x h.d hx, h.be⟩
theorem NX.go1 {w0 w w' : World} {g gw x : Nat} {m m' : MS} (h : NX w0 w g gw x m m) (h1 : CnX m' w' g w0.heap.size x) (h2 : Below w0.heap.size w w') (h3 : Kp w w') : NX w0 w' g gw x m m' := ⟨h1, h.d.kp h3, h.be.trans h2⟩
theorem NX.stay {w0 w w' : World} {g gw x : Nat} {m m' : MS} (h : NX w0 w g gw x m m') (hk : Kd gw w w') : ∀ (q : Nat) (A : Array Value) (t : TypeId) (fr : Nat × Nat), w.heap[q]? = some (Obj.cells A t fr) → t ≠ 48 → w'.heap[q]? = some (Obj.cells A t fr) := by
  obtain ⟨_, _, hd, _⟩ := h.d
  exact kd_stay hd.row hk
theorem NX.go2 {w0 w w' : World} {g gw x : Nat} {m m' : MS} (h : NX w0 w g gw x m m') (h1 : DnX m' w' gw w0.heap.size x) (h2 : Below w0.heap.size w w') (h3 : Kd gw w w') : NX w0 w' g gw x m' m' := ⟨h.c.kd h.d.dn h3, h1, h.be.trans h2⟩
theorem NX.over {w0 w w' : World} {g gw x : Nat} {m m' : MS} {A0 : Array Value} {fr0 : Nat × Nat} (h : NX w0 w g gw x m m') (hx : w.heap[x]? = some (.cells A0 5 fr0)) (ho : ∀ i, i ≠ x → w'.heap[i]? = w.heap[i]?) (hb : Below w0.heap.size w w') : NX w0 w' g gw x m m' := ⟨h.c.over hx ho, h.d.over hx ho, h.be.trans hb⟩
/-- a net that goes its own way -/
def OldIs (w : World) (g b l : Nat) : Prop := ∃ k F T Ag S Ln X, NetIs w g b k F T Ag S Ln X ∧ l ≤ k
theorem OldIs.kept {w w' : World} {g b l : Nat} (h : OldIs w g b l) (hb : Below w.heap.size w w') : OldIs w' g b l := by
  obtain ⟨k, F, T, Ag, S, Ln, X, h, hl⟩ := h
  exact ⟨k, F, T, Ag, S, Ln, X, h.kept hb, hl⟩
theorem old_send {w : World} {g b : Nat} (h : OldIs w g b 0) : Calls Try.prog 9 #[.pointer (some ⟨g, 0, none⟩), .agg (m3 55 0 (.slice none 0 0))] w fun e w' => ∃ r : Int, e = .returned (.int .i64 r) ∧ OldIs w' g b 1 ∧ Below b w w' ∧ Kg g w w' := by
  obtain ⟨k, F, T, Ag, S, Ln, X, h, _⟩ := h
  have hlow : b ≤ w.heap.size := by obtain ⟨v, hg, _⟩ := h.row; have := (Array.getElem?_eq_some_iff.1 hg).1; have := h.bg; omega
  by_cases hk : k < 2000
  · exact (send_kg g b k F T Ag S Ln X 55 0 none 0 0 (fun _ => 0) w h (fun i hi => by omega) (fun _ => ⟨rfl, rfl⟩) (by omega) hk).mono fun e w' ⟨⟨s, h1, h2, _⟩, h3, h4⟩ => ⟨0, h1, ⟨_, _, _, _, _, _, _, h2, by omega⟩, h3, h4⟩
  · exact (send_full g b k F T Ag S Ln X 55 0 none 0 0 w h (by omega) (by omega)).mono fun e w' ⟨h1, h2⟩ => ⟨9, h1, ⟨_, _, _, _, _, _, _, h.kept h2, by omega⟩, h2.mono hlow, kg_below h2⟩
theorem old_take {w : World} {g b : Nat} (h : OldIs w g b 1) : Calls Try.prog 13 #[.pointer (some ⟨g, 0, none⟩), .int .i64 0] w fun e w' => ∃ M : Array Value, e = .returned (.tuple #[.agg M, .int .i64 0]) ∧ OldIs w' g b 0 ∧ Below b w w' ∧ Kg g w w' := by
  obtain ⟨k, F, T, Ag, S, Ln, X, h, hk⟩ := h
  exact (take_kg g b k F T Ag S Ln X 0 w h (by omega)).mono fun e w' ⟨h1, h2, _, h3, h4⟩ => ⟨_, h1, ⟨_, _, _, _, _, _, _, h2, by omega⟩, h3, h4⟩
theorem old_tick {w : World} {g b : Nat} (h : OldIs w g b 0) : Calls Try.prog 14 #[.pointer (some ⟨g, 0, none⟩)] w fun e w' => e = .returned (.tuple #[]) ∧ OldIs w' g b 0 ∧ Below b w w' ∧ Kg g w w' := by
  obtain ⟨k, F, T, Ag, S, Ln, X, h, _⟩ := h
  exact (tick_kg g b k F T Ag S Ln X w h).mono fun e w' ⟨h1, h2, h3, h4⟩ => ⟨h1, ⟨_, _, _, _, _, _, _, h2, by omega⟩, h3, h4⟩
/-- a copy, while the first one goes its way -/
structure NT (w0 w : World) (g gw g2 mb l : Nat) (m : MS) : Prop where
  old : OldIs w g w0.heap.size l
  c : Cn m w g2 mb
  d : Dn m w gw w0.heap.size
  be : Below w0.heap.size w0 w
  ne : g ≠ g2
  ap : ∀ v v2, w.heap[g]? = some (.cells #[v] 56 (0, 0)) → w.heap[g2]? = some (.cells #[v2] 56 (0, 0)) → ∀ b, v.ownBlock = some b → v2.ownBlock ≠ some b
  ml : w0.heap.size ≤ mb
theorem tri_new {w0 w w' : World} {g gw g2 : Nat} {m : MS} {S' : Nat → Value} (h : NP w0 w g gw m) (hb : Below w.heap.size w w') (hc : NetIs w' g2 w.heap.size m.k m.F m.T (agR m.now m.At) S' m.Ln m.X) : NT w0 w' g gw g2 w.heap.size 0 m := by
  have h' := h.kept hb
  obtain ⟨S, hN⟩ := h.c
  obtain ⟨v0, hg, hr⟩ := hN.row
  have hgl := (Array.getElem?_eq_some_iff.1 hg).1
  have hbg := hc.bg
  refine ⟨⟨_, _, _, _, _, _, _, hN.kept hb, Nat.zero_le _⟩, ⟨S', hc⟩, h'.d, h'.be, by omega, fun v v2 h1 h2 q e1 e2 => ?_, h.be.size⟩
  obtain rfl := cells1_inj (Ytfgcjgabknoamaa.kept hb hg) h1
  obtain ⟨v3, hg3, hr3⟩ := hc.row
  obtain rfl := cells1_inj hg3 h2
  have a1 := (hr.lt q e1).2
  have a2 := (hr3.lt q e2).1
  omega
theorem NT.kept {w0 w w' : World} {g gw g2 mb l : Nat} {m : MS} (h : NT w0 w g gw g2 mb l m) (hb : Below w.heap.size w w') : NT w0 w' g gw g2 mb l m := by
  refine ⟨h.old.kept hb, h.c.kept hb, h.d.kept hb, below_then h.be hb, h.ne, fun v v2 h1 h2 => ?_, h.ml⟩
  obtain ⟨k, F, T, Ag, S, Ln, X, hN, _⟩ := h.old
  obtain ⟨v0, hg, hr⟩ := hN.row
  obtain ⟨S2, hN2⟩ := h.c
  obtain ⟨v3, hg3, hr3⟩ := hN2.row
  obtain rfl := cells1_inj (Ytfgcjgabknoamaa.kept hb hg) h1
  obtain rfl := cells1_inj (Ytfgcjgabknoamaa.kept hb hg3) h2
  exact h.ap _ _ hg hg3
theorem NT.step {w0 w w' : World} {g gw g2 mb l l' bo : Nat} {m : MS} {A : Array Value} (h : NT w0 w g gw g2 mb l m) (ho : Opn bo A w) (hold : OldIs w' g w0.heap.size l') (hb : Below w0.heap.size w w') (hk : Kg g w w') : NT w0 w' g gw g2 mb l' m ∧ Opn bo A w' := by
  obtain ⟨k, F, T, Ag, S, Ln, X, hN, _⟩ := id h.old
  have hkp := kg_kp hN hk
  obtain ⟨v0, hg, hr⟩ := hN.row
  obtain ⟨q1, v1, hg1, q2⟩ := hk v0 hg
  obtain ⟨S2, hN2⟩ := h.c
  obtain ⟨v3, hg3, hr3⟩ := hN2.row
  have hne := h.ne
  have tg := own_tag hr
  have hg3' : w'.heap[g2]? = some (.cells #[v3] 56 (0, 0)) := (q1 g2 (fun e => hne e.symm) (fun e => by
    obtain ⟨A9, f9, h9⟩ := tg g2 e.symm
    rw [hg3] at h9; injection h9 with h9; injection h9 with _ h9; exact absurd h9 (by decide)) (Array.getElem?_eq_some_iff.1 hg3).1).trans hg3
  refine ⟨⟨hold, ⟨S2, ⟨⟨v3, hg3', own_same hr3 (fun q A e hq => ?_)⟩, fun i hi => (hN2.by_ i hi).apart (fun q A fr hq => (hkp _ _ _ _ hq (by decide) (by decide)).trans hq.symm), hN2.sl, hN2.bg, hN2.ag, hN2.lg, hN2.hk⟩⟩, h.d.kp hkp, h.be.trans hb, hne, fun v v2 h1 h2 b e1 e2 => ?_, h.ml⟩, hkp _ _ _ _ ho (by decide) (by decide)⟩
  · refine (q1 q (fun e2 => ?_) (fun e2 => h.ap _ _ hg hg3 q e2.symm e) (Array.getElem?_eq_some_iff.1 hq).1).trans hq
    subst e2
    rw [hg] at hq; injection hq with hq; injection hq with _ hq; exact absurd hq (by decide)
  · obtain rfl := cells1_inj hg1 h1
    obtain rfl := cells1_inj hg3' h2
    rcases q2 with q2 | ⟨b2, q2, q3⟩
    · exact h.ap _ _ hg hg3 b (q2.symm.trans e1) e2
    · rw [e1] at q2
      cases q2
      have := (hr3.lt b e2).2
      omega
theorem NT.pair {w0 w : World} {g gw g2 mb l : Nat} {m : MS} (h : NT w0 w g gw g2 mb l m) : NP w0 w g2 gw m := by
  obtain ⟨S, hN⟩ := h.c
  obtain ⟨v, hg, hr⟩ := hN.row
  have := h.ml
  have := hN.bg
  exact ⟨⟨S, ⟨⟨v, hg, own_weak hr h.ml⟩, hN.by_, hN.sl, by omega, hN.ag, hN.lg, hN.hk⟩⟩, h.d, h.be⟩
end Go.Proofs.Ytfgcjgabknoamaa
