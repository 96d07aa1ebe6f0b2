/- Each call of a net answers as the document's does. Condition: the nets are alike. -/
import Derived.Test.YtfgcjgabknoamaaOw28
import Derived.Test.YtfgcjgabknoamaaRk28
import Derived.Test.YtfgcjgabknoamaaPg28
import Derived.Test.YtfgcjgabknoamaaCp28
import Derived.Test.YtfgcjgabknoamaaTickG
import Derived.Test.YtfgcjgabknoamaaTakeG
import Derived.Test.YtfgcjgabknoamaaTwice28
import Derived.Test.YtfgcjgabknoamaaTakeO28
namespace Go.Proofs.Ytfgcjgabknoamaa
set_option linter.unusedVariables false
set_option linter.unusedSimpArgs false
open Go.RowKit

/-- the mails of a net -/
structure MS where
  k : Nat
  now : Int
  F : Nat → Int
  T : Nat → Int
  At : Nat → Int
  Ln : Nat → Nat
  X : Nat → Nat → Int
def Cn (m : MS) (w : World) (g b : Nat) : Prop := ∃ S, NetIs w g b m.k m.F m.T (agR m.now m.At) S m.Ln m.X
def Dn (m : MS) (w : World) (g b : Nat) : Prop := ∃ S v, RNet w g b m.k m.now m.F m.T m.At S m.Ln m.X v
/-- none of the bytes lies in block x -/
def CnX (m : MS) (w : World) (g b x : Nat) : Prop := ∃ S, NetIs w g b m.k m.F m.T (agR m.now m.At) S m.Ln m.X ∧ ∀ j, j < m.k → (S j).ownBlock ≠ some x
def DnX (m : MS) (w : World) (g b x : Nat) : Prop := ∃ S v, RNet w g b m.k m.now m.F m.T m.At S m.Ln m.X v ∧ ∀ j, j < m.k → (S j).ownBlock ≠ some x
theorem CnX.cn {m : MS} {w : World} {g b x : Nat} (h : CnX m w g b x) : Cn m w g b := by obtain ⟨S, h, _⟩ := h; exact ⟨S, h⟩
theorem DnX.dn {m : MS} {w : World} {g b x : Nat} (h : DnX m w g b x) : Dn m w g b := by obtain ⟨S, v, h, _⟩ := h; exact ⟨S, v, h⟩
theorem Cn.kept {m : MS} {w w' : World} {g b : Nat} (h : Cn m w g b) (hb : Below w.heap.size w w') : Cn m w' g b := by obtain ⟨S, h⟩ := h; exact ⟨S, h.kept hb⟩
theorem Dn.kept {m : MS} {w w' : World} {g b : Nat} (h : Dn m w g b) (hb : Below w.heap.size w w') : Dn m w' g b := by obtain ⟨S, v, h⟩ := h; exact ⟨S, v, h.kept hb⟩
theorem CnX.kept {m : MS} {w w' : World} {g b x : Nat} (h : CnX m w g b x) (hb : Below w.heap.size w w') : CnX m w' g b x := by obtain ⟨S, h, h2⟩ := h; exact ⟨S, h.kept hb, h2⟩
theorem DnX.kept {m : MS} {w w' : World} {g b x : Nat} (h : DnX m w g b x) (hb : Below w.heap.size w w') : DnX m w' g b x := by obtain ⟨S, v, h, h2⟩ := h; exact ⟨S, v, h.kept hb, h2⟩
theorem BytT.lt {w : World} {v : Value} {n : Nat} {X : Nat → Int} (h : BytT w v n X) : ∀ q, v.ownBlock = some q → q < w.heap.size := fun q e => by
  obtain ⟨a, c, rfl, _, _, _, rfl | ⟨g, A, fr, rfl, hg, _⟩⟩ := h
  · cases e
  · cases e; exact (Array.getElem?_eq_some_iff.1 hg).1
theorem cn_x {m : MS} {w : World} {g b x : Nat} (h : Cn m w g b) (hx : w.heap.size ≤ x) : CnX m w g b x := by
  obtain ⟨S, h⟩ := h
  exact ⟨S, h, fun j hj e => by have := (h.by_ j hj).lt _ e; omega⟩
theorem dn_x {m : MS} {w : World} {g b x : Nat} (h : Dn m w g b) (hx : w.heap.size ≤ x) : DnX m w g b x := by
  obtain ⟨S, v, h⟩ := h
  exact ⟨S, v, h, fun j hj e => by have := (h.by_ j hj).lt _ e; omega⟩
theorem own_same {w w' : World} {base n c : Nat} {e : TypeId} {v : Value} {xs : List Value} (h : w.ownsRow base e c v n xs) (hs : ∀ (g : Nat) (A : Array Value), v.ownBlock = some g → w.heap[g]? = some (.cells A e (0, 0)) → w'.heap[g]? = some (.cells A e (0, 0))) : w'.ownsRow base e c v n xs := by
  obtain ⟨a1, a2 | ⟨gx, cap, cur, p1, p2, p3, p4'⟩⟩ := h
  · exact ⟨a1, .inl a2⟩
  · exact ⟨a1, .inr ⟨gx, cap, cur, p1, p2, hs gx _ (by rw [p1]; rfl) p3, p4'⟩⟩
/-- what every block of cells of other types keeps: the document's net at the program's step -/
theorem Dn.kp {m : MS} {w w' : World} {g b : Nat} (h : Dn m w g b) (hk : Kp w w') : Dn m w' g b := by
  obtain ⟨S, v, h⟩ := h
  exact ⟨S, v, hk _ _ _ _ h.row (by decide) (by decide), own_same h.own (fun q A _ hq => hk _ _ _ _ hq (by decide) (by decide)), fun i hi => (h.by_ i hi).apart (fun q A fr hq => (hk _ _ _ _ hq (by decide) (by decide)).trans hq.symm), h.sl, h.bg, h.at_, h.hn, h.lg, h.hk⟩
theorem DnX.kp {m : MS} {w w' : World} {g b x : Nat} (h : DnX m w g b x) (hk : Kp w w') : DnX m w' g b x := by
  obtain ⟨S, v, h, hx⟩ := h
  exact ⟨S, v, ⟨hk _ _ _ _ h.row (by decide) (by decide), own_same h.own (fun q A _ hq => hk _ _ _ _ hq (by decide) (by decide)), fun i hi => (h.by_ i hi).apart (fun q A fr hq => (hk _ _ _ _ hq (by decide) (by decide)).trans hq.symm), h.sl, h.bg, h.at_, h.hn, h.lg, h.hk⟩, hx⟩
/-- the program's net, where blocks of its types and of bytes stay -/
theorem net_stay {w w' : World} {g b k : Nat} {F T Ag : Nat → Int} {S : Nat → Value} {Ln : Nat → Nat} {X : Nat → Nat → Int} (h : NetIs w g b k F T Ag S Ln X) (hs : ∀ (q : Nat) (A : Array Value) (t : TypeId) (fr : Nat × Nat), w.heap[q]? = some (Obj.cells A t fr) → (t = 56 ∨ t = 60 ∨ t = 5) → w'.heap[q]? = some (Obj.cells A t fr)) : NetIs w' g b k F T Ag S Ln X := by
  obtain ⟨v, hg, hr⟩ := h.row
  exact ⟨⟨v, hs _ _ _ _ hg (.inl rfl), own_same hr (fun q A _ hq => hs _ _ _ _ hq (.inr (.inl rfl)))⟩, fun i hi => (h.by_ i hi).apart (fun q A fr hq => (hs _ _ _ _ hq (.inr (.inr rfl))).trans hq.symm), h.sl, h.bg, h.ag, h.lg, h.hk⟩
theorem kd_stay {w w' : World} {gw : Nat} {A0 : Array Value} {fr0 : Nat × Nat} (h0 : w.heap[gw]? = some (.cells A0 48 fr0)) (hk : Kd gw w w') : ∀ (q : Nat) (A : Array Value) (t : TypeId) (fr : Nat × Nat), w.heap[q]? = some (Obj.cells A t fr) → t ≠ 48 → w'.heap[q]? = some (Obj.cells A t fr) := fun q A t fr hq ht =>
  (hk q (fun e => by subst e; rw [h0] at hq; injection hq with hq; injection hq with _ hq; exact ht hq.symm) (Array.getElem?_eq_some_iff.1 hq).1).trans hq
theorem Cn.kd {m m' : MS} {w w' : World} {g gw b b' : Nat} (h : Cn m w g b) (hd : Dn m' w gw b') (hk : Kd gw w w') : Cn m w' g b := by
  obtain ⟨S, h⟩ := h
  obtain ⟨_, _, hd⟩ := hd
  exact ⟨S, net_stay h (fun q A t fr hq ht => kd_stay hd.row hk q A t fr hq (by rcases ht with rfl | rfl | rfl <;> decide))⟩
theorem CnX.kd {m m' : MS} {w w' : World} {g gw b b' x : Nat} (h : CnX m w g b x) (hd : Dn m' w gw b') (hk : Kd gw w w') : CnX m w' g b x := by
  obtain ⟨S, h, hx⟩ := h
  obtain ⟨_, _, hd⟩ := hd
  exact ⟨S, net_stay h (fun q A t fr hq ht => kd_stay hd.row hk q A t fr hq (by rcases ht with rfl | rfl | rfl <;> decide)), hx⟩
/-- block x, of bytes, is written over -/
theorem CnX.over {m : MS} {w w' : World} {g b x : Nat} {A0 : Array Value} {fr0 : Nat × Nat} (h : CnX m w g b x) (hx : w.heap[x]? = some (.cells A0 5 fr0)) (ho : ∀ i, i ≠ x → w'.heap[i]? = w.heap[i]?) : CnX m w' g b x := by
  obtain ⟨S, h, hS⟩ := h
  obtain ⟨v, hg, hr⟩ := h.row
  have ne : ∀ (q : Nat) (A : Array Value) (t : TypeId) (fr : Nat × Nat), w.heap[q]? = some (Obj.cells A t fr) → t ≠ 5 → q ≠ x := fun q A t fr hq ht e => by subst e; rw [hx] at hq; injection hq with hq; injection hq with _ hq; exact ht hq.symm
  refine ⟨S, ⟨⟨v, (ho _ (ne _ _ _ _ hg (by decide))).trans hg, own_same hr (fun q A _ hq => (ho _ (ne _ _ _ _ hq (by decide))).trans hq)⟩, fun i hi => ?_, h.sl, h.bg, h.ag, h.lg, h.hk⟩, hS⟩
  obtain ⟨a, c, h1, h2, h3, h4, h5⟩ := h.by_ i hi
  refine ⟨a, c, h1, h2, h3, h4, ?_⟩
  rcases h5 with h5 | ⟨q, A, fr, h5, h6, h7⟩
  · exact .inl h5
  · exact .inr ⟨q, A, fr, h5, (ho q (fun e => hS i hi (by rw [h1, h5, e]; rfl))).trans h6, h7⟩
theorem DnX.over {m : MS} {w w' : World} {g b x : Nat} {A0 : Array Value} {fr0 : Nat × Nat} (h : DnX m w g b x) (hx : w.heap[x]? = some (.cells A0 5 fr0)) (ho : ∀ i, i ≠ x → w'.heap[i]? = w.heap[i]?) : DnX m w' g b x := by
  obtain ⟨S, v, h, hS⟩ := h
  have ne : ∀ (q : Nat) (A : Array Value) (t : TypeId) (fr : Nat × Nat), w.heap[q]? = some (Obj.cells A t fr) → t ≠ 5 → q ≠ x := fun q A t fr hq ht e => by subst e; rw [hx] at hq; injection hq with hq; injection hq with _ hq; exact ht hq.symm
  refine ⟨S, v, ⟨(ho _ (ne _ _ _ _ h.row (by decide))).trans h.row, own_same h.own (fun q A _ hq => (ho _ (ne _ _ _ _ hq (by decide))).trans hq), fun i hi => ?_, h.sl, h.bg, h.at_, h.hn, h.lg, h.hk⟩, hS⟩
  obtain ⟨a, c, h1, h2, h3, h4, h5⟩ := h.by_ i hi
  refine ⟨a, c, h1, h2, h3, h4, ?_⟩
  rcases h5 with h5 | ⟨q, A, fr, h5, h6, h7⟩
  · exact .inl h5
  · exact .inr ⟨q, A, fr, h5, (ho q (fun e => hS i hi (by rw [h1, h5, e]; rfl))).trans h6, h7⟩
/-- what a call of the program's, of the document's, leaves -/
def CK (g b : Nat) (m : MS) (w w' : World) : Prop := Cn m w' g b ∧ Below b w w' ∧ Kp w w'
def DK (g b : Nat) (m : MS) (w w' : World) : Prop := Dn m w' g b ∧ Below b w w' ∧ Kd g w w'
theorem cn_low {m : MS} {w : World} {g b : Nat} (h : Cn m w g b) : b ≤ w.heap.size := by
  obtain ⟨S, h⟩ := h
  obtain ⟨v, hg, _⟩ := h.row
  have := (Array.getElem?_eq_some_iff.1 hg).1; have := h.bg; omega
theorem dn_low {m : MS} {w : World} {g b : Nat} (h : Dn m w g b) : b ≤ w.heap.size := by
  obtain ⟨S, v, h⟩ := h
  have := (Array.getElem?_eq_some_iff.1 h.row).1; have := h.bg; omega
theorem ck_same {m : MS} {w w' : World} {g b : Nat} (h : Cn m w g b) (hb : Below w.heap.size w w') : CK g b m w w' := ⟨h.kept hb, hb.mono (cn_low h), Kp.below hb⟩
theorem dk_same {m : MS} {w w' : World} {g b : Nat} (h : Dn m w g b) (hb : Below w.heap.size w w') : DK g b m w w' := ⟨h.kept hb, hb.mono (dn_low h), kd_below hb⟩
theorem bytT_nil (w : World) (X : Nat → Int) : BytT w (.slice none 0 0) 0 X := ⟨none, 0, rfl, by omega, by omega, fun _ => ⟨rfl, rfl⟩, .inl rfl⟩
theorem sk_ag (now : Int) (At : Nat → Int) (i : Nat) : sk (agR now At) i = agR now (sk At i) := funext fun j => by unfold agR sk; split <;> rfl
theorem up_ag (now : Int) (At : Nat → Int) (k : Nat) : (fun j => if j = k then (0 : Int) else agR now At j) = agR now (fun j => if j = k then now else At j) := funext fun j => by
  unfold agR
  by_cases e : j = k
  · simp only [e, if_true]; omega
  · simp only [e, if_false]
/-- the place that an int names -/
theorem place (i : Int) (k : Nat) : (¬ (0 ≤ i ∧ i < k)) ∨ ∃ j : Nat, i = j ∧ j < k := by
  by_cases h : 0 ≤ i ∧ i < k
  · exact .inr ⟨i.toNat, by omega, by omega⟩
  · exact .inl h
theorem both_take (m : MS) (i : Int) : ∃ (f t r : Int) (n : Nat) (Y : Nat → Int) (m' : MS), m'.now = m.now ∧
    (∀ w g b, Cn m w g b → Calls Try.prog 13 #[.pointer (some ⟨g, 0, none⟩), .int .i64 i] w fun e w' => ∃ s, e = .returned (.tuple #[.agg (m3 f t s), .int .i64 r]) ∧ BytT w' s n Y ∧ CK g b m' w w') ∧
    (∀ w g b, Dn m w g b → Calls Try.prog 18 #[.pointer (some ⟨g, 0, none⟩), .int .i64 i] w fun e w' => ∃ s, e = .returned (.tuple #[.agg (m3 f t s), .int .i64 r]) ∧ BytT w' s n Y ∧ DK g b m' w w') := by
  rcases place i m.k with hi | ⟨j, rfl, hj⟩
  · refine ⟨0, 0, 7, 0, fun _ => 0, m, rfl, fun w g b h => ?_, fun w g b h => ?_⟩
    · obtain ⟨S, hN⟩ := id h
      exact (take_out g b _ _ _ _ _ _ _ i w hN hi).mono fun e w' ⟨h1, h2⟩ => ⟨_, h1, bytT_nil _ _, ck_same h h2⟩
    · obtain ⟨S, v, hN⟩ := id h
      exact (rtake_out i hN hi).mono fun e w' ⟨h1, h2⟩ => ⟨_, h1, bytT_nil _ _, dk_same h h2⟩
  · refine ⟨m.F j, m.T j, 0, m.Ln j, m.X j, ⟨m.k - 1, m.now, sk m.F j, sk m.T j, sk m.At j, sk m.Ln j, sk m.X j⟩, rfl, fun w g b h => ?_, fun w g b h => ?_⟩
    · obtain ⟨S, hN⟩ := h
      exact (take_kg g b _ _ _ _ _ _ _ j w hN hj).mono fun e w' ⟨h1, h2, h3, h4, h5⟩ => ⟨_, h1, h3, (by rw [sk_ag] at h2; exact ⟨_, h2⟩), h4, kg_kp hN h5⟩
    · obtain ⟨S, v, hN⟩ := h
      exact (rtake_in j hN hj).mono fun e w' ⟨v', h1, h2, h3, h4, h5, _⟩ => ⟨_, h1, h3, ⟨_, _, h2⟩, h4, h5⟩
theorem both_twice (m : MS) (i : Int) : ∃ (r : Int) (m' : MS), m'.now = m.now ∧
    (∀ w g b, Cn m w g b → Calls Try.prog 10 #[.pointer (some ⟨g, 0, none⟩), .int .i64 i] w fun e w' => e = .returned (.int .i64 r) ∧ CK g b m' w w') ∧
    (∀ w g b, Dn m w g b → Calls Try.prog 20 #[.pointer (some ⟨g, 0, none⟩), .int .i64 i] w fun e w' => e = .returned (.int .i64 r) ∧ DK g b m' w w') := by
  rcases place i m.k with hi | ⟨j, rfl, hj⟩
  · refine ⟨7, m, rfl, fun w g b h => ?_, fun w g b h => ?_⟩
    · obtain ⟨S, hN⟩ := id h
      exact (twice_out g b _ _ _ _ _ _ _ i w hN hi).mono fun e w' ⟨h1, h2⟩ => ⟨h1, by subst h2; exact ck_same h (Below.refl _ _)⟩
    · obtain ⟨S, v, hN⟩ := id h
      exact (rtwice_out i hN hi).mono fun e w' ⟨h1, h2⟩ => ⟨h1, by subst h2; exact dk_same h (Below.refl _ _)⟩
  · by_cases hk : m.k < 2000
    · refine ⟨0, ⟨m.k + 1, m.now, fun l => if l = m.k then m.F j else m.F l, fun l => if l = m.k then m.T j else m.T l, fun l => if l = m.k then m.now else m.At l, fun l => if l = m.k then m.Ln j else m.Ln l, fun l => if l = m.k then m.X j else m.X l⟩, rfl, fun w g b h => ?_, fun w g b h => ?_⟩
      · obtain ⟨S, hN⟩ := h
        exact (twice_in g b _ _ _ _ _ _ _ j w hN hj hk).mono fun e w' ⟨⟨s, h1, h2, _⟩, h3, h4⟩ => ⟨h1, (by rw [up_ag] at h2; exact ⟨_, h2⟩), h3, kg_kp hN h4⟩
      · obtain ⟨S, v, hN⟩ := h
        exact (rtwice_in j hN hj hk).mono fun e w' ⟨s, v', h1, h2, h3, h4, _⟩ => ⟨h1, ⟨_, _, h2⟩, h3, h4⟩
    · refine ⟨9, m, rfl, fun w g b h => ?_, fun w g b h => ?_⟩
      · obtain ⟨S, hN⟩ := id h
        exact (twice_full g b _ _ _ _ _ _ _ j w hN hj (by omega)).mono fun e w' ⟨h1, h2⟩ => ⟨h1, ck_same h h2⟩
      · obtain ⟨S, v, hN⟩ := id h
        exact (rtwice_full j hN hj (by omega)).mono fun e w' ⟨h1, h2⟩ => ⟨h1, dk_same h h2⟩
theorem both_send (m : MS) (f t : Int) (n : Nat) (Y : Nat → Int) : ∃ (r : Int) (m' : MS), m'.now = m.now ∧
    (∀ w g b x a c, CnX m w g b x → x < w.heap.size → Byt w a n Y → (a = none → n = 0 ∧ c = 0) → Calls Try.prog 9 #[.pointer (some ⟨g, 0, none⟩), .agg (m3 f t (.slice a n c))] w fun e w' => e = .returned (.int .i64 r) ∧ CnX m' w' g b x ∧ Below b w w' ∧ Kp w w') ∧
    (∀ w g b x a c, DnX m w g b x → x < w.heap.size → Byt w a n Y → (a = none → n = 0 ∧ c = 0) → Calls Try.prog 17 #[.pointer (some ⟨g, 0, none⟩), .agg (m3 f t (.slice a n c))] w fun e w' => e = .returned (.int .i64 r) ∧ DnX m' w' g b x ∧ Below b w w' ∧ Kd g w w') := by
  by_cases hn : n ≤ 1048576
  · by_cases hk : m.k < 2000
    · refine ⟨0, ⟨m.k + 1, m.now, fun l => if l = m.k then f else m.F l, fun l => if l = m.k then t else m.T l, fun l => if l = m.k then m.now else m.At l, fun l => if l = m.k then n else m.Ln l, fun l => if l = m.k then Y else m.X l⟩, rfl, fun w g b x a c h hx hY hz => ?_, fun w g b x a c h hx hY hz => ?_⟩
      · obtain ⟨S, hN, hS⟩ := h
        refine (send_kg g b _ _ _ _ _ _ _ f t a n c Y w hN hY hz hn hk).mono fun e w' ⟨⟨s, h1, h2, hf⟩, h3, h4⟩ => ⟨h1, ?_, h3, kg_kp hN h4⟩
        rw [up_ag] at h2
        refine ⟨_, h2, fun j hj => ?_⟩
        by_cases e : j = m.k
        · rw [if_pos e]; intro e2; have := hf _ e2; omega
        · rw [if_neg e]; exact hS j (by have hj : j < m.k + 1 := hj; omega)
      · obtain ⟨S, v, hN, hS⟩ := h
        refine (rsend_ok f t a n c Y hN hY hz hn hk).mono fun e w' ⟨s, v', h1, h2, h3, h4, _, hf⟩ => ⟨h1, ⟨_, _, h2, fun j hj => ?_⟩, h3, h4⟩
        by_cases e : j = m.k
        · rw [if_pos e]; intro e2; have := hf _ e2; omega
        · rw [if_neg e]; exact hS j (by have hj : j < m.k + 1 := hj; omega)
    · refine ⟨9, m, rfl, fun w g b x a c h hx hY hz => ?_, fun w g b x a c h hx hY hz => ?_⟩
      · have hc := ck_same (w' := w) h.cn (Below.refl _ _)
        obtain ⟨S, hN, hS⟩ := id h
        exact (send_full g b _ _ _ _ _ _ _ f t a n c w hN hn (by omega)).mono fun e w' ⟨h1, h2⟩ => ⟨h1, h.kept h2, h2.mono (cn_low h.cn), Kp.below h2⟩
      · obtain ⟨S, v, hN, hS⟩ := id h
        exact (rsend_full f t a n c hN hn (by omega)).mono fun e w' ⟨h1, h2⟩ => ⟨h1, h.kept h2, h2.mono (dn_low h.dn), kd_below h2⟩
  · refine ⟨3, m, rfl, fun w g b x a c h hx hY hz => ?_, fun w g b x a c h hx hY hz => ?_⟩
    · obtain ⟨S, hN, hS⟩ := id h
      exact (send_long g b _ _ _ _ _ _ _ f t a n c w hN (by omega)).mono fun e w' ⟨h1, h2⟩ => ⟨h1, h.kept h2, h2.mono (cn_low h.cn), Kp.below h2⟩
    · obtain ⟨S, v, hN, hS⟩ := id h
      exact (rsend_long f t a n c hN (by omega)).mono fun e w' ⟨h1, h2⟩ => ⟨h1, h.kept h2, h2.mono (dn_low h.dn), kd_below h2⟩
theorem both_due (m : MS) (x : Int) : ∃ (p r : Int),
    (∀ w g b, Cn m w g b → Calls Try.prog 12 #[.pointer (some ⟨g, 0, none⟩), .int .u64 x] w fun e w' => e = .returned (.tuple #[.int .i64 p, .int .i64 r]) ∧ Below w.heap.size w w') ∧
    (∀ w g b, Dn m w g b → Calls Try.prog 21 #[.pointer (some ⟨g, 0, none⟩), .int .u64 x] w fun e w' => e = .returned (.tuple #[.int .i64 p, .int .i64 r]) ∧ Below w.heap.size w w') :=
  ⟨_, _, fun w g b ⟨S, hN⟩ => due_any g b _ _ _ _ _ _ _ x w hN, fun w g b ⟨S, v, hN⟩ => rdue_net x hN⟩
theorem both_purge (m : MS) (who : Int) : ∃ (r : Int) (m' : MS), m'.now = m.now ∧
    (∀ w g b, Cn m w g b → Calls Try.prog 22 #[.pointer (some ⟨g, 0, none⟩), .int .i64 who] w fun e w' => e = .returned (.int .i64 r) ∧ CK g b m' w w') ∧
    (∀ w g b, Dn m w g b → Calls Try.prog 23 #[.pointer (some ⟨g, 0, none⟩), .int .i64 who] w fun e w' => e = .returned (.int .i64 r) ∧ DK g b m' w w') :=
  ⟨(m.k : Int) - kn (kpB who m.F m.T) m.k, ⟨kn (kpB who m.F m.T) m.k, m.now, fun r => m.F (ka (kpB who m.F m.T) m.k r), fun r => m.T (ka (kpB who m.F m.T) m.k r), fun r => m.At (ka (kpB who m.F m.T) m.k r), fun r => m.Ln (ka (kpB who m.F m.T) m.k r), fun r => m.X (ka (kpB who m.F m.T) m.k r)⟩, rfl,
    fun w g b ⟨S, hN⟩ => (purge_any g b _ _ _ _ _ _ _ who w hN).mono fun e w' ⟨h1, h2, h3, h4⟩ => ⟨h1, ⟨_, h2⟩, h3, h4⟩,
    fun w g b ⟨S, v, hN⟩ => (rpurge_any who hN).mono fun e w' ⟨h1, v', h2, h3, h4, _⟩ => ⟨h1, ⟨_, _, h2⟩, h3, h4⟩⟩
theorem net_ag {w : World} {g b k : Nat} {F T Ag Ag' : Nat → Int} {S : Nat → Value} {Ln : Nat → Nat} {X : Nat → Nat → Int} (h : NetIs w g b k F T Ag S Ln X) (e : ∀ i, i < k → Ag i = Ag' i) : NetIs w g b k F T Ag' S Ln X := by
  obtain ⟨v, hg, hr⟩ := h.row
  refine ⟨⟨v, hg, ?_⟩, h.by_, h.sl, h.bg, fun i hi => by rw [← e i hi]; exact h.ag i hi, h.lg, h.hk⟩
  rw [flat_congr (L' := fun i => p4 (F i) (T i) (S i) (Ag i)) k (fun i hi => by rw [e i hi])]
  exact hr
def tickM (m : MS) : MS := { m with now := m.now + 1 }
theorem tick_c (m : MS) (w : World) (g gw b b' : Nat) (h : Cn m w g b) (hd : Dn m w gw b') (hn : m.now ≤ 1000) : Calls Try.prog 14 #[.pointer (some ⟨g, 0, none⟩)] w fun e w' => e = .returned (.tuple #[]) ∧ CK g b (tickM m) w w' := by
  obtain ⟨S, hN⟩ := h
  obtain ⟨_, _, hR⟩ := hd
  refine (tick_kg g b _ _ _ _ _ _ _ w hN).mono fun e w' ⟨h1, h2, h3, h4⟩ => ⟨h1, ⟨S, net_ag h2 (fun i hi => ?_)⟩, h3, kg_kp hN h4⟩
  have := hR.at_ i hi
  unfold tk agR tickM
  show (if m.now - m.At i < 18446744073709551615 then m.now - m.At i + 1 else m.now - m.At i) = m.now + 1 - m.At i
  rw [if_pos (by omega)]
  omega
/-- the document's clock -/
theorem tick_d {m : MS} {w : World} {gw b : Nat} (h : Dn m w gw b) (hn : m.now ≤ 1000) : (∃ v, w.heap[gw]? = some (.cells #[v, .int .u64 m.now] 48 (0, 0))) ∧ DK gw b (tickM m) w (w.setCell ⟨gw, 1, none⟩ (.int .u64 (m.now + 1))) := by
  obtain ⟨S, v, hR⟩ := h
  have hgl := (Array.getElem?_eq_some_iff.1 hR.row).1
  have hbg := hR.bg
  refine ⟨⟨v, hR.row⟩, ⟨S, v, heap_set (i := 1) hR.row, ownsRow_setCell_other hR.own (fun e => ?_) _, fun i hi => (hR.by_ i hi).set hR.row (by decide), hR.sl, hbg, fun i hi => ?_, ?_, hR.lg, hR.hk⟩, below_set (Below.refl _ _) hbg, fun i hi _ => heap_setCell_other w ⟨gw, 1, none⟩ i _ hi⟩
  · obtain ⟨A9, f9, h9⟩ := own_tag hR.own _ e
    rw [show w.heap[(⟨gw, 1, none⟩ : Addr).block]? = w.heap[gw]? from rfl, hR.row] at h9
    injection h9 with h9; injection h9 with _ h9; exact absurd h9 (by decide)
  · have := hR.at_ i hi
    show 0 ≤ m.At i ∧ m.At i ≤ m.now + 1
    omega
  · have := hR.hn
    show 0 ≤ m.now + 1 ∧ m.now + 1 ≤ 18446744073709551615
    omega
end Go.Proofs.Ytfgcjgabknoamaa
