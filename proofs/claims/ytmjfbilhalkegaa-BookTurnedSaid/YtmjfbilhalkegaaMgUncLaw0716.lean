/- Texts that UncLaw07 stands on, one behind the other, part 16. Conditions: each theorem names its own. -/
import Derived.Test.YtmjfbilhalkegaaMgUncLaw0715
/-! Mass of a book that is there, walked. Condition: the book is one. -/
namespace Go.Proofs.Ytmjfbilhalkegaa
set_option linter.unusedVariables false
set_option linter.unusedSimpArgs false
open Go.RowKit Go.Shelf Go.Deep
attribute [local go_sem] Oper.semAt_some

/-- whether an order goes -/
def mas (a : Int) (o : Od) : Bool := decide (a = 0) || decide (o.a = a)
/-- the lists behind the first j rounds -/
def msS (a : Int) (L lb ls : List Od) : Nat → List Od × List Od
  | 0 => (lb, ls)
  | j + 1 => if mas a (od L j) then (cnlB (od L j).n (msS a L lb ls j).1, cnlS (od L j).n (msS a L lb ls j).1 (msS a L lb ls j).2) else msS a L lb ls j
theorem msS_yes {a : Int} {L lb ls : List Od} {j : Nat} (h : mas a (od L j) = true) : msS a L lb ls (j + 1) = (cnlB (od L j).n (msS a L lb ls j).1, cnlS (od L j).n (msS a L lb ls j).1 (msS a L lb ls j).2) := by
  show (if mas a (od L j) then _ else _) = _
  rw [if_pos h]
theorem msS_no {a : Int} {L lb ls : List Od} {j : Nat} (h : mas a (od L j) = false) : msS a L lb ls (j + 1) = msS a L lb ls j := by
  show (if mas a (od L j) then _ else _) = _
  rw [if_neg (by rw [h]; decide)]
def msF (a : Int) (lb ls : List Od) : List Od × List Od := msS a (lb ++ ls) lb ls (lb ++ ls).length
theorem bi_ms {a : Int} {L lb ls : List Od} (h : BiX true lb ls) : ∀ j, BiX true (msS a L lb ls j).1 (msS a L lb ls j).2
  | 0 => h
  | j + 1 => by
    cases hm : mas a (od L j) with
    | true => rw [msS_yes hm]; exact bi_cnl (bi_ms h j)
    | false => rw [msS_no hm]; exact bi_ms h j
/-- what lies below stays: the book, too -/
theorem bkg_low {n0 : Nat} {W W' : World} {g gb gs base : Nat} {lb ls : List Od} (h : BkG W g gb gs base lb ls) (h1 : g < n0) (h2 : gb < n0) (h3 : gs < n0) (hn : ∀ q, n0 ≤ q → Nb gb q true W ∧ Nb gs q false W)
    (hk : ∀ q o, q < n0 → W.heap[q]? = some o → W'.heap[q]? = some o) : BkG W' g gb gs base lb ls ∧ ∀ q, n0 ≤ q → Nb gb q true W' ∧ Nb gs q false W' := by
  have sl : ∀ {g9 : Nat} {b : Bool} {l : List Od}, SL W g9 base b l → g9 < n0 → (∀ q, n0 ≤ q → Nb g9 q b W) → SL W' g9 base b l := fun {g9 b l} hs hg hq => by
    obtain ⟨v, e, hr⟩ := hs.s.row
    refine ⟨⟨⟨v, hk _ _ hg e, own_sameT hr (fun q A e2 hq2 => hk _ _ (Nat.lt_of_not_le fun hle => ?_) hq2)⟩, hs.s.ord, hs.s.bg, hs.s.hk⟩, hs.ok⟩
    exact hq q hle v e e2
  have nb : ∀ {g9 q : Nat} {b : Bool} {l : List Od}, SL W g9 base b l → g9 < n0 → Nb g9 q b W → Nb g9 q b W' := fun {g9 q b l} hs hg hq => nb_same hs hq (fun o e => hk _ _ hg e)
  obtain ⟨vb, e1, _⟩ := h.two.b.s.row
  obtain ⟨vs, e2, _⟩ := h.two.s.s.row
  refine ⟨⟨hk _ _ h1 h.row, ⟨sl h.two.b h2 (fun q hq => (hn q hq).1), sl h.two.s h3 (fun q hq => (hn q hq).2), h.two.ne, fun v1 v2 a1 a2 => ?_⟩, h.bg⟩, fun q hq => ⟨nb h.two.b h2 (hn q hq).1, nb h.two.s h3 (hn q hq).2⟩⟩
  obtain ⟨_, rfl⟩ := side_inj (hk _ _ h2 e1) a1
  obtain ⟨_, rfl⟩ := side_inj (hk _ _ h3 e2) a2
  exact h.two.ap _ _ e1 e2
theorem bkg_lt {w : World} {g gb gs base : Nat} {lb ls : List Od} (h : BkG w g gb gs base lb ls) : g < w.heap.size ∧ gb < w.heap.size ∧ gs < w.heap.size := by
  obtain ⟨vb, e1, _⟩ := h.two.b.s.row
  obtain ⟨vs, e2, _⟩ := h.two.s.s.row
  exact ⟨(Array.getElem?_eq_some_iff.1 h.row).1, (Array.getElem?_eq_some_iff.1 e1).1, (Array.getElem?_eq_some_iff.1 e2).1⟩
/-- what the rounds of Mass keep -/
structure MasI (w0 : World) (g gb gs base : Nat) (a : Int) (L lb ls : List Od) (p : Nat × Option Nat) (W : World) : Prop where
  bk : BkG W g gb gs base (msS a L lb ls p.1).1 (msS a L lb ls p.1).2
  nb : ∀ q, w0.heap.size ≤ q → Nb gb q true W ∧ Nb gs q false W
  b1 : W.heap[w0.heap.size]? = some (.cells #[.pointer (some ⟨g, 0, none⟩)] 23 (0, 0))
  b2 : W.heap[w0.heap.size + 1]? = some (.cells #[.int .u32 a] 28 (0, 0))
  b3 : ∃ (v : Value) (n : Nat) (xs : List Value), Boxed W (w0.heap.size + 1 + 1) 35 v ∧ W.ownsRow w0.heap.size 30 5 v n xs ∧ v.ownBlock = p.2 ∧ n ≤ p.1
  be : Below base w0 W
  fr : Kb w0.heap.size gb gs true w0 W
  sz : w0.heap.size ≤ W.heap.size
theorem kb_low {n : Nat} {W W' : World} {g gb gs base : Nat} {lb ls : List Od} (h : BkG W g gb gs base lb ls) (h2 : gb < n) (h3 : gs < n) (hk : ∀ q o, q < n → W.heap[q]? = some o → W'.heap[q]? = some o) : Kb n gb gs true W W' :=
  kb_rows h.two.tx (fun _ e => hk _ _ h2 e) (fun _ e => hk _ _ h3 e) hk
theorem MasI.low {w0 : World} {g gb gs base : Nat} {a : Int} {L lb ls : List Od} {j : Nat} {r r' : Option Nat} {W W' : World} (h : MasI w0 g gb gs base a L lb ls (j, r) W) (h0 : BkG w0 g gb gs base lb ls) (hb : Below w0.heap.size W W') (j' : Nat)
    (hj : msS a L lb ls j' = msS a L lb ls j) (h1 : W'.heap[w0.heap.size]? = W.heap[w0.heap.size]?) (h2 : W'.heap[w0.heap.size + 1]? = W.heap[w0.heap.size + 1]?)
    (h3 : ∃ (v : Value) (n : Nat) (xs : List Value), Boxed W' (w0.heap.size + 1 + 1) 35 v ∧ W'.ownsRow w0.heap.size 30 5 v n xs ∧ v.ownBlock = r' ∧ n ≤ j') : MasI w0 g gb gs base a L lb ls (j', r') W' := by
  have hl := bkg_lt h0
  have hk : ∀ q o, q < w0.heap.size → W.heap[q]? = some o → W'.heap[q]? = some o := fun q o hq e => (hb.block q hq).trans e
  obtain ⟨q1, q2⟩ := bkg_low h.bk hl.1 hl.2.1 hl.2.2 h.nb hk
  refine ⟨?_, q2, h1.trans h.b1, h2.trans h.b2, h3, h.be.trans (hb.mono h0.low), h.fr.trans (kb_low h.bk hl.2.1 hl.2.2 hk), Nat.le_trans h.sz hb.size⟩
  rw [show (j', r').1 = j' from rfl, hj]
  exact q1
theorem masI_own {w0 : World} {g gb gs base : Nat} {a : Int} {L lb ls : List Od} {B : Nat} (h0 : BkG w0 g gb gs base lb ls) (hB : w0.heap.size + 3 ≤ B) : OwnFrom B (MasI w0 g gb gs base a L lb ls) := fun p W W' row h hg hr => by
  have hb : Below w0.heap.size W W' := (Below.refl _ W).grown hg h.sz (fun r e => by have := (hr r e).1; omega)
  have hk : ∀ (i : Nat) c t fr, W.heap[i]? = some (Obj.cells c t fr) → W'.heap[i]? = some (Obj.cells c t fr) := fun i c t fr h1 => (hg.block i (Array.getElem?_eq_some_iff.1 h1).1 (fun e => by
    obtain ⟨_, o, ho, hc⟩ := hr i e.symm
    rw [h1] at ho
    cases ho
    exact absurd hc (by simp [Obj.isCells]))).trans h1
  obtain ⟨v, n, xs, e1, e2, e3, e4⟩ := h.b3
  exact h.low (r := p.2) h0 hb p.1 rfl ((hk _ _ _ _ h.b1).trans h.b1.symm) ((hk _ _ _ _ h.b2).trans h.b2.symm) ⟨v, n, xs, hk _ _ _ _ e1, own_sameT e2 (fun q A _ hq => hk _ _ _ _ hq), e3, e4⟩
/-- Cancel in a round -/
theorem masI_cnl {w0 : World} {g gb gs base : Nat} {a : Int} {L lb ls : List Od} {j : Nat} {r : Option Nat} {W W' : World} (h : MasI w0 g gb gs base a L lb ls (j, r) W) (h0 : BkG w0 g gb gs base lb ls) (hm : mas a (od L j) = true)
    (hs : BkS W W' g gb gs base (cnlB (od L j).n (msS a L lb ls j).1) (cnlS (od L j).n (msS a L lb ls j).1 (msS a L lb ls j).2)) (hk : Nk gb gs W W') :
    (∀ q o, w0.heap.size ≤ q → W.heap[q]? = some o → W'.heap[q]? = some o) ∧ MasI w0 g gb gs base a L lb ls (j + 1, r) W' ∧ (W.heap.size ≤ W'.heap.size) ∧ ∃ (v : Value) (n : Nat) (xs : List Value), Boxed W' (w0.heap.size + 1 + 1) 35 v ∧ W'.ownsRow w0.heap.size 30 5 v n xs ∧ v.ownBlock = r ∧ n ≤ j := by
  have hl := bkg_lt h0
  have keep : ∀ q o, w0.heap.size ≤ q → W.heap[q]? = some o → W'.heap[q]? = some o := fun q o hq e => (hs.fr q o (Array.getElem?_eq_some_iff.1 e).1 e (by omega) (by omega) (h.nb q hq).1 (h.nb q hq).2).1
  have b3 : ∃ (v : Value) (n : Nat) (xs : List Value), Boxed W' (w0.heap.size + 1 + 1) 35 v ∧ W'.ownsRow w0.heap.size 30 5 v n xs ∧ v.ownBlock = r ∧ n ≤ j := by
    obtain ⟨v, n, xs, e1, e2, e3, e4⟩ := h.b3
    exact ⟨v, n, xs, keep _ _ (by omega) e1, own_sameT e2 (fun q A e hq => keep _ _ (by have := (e2.lt q e).1; omega) hq), e3, e4⟩
  refine ⟨keep, ⟨?_, fun q hq => ⟨hk.1 q (h.nb q hq).1, hk.2 q (h.nb q hq).2⟩, keep _ _ (Nat.le_refl _) h.b1, keep _ _ (by omega) h.b2, ?_, h.be.trans hs.be, h.fr.trans (kb_less hs.fr h.sz), Nat.le_trans h.sz hs.be.size⟩, hs.be.size, b3⟩
  · have := hs.bk
    rw [show (j + 1, r).1 = j + 1 from rfl, msS_yes hm]
    exact this
  · obtain ⟨v, n, xs, e1, e2, e3, e4⟩ := b3
    exact ⟨v, n, xs, e1, e2, e3, by show n ≤ j + 1; omega⟩
/-- and append -/
theorem masI_app {w0 : World} {g gb gs base : Nat} {a : Int} {L lb ls : List Od} {j n : Nat} {r : Option Nat} {W W1 : World} {v v' : Value} {xs ys : List Value} {tmp : Obj} {s : Nat} (h : MasI w0 g gb gs base a L lb ls (j + 1, r) W) (h0 : BkG w0 g gb gs base lb ls) (hs : w0.heap.size + 3 ≤ s)
    (e1 : Boxed W (w0.heap.size + 1 + 1) 35 v) (e2 : W.ownsRow w0.heap.size 30 5 v n xs) (e3 : v.ownBlock = r) (e4 : n ≤ j)
    (ho : W1.ownsRow w0.heap.size 30 5 v' (n + 1) ys) (hg : (W.alloc tmp).grownBy W1 v.ownBlock) (hat : v'.ownBlock = v.ownBlock ∨ v'.ownBlock = some (W.heap.size + 1)) :
    Boxed W1 (w0.heap.size + 1 + 1) 35 v ∧ KeepsFrom s W (W1.setCell ⟨w0.heap.size + 1 + 1, 0, none⟩ v') ∧ ∃ r', KnR s r W (W1.setCell ⟨w0.heap.size + 1 + 1, 0, none⟩ v') ∧ RowTo2 W (W1.setCell ⟨w0.heap.size + 1 + 1, 0, none⟩ v') r r' ∧ MasI w0 g gb gs base a L lb ls (j + 1, r') (W1.setCell ⟨w0.heap.size + 1 + 1, 0, none⟩ v') := by
  obtain ⟨a1, a2, a3, a4, a5⟩ := e1.appended (by decide) e2 h.sz (by omega) ho hg
  have own_ne : ∀ (i : Nat) c t fr, W.heap[i]? = some (Obj.cells c t fr) → t ≠ 30 → i ≠ w0.heap.size + 1 + 1 → (W1.setCell ⟨w0.heap.size + 1 + 1, 0, none⟩ v').heap[i]? = W.heap[i]? := fun i c t fr hi ht hne => by
    rw [heap_setCell_other W1 _ i _ hne, hg.block i (by have := (Array.getElem?_eq_some_iff.1 hi).1; simp; omega) (fun e => ?_), Below.heap_alloc _ _ _ (Array.getElem?_eq_some_iff.1 hi).1]
    obtain ⟨A9, fr9, h9⟩ := own_tag e2 i e.symm
    rw [hi] at h9; injection h9 with h9; injection h9 with _ h9; exact ht h9
  refine ⟨a1, a4.from s, v'.ownBlock, ?_, ?_, h.low (r' := v'.ownBlock) h0 a5 (j + 1) rfl (own_ne _ _ _ _ h.b1 (by decide) (by omega)) (own_ne _ _ _ _ h.b2 (by decide) (by omega)) ⟨v', n + 1, ys, a2, a3, rfl, by omega⟩⟩
  · subst e3
    exact (KnR.trans (knR_grown (s := s) (World.grownBy_alloc W _ v.ownBlock)) (knR_grown hg)).trans (Kn.toR (kn_set (g := w0.heap.size + 1 + 1) (by omega) (fun i hi => heap_setCell_other W1 _ i _ hi)))
  · rcases hat with e | e
    · exact .inl (e.trans e3)
    · exact .inr ⟨_, e, by omega, by have := (a3.lt _ e).2; omega⟩
set_option maxRecDepth 100000 in
set_option maxHeartbeats 4000000 in
theorem mass_any {w : World} {g gb gs base : Nat} {lb ls : List Od} (n : Int) (h : BkG w g gb gs base lb ls) (hn : (lb ++ ls).length ≤ 1000) : Calls Try.prog 22 #[.pointer (some ⟨g, 0, none⟩), .int .u32 n] w fun e w' =>
    (∃ v, e = .returned v) ∧ BkS w w' g gb gs base (msF n lb ls).1 (msF n lb ls).2 := by
  have hlt := bkg_lt h
  refine calls_marks Try.func22 rfl ?_
  simp only [Try.ntmps22, List.size_toArray, List.length_cons, List.length_nil, Nat.reduceAdd, Nat.reduceSub, Array.replicate_succ, Array.replicate_zero, List.push_toArray, List.append_toArray, List.nil_append, List.cons_append]
  go_wp2_with ((go_at_call 24; (with_reducible refine (ball_any _).mono ?_); rintro e w6 ⟨rfl, rfl⟩))
  generalize hp : (some ⟨g, 0, none⟩ : Option Addr) = p at *
  obtain ⟨w5, hw5⟩ : ∃ w5, w5 = ((((w.alloc (Obj.cells #[Value.pointer p] 23)).alloc (Obj.cells #[Value.int IntKind.u32 n] 28)).alloc (Obj.cells #[Value.slice none 0 0] 35)).alloc (Obj.cells #[Value.pointer p] 23)) := ⟨_, rfl⟩
  have hB5 : Below w.heap.size w w5 := by rw [hw5]; exact below_alloc (below_alloc (below_alloc (below_new _ _) _) _) _
  have h4 : w5.heap[w.heap.size]? = some (.cells #[Value.pointer p] 23 (0, 0)) := by rw [hw5]; exact heap_up (heap_up (heap_up (heap_alloc_new _ _)))
  have h5 : w5.heap[w.heap.size + 1]? = some (.cells #[Value.int IntKind.u32 n] 28 (0, 0)) := by rw [hw5]; exact by repeat (first | exact heap_new (by simp; done) | refine heap_up ?_)
  have h6 : w5.heap[w.heap.size + 1 + 1]? = some (.cells #[Value.slice none 0 0] 35 (0, 0)) := by rw [hw5]; exact by repeat (first | exact heap_new (by simp; done) | refine heap_up ?_)
  have hbox : w5.heap[w.heap.size + 1 + 1 + 1]? = some (.cells #[Value.pointer p] 23 (0, 0)) := by rw [hw5]; exact by repeat (first | exact heap_new (by simp; done) | refine heap_up ?_)
  have hs5 : w5.heap.size = w.heap.size + 4 := by rw [hw5]; simp
  rw [← hw5]
  clear hw5
  subst hp
  have hP5 := h.kept hB5
  refine wp_gen (fun u => #[u 0, u 1, .pointer (some ⟨w.heap.size, 0, none⟩), .pointer (some ⟨w.heap.size + 1, 0, none⟩), .pointer (some ⟨w.heap.size + 1 + 1, 0, none⟩), u 5, u 6, .func (.func 35) #[] #[.pointer (some ⟨w.heap.size + 1 + 1 + 1, 0, none⟩)], u 8, u 9, u 10, u 11, u 12, u 13, u 14, u 15, u 16, u 17, u 18, u 19, u 20, u 21, u 22, u 23, u 24, u 25]) (by rfl) (fun u => ?_)
  refine range_roundsO (gf := 35) (lb := #[.pointer (some ⟨w.heap.size + 1 + 1 + 1, 0, none⟩)]) (encs := fun j => #[.agg (oa (od (lb ++ ls) j))]) (k := (lb ++ ls).length) rfl (enters_of Try.func35 (by kernel_rfl) rfl) (fun _ => rfl) (ball_seqO hbox hP5 (Nat.le_refl _))
    (MasI w g gb gs base n (lb ++ ls) lb ls) (fun c j W => False) ?oI ?oX ?i0 (fun j W => W.alloc (.cells (oa (od (lb ++ ls) j)) 30)) (fun j W => World.grownBy_alloc W _ none)
    (fun j V0 => { tmps := #[u 0, u 1, .pointer (some ⟨w.heap.size, 0, none⟩), .pointer (some ⟨w.heap.size + 1, 0, none⟩), .pointer (some ⟨w.heap.size + 1 + 1, 0, none⟩), .pointer (some ⟨V0.heap.size, 0, none⟩), u 6, .func (.func 35) #[] #[.pointer (some ⟨w.heap.size + 1 + 1 + 1, 0, none⟩)], .agg (oa (od (lb ++ ls) j)), u 9, u 10, u 11, u 12, u 13, u 14, u 15, u 16, u 17, u 18, u 19, u 20, u 21, u 22, u 23, u 24, u 25], defers := [] }) ?assign ?body ?done ?stop
  case oI => exact masI_own h (by omega)
  case oX => exact fun _ _ _ _ _ h => h.elim
  case i0 => exact ⟨hP5, fun q hq => ⟨nb_new h.two.b hq hB5, nb_new h.two.s hq hB5⟩, h4, h5, ⟨_, 0, [], h6, World.ownsRow_nil _ _ _ _, rfl, Nat.le_refl _⟩, hB5.mono h.low, kb_below h.two.tx hB5, hB5.size⟩
  case stop => exact fun _ _ _ _ _ _ h _ => h.elim
  case assign =>
    intro l i W K' hj hK
    have hO : IsOrd (oa (od (lb ++ ls) i)) := oa_ord (od_ok (fun o ho => by
      rcases List.mem_append.1 ho with ho | ho
      · exact h.two.b.ok o ho
      · exact h.two.s.ok o ho) i)
    have hsz := hO.size
    refine wpIn_lit (t := #[u 0, u 1, .pointer (some ⟨w.heap.size, 0, none⟩), .pointer (some ⟨w.heap.size + 1, 0, none⟩), .pointer (some ⟨w.heap.size + 1 + 1, 0, none⟩), u 5, u 6, .func (.func 35) #[] #[.pointer (some ⟨w.heap.size + 1 + 1 + 1, 0, none⟩)], .agg (oa (od (lb ++ ls) i)), u 9, u 10, u 11, u 12, u 13, u 14, u 15, u 16, u 17, u 18, u 19, u 20, u 21, u 22, u 23, u 24, u 25]) (by simp) ?_
    generalize oa (od (lb ++ ls) i) = OA at *
    gi_wp2_with (first | ((with_reducible refine at_allocIn 30 ?_); refine wpListIn_alloc_named rfl 30 rfl (#[.int .u64 0, .int .u32 0, .bool false, .int .i64 0, .int .i64 0]) (by kernel_rfl) ?_) | ((with_reducible refine at_storeIn 30 ?_); refine wpListIn_store_new rfl 30 _ _ rfl (OA) _ _ _ rfl (by simp) rfl (by rw [hsz]; kernel_rfl) (by rw [hsz]; rfl) (hO.all) ?_))
    exact hK
  case body =>
    rintro l i r V0 W hj hI hsW hup _
    rw [hs5] at hsW ⊢
    have hO : IsOrd (oa (od (lb ++ ls) i)) := oa_ord (od_ok (fun o ho => by
      rcases List.mem_append.1 ho with ho | ho
      · exact h.two.b.ok o ho
      · exact h.two.s.ok o ho) i)
    have hv := hup _ _ _ _ (heap_alloc_new V0 (Obj.cells (oa (od (lb ++ ls) i)) 30))
    have cv := cellF hv
    have a0 : (oa (od (lb ++ ls) i))[0]? = some (.int .u64 (od (lb ++ ls) i).n) := rfl
    have a1 : (oa (od (lb ++ ls) i))[1]? = some (.int .u32 (od (lb ++ ls) i).a) := rfl
    have HCC := Lib.hid (cancel_anyK (od (lb ++ ls) i).n hI.bk)
    have HCN := Lib.hid (fun W' => masI_cnl (W' := W') hI h)
    have hmd : mas n (od (lb ++ ls) i) = (decide (n = 0) || decide ((od (lb ++ ls) i).a = n)) := rfl
    have HMN := Lib.hid (fun (hm : mas n (od (lb ++ ls) i) = false) => (show MasI w g gb gs base n (lb ++ ls) lb ls (i + 1, r) W from by
      obtain ⟨v, n9, xs, q1, q2, q3, q4⟩ := hI.b3
      exact hI.low (r' := r) h (Below.refl _ _) (i + 1) (msS_no hm) rfl rfl ⟨v, n9, xs, q1, q2, q3, by show n9 ≤ i + 1; have : n9 ≤ i := q4; omega⟩))
    have c1 := cellF hI.b1
    have c2 := cellF hI.b2
    have hsz := hO.size
    have HALL := Lib.hid hO.all
    have hex : (oa (od (lb ++ ls) i)).extract 0 (0 + 5) = oa (od (lb ++ ls) i) := by rw [show 0 + 5 = (oa (od (lb ++ ls) i)).size by rw [hsz]]; simp
    have hvs : 0 + 5 ≤ (oa (od (lb ++ ls) i)).size := by omega
    have HSZ := Lib.hid hsz
    have HV := Lib.hid hv
    have hws := hI.sz
    have H0 := Lib.hid h
    have hVs : w.heap.size ≤ V0.heap.size := by omega
    clear hO hv hsz hup hI h hP5 h4 h5 h6 hbox hB5
    generalize ho : od (lb ++ ls) i = o at *
    have HOE := Lib.hid ho
    clear ho
    generalize hA : oa o = A at *
    have HAE := Lib.hid hA
    clear hA
    generalize hon : o.n = on at *
    have HON := Lib.hid hon
    clear hon
    generalize hoa : o.a = oaa at *
    have HOAA := Lib.hid hoa
    clear hoa
    by_cases hn0 : n = 0
    · have hm : mas n o = true := by rw [hmd, decide_eq_true hn0]; rfl
      have HCM := Lib.hid (fun W' => HCN.out W' hm)
      have HN0 := Lib.hid hm
      clear hmd hm HCN HMN
      gi_wp2_with (first | (refine And.intro (show (Fence.wide.inRound l).fn 17 from trivial) ?_; refine (CallsIn.inRound l (callsIn_wide.2 HCC.out)).mono ?_; rintro e W1 ⟨⟨v, rfl⟩, hbs, hnk⟩; obtain ⟨hkeep, hI1, hz1, v3, n3, xs3, q1, q2, q3, q4⟩ := HCM.out W1 hbs hnk; have c4 := q1.cell; have hv1 := hkeep _ _ hVs HV.out; have HAP := Lib.hid (fun v' W9 ys tmp => masI_app (s := w.heap.size + 4) (v' := v') (W1 := W9) (ys := ys) (tmp := tmp) hI1 H0.out (by omega) q1 q2 q3 q4); have hrow0 := Lib.hid q2; have HKF := Lib.hid (And.intro hkeep hz1); clear hbs hnk hI1 q1 q2 q3 hkeep c1 c2 cv) | ((with_reducible refine at_loadIn 30 ?_); refine wpListIn_load_part rfl 30 _ rfl (V0.heap.size) (0) rfl _ (A) _ _ 5 (hv1) Try.underlying30 rfl (by kernel_rfl) (hvs) (A) (hex) ?_) | ((with_reducible refine at_slice1In 35 ?_); obtain ⟨ip, zp, ip1, ip2, ip3, ip4, ip5⟩ := info_ordA; refine wpListIn_slice1c rfl 35 30 _ rfl A 5 rfl HSZ.out ip zp Try.underlying35 ip1 ip2 ip3 ip5 (by omega) (by omega) ?_; clear ip1 ip2 ip3 ip4 ip5) | ((with_reducible refine at_appendIn 35 ?_); refine wpListIn_append_row1 rfl _ _ rfl Try.underlying35 info_ordA (by omega) HSZ.out HALL.out w.heap.size v3 n3 xs3 rfl hrow0.out rfl (by omega) (by omega) ?_; intro v1 W9 ho1 hg1 hat1; obtain ⟨g9, c9, rfl⟩ := ownsRow_succ ho1; (have hN1 := HAP.out _ W9 _ _ ho1 hg1 hat1); (have c9 := hN1.1.cell); (have f9 := hN1.1.frozen); (have HN1 := Lib.hid hN1.2); clear ho1 hg1 hat1 hN1))
      obtain ⟨r', q5, q6, q7⟩ := HN1.out.2
      refine ⟨KeepsFrom.trans ⟨HKF.out.2, fun q o9 hq e9 _ => HKF.out.1 q o9 (by omega) e9⟩ HN1.out.1, r', KnR.trans (fun q c t fr hq _ e9 => HKF.out.1 q _ (by omega) e9) q5, ?_, q7⟩
      rcases q6 with e9 | ⟨i9, e9, hi9, hj9⟩
      · exact .inl e9
      · exact .inr ⟨i9, e9, by have := HKF.out.2; omega, hj9⟩
    · by_cases hoan : oaa = n
      · have hm : mas n o = true := by rw [hmd, decide_eq_true hoan]; simp
        have HCM := Lib.hid (fun W' => HCN.out W' hm)
        clear hmd hm HCN HMN
        gi_wp2_with (first | (refine And.intro (show (Fence.wide.inRound l).fn 17 from trivial) ?_; refine (CallsIn.inRound l (callsIn_wide.2 HCC.out)).mono ?_; rintro e W1 ⟨⟨v, rfl⟩, hbs, hnk⟩; obtain ⟨hkeep, hI1, hz1, v3, n3, xs3, q1, q2, q3, q4⟩ := HCM.out W1 hbs hnk; have c4 := q1.cell; have hv1 := hkeep _ _ hVs HV.out; have HAP := Lib.hid (fun v' W9 ys tmp => masI_app (s := w.heap.size + 4) (v' := v') (W1 := W9) (ys := ys) (tmp := tmp) hI1 H0.out (by omega) q1 q2 q3 q4); have hrow0 := Lib.hid q2; have HKF := Lib.hid (And.intro hkeep hz1); clear hbs hnk hI1 q1 q2 q3 hkeep c1 c2 cv) | ((with_reducible refine at_loadIn 30 ?_); refine wpListIn_load_part rfl 30 _ rfl (V0.heap.size) (0) rfl _ (A) _ _ 5 (hv1) Try.underlying30 rfl (by kernel_rfl) (hvs) (A) (hex) ?_) | ((with_reducible refine at_slice1In 35 ?_); obtain ⟨ip, zp, ip1, ip2, ip3, ip4, ip5⟩ := info_ordA; refine wpListIn_slice1c rfl 35 30 _ rfl A 5 rfl HSZ.out ip zp Try.underlying35 ip1 ip2 ip3 ip5 (by omega) (by omega) ?_; clear ip1 ip2 ip3 ip4 ip5) | ((with_reducible refine at_appendIn 35 ?_); refine wpListIn_append_row1 rfl _ _ rfl Try.underlying35 info_ordA (by omega) HSZ.out HALL.out w.heap.size v3 n3 xs3 rfl hrow0.out rfl (by omega) (by omega) ?_; intro v1 W9 ho1 hg1 hat1; obtain ⟨g9, c9, rfl⟩ := ownsRow_succ ho1; (have hN1 := HAP.out _ W9 _ _ ho1 hg1 hat1); (have c9 := hN1.1.cell); (have f9 := hN1.1.frozen); (have HN1 := Lib.hid hN1.2); clear ho1 hg1 hat1 hN1))
        obtain ⟨r', q5, q6, q7⟩ := HN1.out.2
        refine ⟨KeepsFrom.trans ⟨HKF.out.2, fun q o9 hq e9 _ => HKF.out.1 q o9 (by omega) e9⟩ HN1.out.1, r', KnR.trans (fun q c t fr hq _ e9 => HKF.out.1 q _ (by omega) e9) q5, ?_, q7⟩
        rcases q6 with e9 | ⟨i9, e9, hi9, hj9⟩
        · exact .inl e9
        · exact .inr ⟨i9, e9, by have := HKF.out.2; omega, hj9⟩
      · have hm : mas n o = false := by rw [hmd, decide_eq_false hn0, decide_eq_false hoan]; rfl
        have HI := Lib.hid (HMN.out hm)
        have hb0 : (n == 0) = false := beq_eq_false_iff_ne.2 hn0
        have hb1 : (oaa == n) = false := beq_eq_false_iff_ne.2 hoan
        clear hmd hm HCN HMN HCC
        gi_wp2
        exact ⟨KeepsFrom.refl _ _, r, fun _ _ _ _ _ _ h => h, .inl rfl, HI.out⟩
  case done =>
    rintro D r W hD hI hK
    obtain ⟨v0, n9, xs, q1, q2, q3, q4⟩ := hI.b3
    obtain ⟨va, vc, rfl⟩ := own_formB q2
    have c4 := cellF q1
    have f4 := (cells_of q1).2.1
    have hne : D ≠ w.heap.size + 1 + 1 := by omega
    have hz := heap_set_other (g := w.heap.size + 1 + 1) (i := 0) (v := .slice va n9 vc) hK hne
    have hz6 := heap_set (i := 0) (v := .slice va n9 vc) q1
    have hlt3 : w.heap.size ≤ W.heap.size := hI.sz
    have HI := Lib.hid hI
    have H0 := Lib.hid h
    clear hI q1 q2 q3 hK h hP5 h4 h5 h6 hbox hB5
    go_wp2_with fail
    refine leaves_cons hz ?_
    have hc := cellF (put_other (o' := .deferred none) hz hz6 (Ne.symm hne)) 0
    have hBl : Below w.heap.size W ((W.setCell ⟨w.heap.size + 1 + 1, 0, none⟩ (.slice va n9 vc)).putObj D (.deferred none)) := below_put (below_set (g := w.heap.size + 1 + 1) (i := 0) (v := .slice va n9 vc) (Below.refl _ _) (by omega)) (by omega) hz hlt3
    have hkb : ∀ q o, q < w.heap.size → W.heap[q]? = some o → ((W.setCell ⟨w.heap.size + 1 + 1, 0, none⟩ (.slice va n9 vc)).putObj D (.deferred none)).heap[q]? = some o := fun q o hq e => (hBl.block q hq).trans e
    refine leaves_nil (v := .slice va n9 vc) ?_ ⟨⟨_, rfl⟩, (bkg_low HI.out.bk hlt.1 hlt.2.1 hlt.2.2 HI.out.nb hkb).1, HI.out.be.trans (hBl.mono H0.out.low), HI.out.fr.trans (kb_low HI.out.bk hlt.2.1 hlt.2.2 hkb)⟩
    simp [results, Try.f22, go_sem, hc]
end Go.Proofs.Ytmjfbilhalkegaa
/-! An order that came in (the seat of sides and calendars). No condition. -/
namespace Go.Proofs.Ytmjfbilhalkegaa
set_option linter.unusedVariables false
set_option linter.unusedSimpArgs false
open Go.RowKit Go.Deep
set_option maxRecDepth 100000
section
variable {H : Type} {enc : TypeId × Value → H} {w : World} {base : Nat} {spare : Nat → Bool} {held : Bool}
theorem leafB {fuel o : Nat} {t : TypeId} {cs : List Value} {x : DataW H × List MemPlace} (hu : Try.prog.underlying t = some .bool) (hc : Try.prog.cellsOf t = 1)
    (h : DataW.trod enc Try.prog w base spare held fuel t ((cs.drop o).take (Try.prog.cellsOf t)) = some x) : IsB cs.toArray o := by
  obtain ⟨n, h1, _⟩ := DataW.trod_bool hu h
  rw [hc] at h1
  have h2 := congrArg (fun l => l[0]?) h1
  simp [List.getElem?_take, List.getElem?_drop] at h2
  exact IsB_of (by simpa using h2)
theorem ord_trod {fuel : Nat} {cs : List Value} {x : DataW H × List MemPlace} (h : DataW.trod enc Try.prog w base spare held fuel 30 cs = some x) : IsOrd cs.toArray := by
  obtain ⟨hl, n, hf⟩ := fields Try.underlying30 h
  have hc : Try.prog.cellsOf 30 = 5 := by kernel_rfl
  have c2 : Try.prog.cellsOf 2 = 1 := by kernel_rfl
  have c3 : Try.prog.cellsOf 27 = 1 := by kernel_rfl
  have c4 : Try.prog.cellsOf 28 = 1 := by kernel_rfl
  have c5 : Try.prog.cellsOf 4 = 1 := by kernel_rfl
  obtain ⟨_, y0⟩ := hf 0 _ rfl
  obtain ⟨_, y1⟩ := hf 1 _ rfl
  obtain ⟨_, y2⟩ := hf 2 _ rfl
  obtain ⟨_, y3⟩ := hf 3 _ rfl
  obtain ⟨_, y4⟩ := hf 4 _ rfl
  exact ⟨by simpa [hc] using hl, leaf Try.underlying27 c3 y0, leaf Try.underlying28 c4 y1, leafB Try.underlying4 c5 y2, leaf Try.underlying2 c2 y3, leaf Try.underlying2 c2 y4⟩
end
section
variable {H : Type} {enc : TypeId × Value → H} {w : World} {spare : Nat → Bool} {held : Bool}
theorem ord_of {r : Reach} {b : Nat} {v : Value} {d : DataW H} {p : List MemPlace} (hv : Value.okWide Try.prog w r b 30 v) (h : DataW.Trod enc Try.prog w 0 spare held 30 v d p) : ∃ A, v = .agg A ∧ IsOrd A := by
  obtain ⟨m, hm⟩ := h
  unfold Value.okWide at hv
  simp only [Try.underlying30] at hv
  obtain ⟨cs, rfl, _⟩ := hv
  have h1 := ord_trod hm
  exact ⟨cs, rfl, by simpa [Value.cells] using h1⟩
end
end Go.Proofs.Ytmjfbilhalkegaa
/-! What a slice of structs that came in holds, row by row. No condition. -/
namespace Go.Proofs.Ytmjfbilhalkegaa
set_option linter.unusedVariables false
set_option linter.unusedSimpArgs false
open Go.RowKit Go.Deep

/-- n rows of c cells each, one behind the other in one block -/
def RowsC (w : World) (c : Nat) (a : Option Addr) (n : Nat) (L : Nat → Array Value) : Prop :=
  ∀ i, i < n → ∃ g off A t fr, a = some (⟨g, off, none⟩ : Addr) ∧ w.heap[g]? = some (.cells A t fr) ∧ off + i * c + c ≤ A.size ∧ A.extract (off + i * c) (off + i * c + c) = L i
theorem RowsC.kept {w w' : World} {c n : Nat} {a : Option Addr} {L : Nat → Array Value} (h : RowsC w c a n L) (hb : Below w.heap.size w w') : RowsC w' c a n L := fun i hi => by
  obtain ⟨g, off, A, t, fr, h1, h2, h3⟩ := h i hi
  exact ⟨g, off, A, t, fr, h1, Ytmjfbilhalkegaa.kept hb h2, h3⟩
theorem RowsC.congr {w : World} {c n : Nat} {a : Option Addr} {L L' : Nat → Array Value} (h : RowsC w c a n L) (e : ∀ i, i < n → L i = L' i) : RowsC w c a n L' := fun i hi => by
  rw [← e i hi]; exact h i hi
section
variable {H : Type} {enc : TypeId × Value → H} {w : World} {spare : Nat → Bool} {held : Bool}
set_option maxRecDepth 100000 in
theorem rows_cells {a : Addr} {n c : Nat} {C : Nat → List Value} (hc0 : 0 < c) (h : ∀ i, i < n → w.cells? 0 (a.add (i * c)) c = some (C i)) : RowsC w c (some a) n (fun i => (C i).toArray) := by
  intro i hi
  have hc : ∀ i, i < n → ∀ j, j < c → w.cell? (a.add (i * c + j)) = (C i)[j]? ∧ (C i).length = c := fun i hi j hj => by
    obtain ⟨_, h2, h3⟩ := World.cells?_some (h i hi)
    rw [← h3 j hj, add_add]
    exact ⟨rfl, h2⟩
  obtain ⟨b, o, sp⟩ := a
  have h0 := hc 0 (by omega) 0 (by omega)
  have hl0 := h0.2
  have h00 : w.cell? ⟨b, o, sp⟩ = some ((C 0)[0]'(by omega)) := by
    have := h0.1
    simp only [Nat.zero_mul, Nat.add_zero] at this
    rw [show (⟨b, o, sp⟩ : Addr).add 0 = ⟨b, o, sp⟩ from rfl] at this
    rw [this]
    exact List.getElem?_eq_getElem _
  unfold World.cell? at h00
  cases hb : w.heap[b]? with
  | none => simp [hb] at h00
  | some ob =>
    cases ob with
    | cells A t fr =>
      simp only [hb] at h00
      cases sp with
      | some s => simp at h00
      | none =>
        have hA : ∀ i, i < n → ∀ j, j < c → A[o + i * c + j]? = (C i)[j]? := fun i hi j hj => by
          rw [← (hc i hi j hj).1]
          have : (⟨b, o, none⟩ : Addr).add (i * c + j) = ⟨b, o + i * c + j, none⟩ := by unfold Addr.add; split <;> simp_all; omega
          rw [this, cellF hb]
        have hs : o + i * c + c ≤ A.size := by
          have h1 := hA i hi (c - 1) (by omega)
          rw [List.getElem?_eq_getElem (by rw [(hc i hi 0 (by omega)).2]; omega)] at h1
          have := (Array.getElem?_eq_some_iff.1 h1).1
          omega
        refine ⟨b, o, A, t, fr, rfl, hb, hs, ?_⟩
        apply Array.ext_getElem?
        intro j
        rw [Array.getElem?_extract]
        by_cases hj : j < c
        · rw [if_pos (by omega), hA i hi j hj]; simp
        · rw [if_neg (by omega)]
          symm
          simp
          rw [(hc i hi 0 (by omega)).2]; omega
    | _ => simp [hb] at h00
set_option maxRecDepth 100000 in
/-- A slice of structs that came in. -/
theorem rows_of {T S : TypeId} {c : Nat} {Is : Array Value → Prop} {z : Array Value} (hz : Is z) (hS : Try.prog.underlying S = some (.slice T)) (hc : Try.prog.cellsOf T = c) (h0 : 0 < c)
    (ht : ∀ fuel cs x, DataW.trod enc Try.prog w 0 spare held fuel T cs = some x → Is cs.toArray)
    {r : Reach} {b : Nat} {v : Value} {d : DataW H} {p : List MemPlace} (hv : Value.okWide Try.prog w r b S v) (h : DataW.Trod enc Try.prog w 0 spare held S v d p) :
    ∃ (a : Option Addr) (n cap : Nat) (L : Nat → Array Value), v = .slice a n cap ∧ n ≤ cap ∧ cap ≤ 9223372036854775807 ∧ (∀ i, Is (L i)) ∧ RowsC w c a n L ∧ (a = none → n = 0 ∧ cap = 0) := by
  obtain ⟨m, hm⟩ := h
  obtain ⟨a, n, cap, rfl⟩ : ∃ a n cap, v = .slice a n cap := by
    unfold Value.okWide Cell.okWide at hv
    simp only [hS] at hv
    unfold Cell.ok at hv
    simp only [hS] at hv
    cases v <;> simp_all
  refine ⟨a, n, cap, ?_⟩
  rcases open_slice hS hm with ⟨hc, _⟩ | ⟨a', len, cap', m', f, D, Pl, hc1, _, hl, hmx, hmm, _, hx⟩
  · simp [Value.cells] at hc
    obtain ⟨rfl, rfl, rfl⟩ := hc
    exact ⟨fun _ => z, rfl, by omega, by omega, fun _ => hz, fun i hi => by omega, fun _ => ⟨rfl, rfl⟩⟩
  · simp [Value.cells] at hc1
    obtain ⟨rfl, rfl, rfl⟩ := hc1
    have hlm : n ≤ m' := by rw [hmm]; split <;> omega
    rw [hc] at hx
    obtain ⟨C, hC⟩ := choose_lt (α := List Value) (n := n) (p := fun i cs => w.cells? 0 (a'.add (i * c)) c = some cs ∧ DataW.trod enc Try.prog w 0 spare held f T cs = some (D i, Pl i)) (fun i hi => hx i (by omega))
    refine ⟨fun i => if i < n then (C i).toArray else z, rfl, hl, by unfold maxLen at hmx; omega, fun i => ?_, (rows_cells h0 (fun i hi => (hC i hi).1)).congr (fun i hi => by simp [hi]), fun h => by cases h⟩
    simp only
    split
    · rename_i hi
      exact ht _ _ _ (hC i hi).2
    · exact hz
end
end Go.Proofs.Ytmjfbilhalkegaa
/-! A slice of orders that came in. No condition. -/
namespace Go.Proofs.Ytmjfbilhalkegaa
set_option linter.unusedVariables false
set_option linter.unusedSimpArgs false
open Go.RowKit Go.Deep

theorem zo_ord : IsOrd zo := ⟨rfl, IsN_of rfl (by decide), IsN_of rfl (by decide), IsB_of rfl, IsN_of rfl (by decide), IsN_of rfl (by decide)⟩
section
variable {H : Type} {enc : TypeId × Value → H} {w : World} {spare : Nat → Bool} {held : Bool}
set_option maxRecDepth 100000 in
theorem ords_of {r : Reach} {b : Nat} {v : Value} {d : DataW H} {p : List MemPlace} (hv : Value.okWide Try.prog w r b 35 v) (h : DataW.Trod enc Try.prog w 0 spare held 35 v d p) :
    ∃ (a : Option Addr) (n cap : Nat) (L : Nat → Array Value), v = .slice a n cap ∧ n ≤ cap ∧ cap ≤ 9223372036854775807 ∧ (∀ i, IsOrd (L i)) ∧ RowsC w 5 a n L ∧ (a = none → n = 0 ∧ cap = 0) :=
  rows_of zo_ord Try.underlying35 (by kernel_rfl) (by decide) (fun _ _ _ h => ord_trod h) hv h
end
end Go.Proofs.Ytmjfbilhalkegaa
/-! A script of calls on a book that came in. No condition. -/
namespace Go.Proofs.Ytmjfbilhalkegaa
set_option linter.unusedVariables false
set_option linter.unusedSimpArgs false
open Go.RowKit Go.Deep
structure IsOp (A : Array Value) : Prop where
  size : A.size = 7
  k : IsN A .i64 0
  o : IsOrd (A.extract 1 6)
  n : IsN A .u8 6
theorem IsOp.all {A : Array Value} (h : IsOp A) : A.all (·.oneCell') = true := all_one fun i v hv => by
  have hi : i < 7 := by have := (Array.getElem?_eq_some_iff.1 hv).1; have := h.size; omega
  have ho := h.o.all
  by_cases e0 : i = 0
  · subst e0; exact h.k.one hv
  · by_cases e6 : i = 6
    · subst e6; exact h.n.one hv
    · rw [Array.all_eq_true'] at ho
      refine ho v ?_
      have : (A.extract 1 6)[i - 1]? = some v := by rw [Array.getElem?_extract, if_pos (by have := h.size; omega), show 1 + (i - 1) = i by omega]; exact hv
      exact Array.mem_of_getElem? this
def zop : Array Value := #[.int .i64 0, .int .u64 0, .int .u32 0, .bool false, .int .i64 0, .int .i64 0, .int .u8 0]
theorem zop_op : IsOp zop := ⟨rfl, IsN_of rfl (by decide), by rw [show zop.extract 1 6 = zo from rfl]; exact zo_ord, IsN_of rfl (by decide)⟩
section
variable {H : Type} {enc : TypeId × Value → H} {w : World} {spare : Nat → Bool} {held : Bool}
theorem op_trod {fuel : Nat} {cs : List Value} {x : DataW H × List MemPlace} (h : DataW.trod enc Try.prog w 0 spare held fuel 33 cs = some x) : IsOp cs.toArray := by
  obtain ⟨hl, n, hf⟩ := fields Try.underlying33 h
  have hc : Try.prog.cellsOf 33 = 7 := by kernel_rfl
  have c2 : Try.prog.cellsOf 31 = 1 := by kernel_rfl
  have c3 : Try.prog.cellsOf 3 = 1 := by kernel_rfl
  have c5 : Try.prog.cellsOf 30 = 5 := by kernel_rfl
  obtain ⟨_, y0⟩ := hf 0 _ rfl
  obtain ⟨_, y1⟩ := (show ∃ y, DataW.trod enc Try.prog w 0 spare held n 30 ((cs.drop 1).take (Try.prog.cellsOf 30)) = some y from hf 1 _ rfl)
  obtain ⟨_, y2⟩ := hf 2 _ rfl
  rw [c5] at y1
  have h1 := ord_trod y1
  refine ⟨by simpa [hc] using hl, leaf Try.underlying3 c3 y0, ?_, leaf Try.underlying31 c2 y2⟩
  have e : cs.toArray.extract 1 6 = ((cs.drop 1).take 5).toArray := by simp
  rw [e]
  exact h1
set_option maxRecDepth 100000 in
theorem ops_of {r : Reach} {b : Nat} {v : Value} {d : DataW H} {p : List MemPlace} (hv : Value.okWide Try.prog w r b 22 v) (h : DataW.Trod enc Try.prog w 0 spare held 22 v d p) :
    ∃ (a : Option Addr) (n cap : Nat) (L : Nat → Array Value), v = .slice a n cap ∧ n ≤ cap ∧ cap ≤ 9223372036854775807 ∧ (∀ i, IsOp (L i)) ∧ RowsC w 7 a n L ∧ (a = none → n = 0 ∧ cap = 0) :=
  rows_of zop_op Try.underlying22 (by kernel_rfl) (by decide) (fun _ _ _ h => op_trod h) hv h
end
end Go.Proofs.Ytmjfbilhalkegaa
/-! The law's play: a call whose answer is not looked at, walked. Condition: the book is one. -/
namespace Go.Proofs.Ytmjfbilhalkegaa
set_option linter.unusedVariables false
set_option linter.unusedSimpArgs false
open Go.RowKit Go.Shelf Go.Deep

/-- an order by its cells -/
def ox (A : Array Value) : Od := ⟨N A 0, N A 1, Bo A 2, N A 3, N A 4⟩
theorem oa_ox {A : Array Value} (h : IsOrd A) : oa (ox A) = A := by
  have e0 := h.n.1
  have e1 := h.a.1
  have e2 := h.b
  have e3 := h.p.1
  have e4 := h.l.1
  have hs := h.size
  refine Array.ext_getElem? fun i => ?_
  match i with
  | 0 => exact e0.symm
  | 1 => exact e1.symm
  | 2 => exact e2.symm
  | 3 => exact e3.symm
  | 4 => exact e4.symm
  | i + 5 => rw [Array.getElem?_eq_none (by rw [show (oa (ox A)).size = 5 from rfl]; omega), Array.getElem?_eq_none (by omega)]
theorem ox_ok {A : Array Value} (h : IsOrd A) : OkO (ox A) := okO_of (by rw [oa_ox h]; exact h)
/-- the lists behind a call -/
def plyF (k : Int) (o : Od) (k2 : Int) (lb ls : List Od) : List Od × List Od :=
  if k = 1 then ((plcF o k2 lb ls).lb, (plcF o k2 lb ls).ls)
  else if k = 2 then ((rplF o.n o.p o.q lb ls).lb, (rplF o.n o.p o.q lb ls).ls)
  else if k = 3 then (cnlB o.n lb, cnlS o.n lb ls)
  else if k = 4 then msF o.a lb ls
  else (lb, ls)
theorem bi_ply {k : Int} {o : Od} {k2 : Int} {lb ls : List Od} (h : BiX true lb ls) : BiX true (plyF k o k2 lb ls).1 (plyF k o k2 lb ls).2 := by
  unfold plyF
  split
  · exact bi_plc h
  split
  · exact bi_rpl h
  split
  · exact bi_cnl h
  split
  · exact bi_ms h _
  · exact h
/-- an order of a call -/
def opO (X : Array Value) : Od := ox (X.extract 1 6)
def opF (X : Array Value) (lb ls : List Od) : List Od × List Od := plyF (N X 0) (opO X) (N X 6) lb ls
theorem op_ext {X : Array Value} (h : IsOp X) (i : Nat) (hi : i < 5) : X[1 + i]? = (oa (opO X))[i]? := by
  unfold opO
  rw [oa_ox h.o, Array.getElem?_extract, if_pos (by have := h.size; omega)]
theorem bks_box {w w' : World} {g gb gs base : Nat} {lb ls lb2 ls2 : List Od} {o : Obj} (h : BkG w g gb gs base lb ls) (h2 : BkS (w.alloc o) w' g gb gs base lb2 ls2) : BkS w w' g gb gs base lb2 ls2 :=
  (bks_same h (below_new w o)).trans (by simp) h2
theorem bi_len {lb ls : List Od} (h : BiX true lb ls) : (lb ++ ls).length ≤ 1000 := by
  have h1 := h.inv.nb
  have h2 := h.inv.ns
  rw [List.length_append]; omega
set_option maxRecDepth 100000 in
set_option maxHeartbeats 4000000 in
theorem play_any {w : World} {g gb gs base : Nat} {lb ls : List Od} (X : Array Value) (hX : IsOp X) (h : BkG w g gb gs base lb ls) (hi : BiX true lb ls) : Calls Try.prog 11 #[.pointer (some ⟨g, 0, none⟩), .agg X] w fun e w' =>
    (∃ v, e = .returned v) ∧ BkS w w' g gb gs base (opF X lb ls).1 (opF X lb ls).2 := by
  have hbn := below_new w (Obj.cells X 33)
  have hbx := heap_alloc_new w (Obj.cells X 33)
  have HP := Lib.hid (h.kept hbn)
  have HH := Lib.hid h
  have hok : OkO (opO X) := ox_ok hX.o
  have HP1 := Lib.hid (place_any (opO X) (N X 6) HP.out hi hok)
  have HP2 := Lib.hid (repl_any (opO X).n (opO X).p (opO X).q HP.out hi hok.p hok.q)
  have HP3 := Lib.hid (cancel_anyK (opO X).n HP.out)
  have HP4 := Lib.hid (mass_any (opO X).a HP.out (bi_len hi))
  have x0 : X[0]? = some (.int .i64 (N X 0)) := hX.k.1
  have x6 : X[6]? = some (.int .u8 (N X 6)) := hX.n.1
  have x1 : X[1]? = some (.int .u64 (opO X).n) := op_ext hX 0 (by omega)
  have x2 : X[2]? = some (.int .u32 (opO X).a) := op_ext hX 1 (by omega)
  have x4 : X[4]? = some (.int .i64 (opO X).p) := op_ext hX 3 (by omega)
  have x5 : X[5]? = some (.int .i64 (opO X).q) := op_ext hX 4 (by omega)
  obtain ⟨_, y0⟩ := Array.getElem?_eq_some_iff.1 x0
  obtain ⟨_, y1⟩ := Array.getElem?_eq_some_iff.1 x1
  obtain ⟨_, y2⟩ := Array.getElem?_eq_some_iff.1 x2
  obtain ⟨_, y4⟩ := Array.getElem?_eq_some_iff.1 x4
  obtain ⟨_, y5⟩ := Array.getElem?_eq_some_iff.1 x5
  obtain ⟨_, y6⟩ := Array.getElem?_eq_some_iff.1 x6
  have HEX := Lib.hid (show X.extract 1 (1 + 5) = oa (opO X) from (oa_ox hX.o).symm)
  have hsz := hX.size
  have HF := Lib.hid (show opF X lb ls = plyF (N X 0) (opO X) (N X 6) lb ls from rfl)
  have cb := cellF hbx
  generalize hFF : opF X lb ls = FF at *
  generalize hk : N X 0 = k at *
  generalize hk2 : N X 6 = k2 at *
  generalize ho : opO X = o at *
  have HOK := Lib.hid hok
  clear hX h hi hok hbn hFF hk hk2 ho
  have FIN : ∀ (a b : List Od), plyF k o k2 lb ls = (a, b) → ∀ w', BkS (w.alloc (Obj.cells X 33)) w' g gb gs base a b → BkS w w' g gb gs base FF.1 FF.2 := fun a b e w' hb => by
    rw [HF.out, e]
    exact bks_box HH.out hb
  have HFIN := Lib.hid FIN
  clear FIN
  by_cases h1 : k = 1
  · have HE := Lib.hid (show plyF k o k2 lb ls = ((plcF o k2 lb ls).lb, (plcF o k2 lb ls).ls) by unfold plyF; rw [if_pos h1])
    subst h1
    go_enter Try.func11, Try.ntmps11
    go_wp2_with (first | ((with_reducible refine at_load 30 ?_); refine wpList_load_part rfl 30 _ rfl (w.heap.size) (1) rfl _ (X) _ _ 5 (hbx) Try.underlying30 rfl (by kernel_rfl) (by omega) (oa o) (HEX.out) ?_) | (go_at_call 14; (with_reducible refine (HP1.out).mono ?_); rintro e w1 hpa; obtain ⟨vt, vg, rfl, _, _⟩ := hpa.ex; have HB := Lib.hid hpa.bs; clear hpa))
    go_end0
    exact ⟨⟨_, rfl⟩, HFIN.out _ _ HE.out _ HB.out⟩
  by_cases h2 : k = 2
  · have HE := Lib.hid (show plyF k o k2 lb ls = ((rplF o.n o.p o.q lb ls).lb, (rplF o.n o.p o.q lb ls).ls) by unfold plyF; rw [if_neg h1, if_pos h2])
    subst h2
    go_enter Try.func11, Try.ntmps11
    go_wp2_with ((go_at_call 16; (with_reducible refine (HP2.out).mono ?_); rintro e w1 hpa; obtain ⟨vt, vg, rfl, _, _⟩ := hpa.ex; have HB := Lib.hid hpa.bs; clear hpa))
    go_end0
    exact ⟨⟨_, rfl⟩, HFIN.out _ _ HE.out _ HB.out⟩
  by_cases h3 : k = 3
  · have HE := Lib.hid (show plyF k o k2 lb ls = (cnlB o.n lb, cnlS o.n lb ls) by unfold plyF; rw [if_neg h1, if_neg h2, if_pos h3])
    subst h3
    go_enter Try.func11, Try.ntmps11
    go_wp2_with ((go_at_call 17; (with_reducible refine (HP3.out).mono ?_); rintro e w1 ⟨⟨v9, rfl⟩, hpa, _⟩; have HB := Lib.hid hpa; clear hpa))
    go_end0
    exact ⟨⟨_, rfl⟩, HFIN.out _ _ HE.out _ HB.out⟩
  by_cases h4 : k = 4
  · have HE := Lib.hid (show plyF k o k2 lb ls = ((msF o.a lb ls).1, (msF o.a lb ls).2) by unfold plyF; rw [if_neg h1, if_neg h2, if_neg h3, if_pos h4])
    subst h4
    go_enter Try.func11, Try.ntmps11
    go_wp2_with ((go_at_call 22; (with_reducible refine (HP4.out).mono ?_); rintro e w1 ⟨⟨v9, rfl⟩, hpa⟩; have HB := Lib.hid hpa; clear hpa))
    go_end0
    exact ⟨⟨_, rfl⟩, HFIN.out _ _ HE.out _ HB.out⟩
  · have HE := Lib.hid (show plyF k o k2 lb ls = (lb, ls) by unfold plyF; rw [if_neg h1, if_neg h2, if_neg h3, if_neg h4])
    have b1 : (k == 1) = false := beq_eq_false_iff_ne.2 h1
    have b2 : (k == 2) = false := beq_eq_false_iff_ne.2 h2
    have b3 : (k == 3) = false := beq_eq_false_iff_ne.2 h3
    have b4 : (k == 4) = false := beq_eq_false_iff_ne.2 h4
    have HB := Lib.hid (bks_same HP.out (Below.refl _ _))
    go_enter Try.func11, Try.ntmps11
    go_wp2_with fail
    go_end0
    exact ⟨⟨_, rfl⟩, HFIN.out _ _ HE.out _ HB.out⟩
end Go.Proofs.Ytmjfbilhalkegaa
/-! The law's uncrossed, walked. Condition: none of the orders crosses one of another account. -/
namespace Go.Proofs.Ytmjfbilhalkegaa
set_option linter.unusedVariables false
set_option linter.unusedSimpArgs false
open Go.RowKit Go.Deep

theorem rowsT_C {w : World} {t : TypeId} {c n : Nat} {a : Option Addr} {L : Nat → Array Value} (h : RowsT w t c a n L) : RowsC w c a n L := fun i hi => by
  obtain ⟨g, off, A, fr, h1, h2, h3, h4⟩ := h i hi
  exact ⟨g, off, A, t, fr, h1, h2, h3, h4⟩
theorem rowsC_one {w : World} {c n : Nat} {a : Option Addr} {L : Nat → Array Value} (h : RowsC w c a n L) (hn : 0 < n) (hL : ∀ i, (L i).size = c) : ∃ g off B t fr, a = some (⟨g, off, none⟩ : Addr) ∧ w.heap[g]? = some (.cells B t fr) ∧ ∀ i, i < n → ∀ j, j < c → B[off + i * c + j]? = (L i)[j]? := by
  obtain ⟨g, off, B, t, fr, rfl, hg, _, _⟩ := h 0 hn
  refine ⟨g, off, B, t, fr, rfl, hg, fun i hi j hj => ?_⟩
  obtain ⟨g2, off2, B2, t2, fr2, ha, hg2, hs, hx⟩ := h i hi
  cases ha
  rw [hg] at hg2
  cases hg2
  rw [← hx, Array.getElem?_extract, if_pos (by omega)]
set_option maxRecDepth 100000 in
set_option maxHeartbeats 4000000 in
theorem unc_any {w : World} (a : Option Addr) (n cap : Nat) (L : Nat → Array Value) (hL : ∀ i, IsOrd (L i)) (hR : RowsC w 5 a n L) (hn : n ≤ 100000) (hU : ∀ i k, i < n → k < n → Bo (L i) 2 = true → Bo (L k) 2 = false → N (L k) 3 ≤ N (L i) 3 → N (L i) 1 = N (L k) 1) :
    Calls Try.prog 12 #[.slice a n cap] w fun e w' => e = .returned (.bool true) ∧ Below w.heap.size w w' := by
  have HR := Lib.hid hR
  have HL := Lib.hid hL
  have HU := Lib.hid hU
  clear hR hL hU
  go_enter Try.func12, Try.ntmps12
  go_wp2
  go_loopg [7] n (fun gh vi wx => ∃ i : Nat, i ≤ n ∧ gh = n - i ∧ vi = .int .i64 i ∧ Below w.heap.size w wx)
  case atStart => exact ⟨0, by omega, by omega, rfl, Below.refl _ _⟩
  case round =>
    obtain ⟨i, hi, rfl, rfl, hb⟩ := hrel
    have HB1 := Lib.hid hb
    clear hb
    by_cases hi : i < n
    · have hii : (i : Int) < (n : Int) := by omega
      go_wp2
      go_loopg [12] n (fun gh vk wx => ∃ k : Nat, k ≤ n ∧ gh = n - k ∧ vk = .int .i64 k ∧ Below w.heap.size w wx)
      case atStart => exact ⟨0, by omega, by omega, rfl, HB1.out⟩
      case round =>
        clear HB1
        obtain ⟨k, hkn, rfl, rfl, hb⟩ := hrel
        have HB := Lib.hid hb
        clear hb
        by_cases hk : k < n
        · have hki : (k : Int) < (n : Int) := by omega
          obtain ⟨gL, oL, BL, tL, fL, rfl, hgL, hcL⟩ := rowsC_one (HR.out.kept HB.out) (by omega) (fun i => (HL.out i).size)
          have e1 := hcL i hi 1 (by omega)
          have e2 := hcL i hi 2 (by omega)
          have e3 := hcL i hi 3 (by omega)
          have f1 := hcL k hk 1 (by omega)
          have f2 := hcL k hk 2 (by omega)
          have f3 := hcL k hk 3 (by omega)
          rw [(HL.out i).a.1] at e1
          rw [(HL.out i).b] at e2
          rw [(HL.out i).p.1] at e3
          rw [(HL.out k).a.1] at f1
          rw [(HL.out k).b] at f2
          rw [(HL.out k).p.1] at f3
          have HGX := Lib.hid hgL
          have HUik := Lib.hid (HU.out i k hi hk)
          have hn2 : (n : Int) ≤ 100000 := by omega
          clear hcL hgL
          generalize N (L i) 3 = pi at *
          generalize N (L k) 3 = pk at *
          generalize N (L i) 1 = ai at *
          generalize N (L k) 1 = ak at *
          generalize Bo (L i) 2 = bi at *
          generalize Bo (L k) 2 = bk at *
          cases bi
          · go_upto_region 7 with fail
            refine wp_region_below (by kernel_rfl) (by kernel_rfl) ?_
            repeat (first | ((with_reducible apply q_skip); (case hw => rfl); (try simp only [Act.put, List.setIfInBounds_toArray, List.set_cons_zero, List.set_cons_succ])) | ((with_reducible apply q_val); (case hw => rfl); (case hv => intro wq hbq; have hcq := cellF (Ytmjfbilhalkegaa.kept hbq HGX.out); go_simp; try rfl); (try simp only [Act.put, List.setIfInBounds_toArray, List.set_cons_zero, List.set_cons_succ])))
            refine q_nil ?_
            intro w4 hb4
            have HB4 := Lib.hid (below_then HB.out hb4)
            clear hb4
            go_wp2
            go_roundg (n - (k + 1))
            case measure => omega
            case rel => exact ⟨k + 1, by omega, rfl, by go_num, HB4.out⟩
          · cases bk
            · by_cases hp : pk ≤ pi
              · obtain rfl := HUik.out rfl rfl hp
                have hge : decide (pi ≥ pk) = true := decide_eq_true hp
                go_upto_region 7 with fail
                refine wp_region_below (by kernel_rfl) (by kernel_rfl) ?_
                repeat (first | ((with_reducible apply q_skip); (case hw => rfl); (try simp only [Act.put, List.setIfInBounds_toArray, List.set_cons_zero, List.set_cons_succ])) | ((with_reducible apply q_val); (case hw => rfl); (case hv => intro wq hbq; have hcq := cellF (Ytmjfbilhalkegaa.kept hbq HGX.out); go_simp; try rfl); (try simp only [Act.put, List.setIfInBounds_toArray, List.set_cons_zero, List.set_cons_succ])))
                refine q_nil ?_
                intro w4 hb4
                have HB4 := Lib.hid (below_then HB.out hb4)
                clear hb4
                go_wp2
                go_roundg (n - (k + 1))
                case measure => omega
                case rel => exact ⟨k + 1, by omega, rfl, by go_num, HB4.out⟩
              · have hge : ¬ (pi ≥ pk) := hp
                go_upto_region 7 with fail
                refine wp_region_below (by kernel_rfl) (by kernel_rfl) ?_
                repeat (first | ((with_reducible apply q_skip); (case hw => rfl); (try simp only [Act.put, List.setIfInBounds_toArray, List.set_cons_zero, List.set_cons_succ])) | ((with_reducible apply q_val); (case hw => rfl); (case hv => intro wq hbq; have hcq := cellF (Ytmjfbilhalkegaa.kept hbq HGX.out); go_simp; try rfl); (try simp only [Act.put, List.setIfInBounds_toArray, List.set_cons_zero, List.set_cons_succ])))
                refine q_nil ?_
                intro w4 hb4
                have HB4 := Lib.hid (below_then HB.out hb4)
                clear hb4
                go_wp2
                go_roundg (n - (k + 1))
                case measure => omega
                case rel => exact ⟨k + 1, by omega, rfl, by go_num, HB4.out⟩
            · go_upto_region 7 with fail
              refine wp_region_below (by kernel_rfl) (by kernel_rfl) ?_
              repeat (first | ((with_reducible apply q_skip); (case hw => rfl); (try simp only [Act.put, List.setIfInBounds_toArray, List.set_cons_zero, List.set_cons_succ])) | ((with_reducible apply q_val); (case hw => rfl); (case hv => intro wq hbq; have hcq := cellF (Ytmjfbilhalkegaa.kept hbq HGX.out); go_simp; try rfl); (try simp only [Act.put, List.setIfInBounds_toArray, List.set_cons_zero, List.set_cons_succ])))
              refine q_nil ?_
              intro w4 hb4
              have HB4 := Lib.hid (below_then HB.out hb4)
              clear hb4
              go_wp2
              go_roundg (n - (k + 1))
              case measure => omega
              case rel => exact ⟨k + 1, by omega, rfl, by go_num, HB4.out⟩
        · obtain rfl : k = n := by omega
          go_wp2
          go_roundg (k - (i + 1))
          case measure => omega
          case rel => exact ⟨i + 1, by omega, rfl, by go_num, HB.out⟩
    · obtain rfl : i = n := by omega
      go_wp2
      go_ret
      exact ⟨rfl, HB1.out⟩
end Go.Proofs.Ytmjfbilhalkegaa
