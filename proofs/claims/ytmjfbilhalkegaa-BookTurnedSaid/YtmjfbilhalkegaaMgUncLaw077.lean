/- Texts that UncLaw07 stands on, one behind the other, part 7. Conditions: each theorem names its own. -/
import Derived.Test.YtmjfbilhalkegaaMgUncLaw076
import Derived.Lib.SmallJoins
/-! Reach of a side that is one. Condition: the side is one. -/
namespace Go.Proofs.Ytmjfbilhalkegaa
set_option linter.unusedVariables false
set_option linter.unusedSimpArgs false
open Go.RowKit Go.Shelf
attribute [local go_sem] Oper.semAt_some

/-- what the first j orders of other accounts than n have left -/
def rchA (L : Nat → Array Value) (n : Int) : Nat → Int
  | 0 => 0
  | j + 1 => if N (L j) 1 = n then rchA L n j else wrap64 (rchA L n j + N (L j) 4)

/-- the cells that a loop's body reads and writes, a block of cells more -/
theorem ownFrom_cells {B : Nat} {b : Nat} {c : Nat → Array Value} {t : TypeId} {fr : Nat × Nat} : OwnFrom B (fun (j : Nat) W => W.heap[b]? = some (.cells (c j) t fr)) := fun j W W' row h hg hr =>
  (hg.block b (Array.getElem?_eq_some_iff.1 h).1 (fun e => by
    obtain ⟨_, o, ho, hc⟩ := hr b e.symm
    rw [h] at ho
    cases ho
    exact absurd hc (by simp [Obj.isCells]))).trans h

theorem wpIn_lit {F : Fence} {n : Nat} {P : Program} {c : Code} {Q : Exit → Act → World → Prop} {a t : Array Value} {ds : List Deferred} {w : World} (h : a = t) (hh : c.wpIn F n P Q ⟨t, ds⟩ w) : c.wpIn F n P Q ⟨a, ds⟩ w := by rw [h]; exact hh
set_option maxRecDepth 100000 in
set_option maxHeartbeats 4000000 in
theorem sreach_yes {w : World} {g base k : Nat} {buy : Bool} {L : Nat → Array Value} (x n : Int) (h : SideIs w g base k buy L) :
    Calls Try.prog 29 #[.pointer (some ⟨g, 0, none⟩), .int .i64 x, .int .u32 n] w fun e w' => (∃ j, j ≤ k ∧ (∀ i, i < j → bet buy x (N (L i) 3) = false) ∧ (j = k ∨ bet buy x (N (L j) 3) = true) ∧ e = .returned (.int .i64 (rchA L n j))) ∧ Below w.heap.size w w' := by
  have hlt : g < w.heap.size := by obtain ⟨v, hg, _⟩ := h.row; exact (cells_of hg).2.2
  refine calls_marks Try.func29 rfl ?_
  simp only [Try.ntmps29, List.size_toArray, List.length_cons, List.length_nil, Nat.reduceAdd, Nat.reduceSub, Array.replicate_succ, Array.replicate_zero, List.push_toArray, List.append_toArray, List.nil_append, List.cons_append]
  go_wp2_with ((go_at_call 36; (with_reducible refine (sall_any _).mono ?_); rintro e w6 ⟨rfl, rfl⟩))
  generalize hp : (some ⟨g, 0, none⟩ : Option Addr) = p at *
  have hB5 : Below w.heap.size w (((((w.alloc (Obj.cells #[Value.pointer p] 54)).alloc (Obj.cells #[Value.int IntKind.i64 x] 2)).alloc (Obj.cells #[Value.int IntKind.u32 n] 28)).alloc (Obj.cells #[Value.int IntKind.i64 0] 2)).alloc (Obj.cells #[Value.pointer p] 54)) := below_alloc (below_alloc (below_alloc (below_alloc (below_new _ _) _) _) _) _
  have h3 : (((((w.alloc (Obj.cells #[Value.pointer p] 54)).alloc (Obj.cells #[Value.int IntKind.i64 x] 2)).alloc (Obj.cells #[Value.int IntKind.u32 n] 28)).alloc (Obj.cells #[Value.int IntKind.i64 0] 2)).alloc (Obj.cells #[Value.pointer p] 54)).heap[w.heap.size]? = some (.cells #[Value.pointer p] 54 (0, 0)) := heap_up (heap_up (heap_up (heap_up (heap_alloc_new _ _))))
  have h4 : (((((w.alloc (Obj.cells #[Value.pointer p] 54)).alloc (Obj.cells #[Value.int IntKind.i64 x] 2)).alloc (Obj.cells #[Value.int IntKind.u32 n] 28)).alloc (Obj.cells #[Value.int IntKind.i64 0] 2)).alloc (Obj.cells #[Value.pointer p] 54)).heap[w.heap.size + 1]? = some (.cells #[Value.int IntKind.i64 x] 2 (0, 0)) := by repeat (first | exact heap_new (by simp; done) | refine heap_up ?_)
  have h5 : (((((w.alloc (Obj.cells #[Value.pointer p] 54)).alloc (Obj.cells #[Value.int IntKind.i64 x] 2)).alloc (Obj.cells #[Value.int IntKind.u32 n] 28)).alloc (Obj.cells #[Value.int IntKind.i64 0] 2)).alloc (Obj.cells #[Value.pointer p] 54)).heap[w.heap.size + 1 + 1]? = some (.cells #[Value.int IntKind.u32 n] 28 (0, 0)) := by repeat (first | exact heap_new (by simp; done) | refine heap_up ?_)
  have h6 : (((((w.alloc (Obj.cells #[Value.pointer p] 54)).alloc (Obj.cells #[Value.int IntKind.i64 x] 2)).alloc (Obj.cells #[Value.int IntKind.u32 n] 28)).alloc (Obj.cells #[Value.int IntKind.i64 0] 2)).alloc (Obj.cells #[Value.pointer p] 54)).heap[w.heap.size + 1 + 1 + 1]? = some (.cells #[Value.int IntKind.i64 0] 2 (0, 0)) := by repeat (first | exact heap_new (by simp; done) | refine heap_up ?_)
  have hbox : (((((w.alloc (Obj.cells #[Value.pointer p] 54)).alloc (Obj.cells #[Value.int IntKind.i64 x] 2)).alloc (Obj.cells #[Value.int IntKind.u32 n] 28)).alloc (Obj.cells #[Value.int IntKind.i64 0] 2)).alloc (Obj.cells #[Value.pointer p] 54)).heap[w.heap.size + 1 + 1 + 1 + 1]? = some (.cells #[Value.pointer p] 54 (0, 0)) := by repeat (first | exact heap_new (by simp; done) | refine heap_up ?_)
  have hs5 : (((((w.alloc (Obj.cells #[Value.pointer p] 54)).alloc (Obj.cells #[Value.int IntKind.i64 x] 2)).alloc (Obj.cells #[Value.int IntKind.u32 n] 28)).alloc (Obj.cells #[Value.int IntKind.i64 0] 2)).alloc (Obj.cells #[Value.pointer p] 54)).heap.size = w.heap.size + 5 := by simp
  have hP5 := h.kept hB5
  obtain ⟨w5, hw5⟩ : ∃ w5, w5 = (((((w.alloc (Obj.cells #[Value.pointer p] 54)).alloc (Obj.cells #[Value.int IntKind.i64 x] 2)).alloc (Obj.cells #[Value.int IntKind.u32 n] 28)).alloc (Obj.cells #[Value.int IntKind.i64 0] 2)).alloc (Obj.cells #[Value.pointer p] 54)) := ⟨_, rfl⟩
  rw [← hw5] at hB5 h3 h4 h5 h6 hbox hs5 hP5 ⊢
  clear hw5
  subst hp
  refine range_rounds (gf := 47) (lb := #[.pointer (some ⟨w.heap.size + 1 + 1 + 1 + 1, 0, none⟩)]) (encs := fun j => #[.agg (L j)]) (k := k) rfl (enters_of Try.func47 (by kernel_rfl) rfl) (fun _ => rfl) (sall_seq hbox hP5 (Nat.le_refl _))
    (fun j W => (((W.heap[w.heap.size]? = some (.cells #[.pointer (some ⟨g, 0, none⟩)] 54 (0, 0)) ∧ W.heap[w.heap.size + 1]? = some (.cells #[.int .i64 x] 2 (0, 0))) ∧ W.heap[w.heap.size + 1 + 1]? = some (.cells #[.int .u32 n] 28 (0, 0))) ∧ W.heap[w.heap.size + 1 + 1 + 1]? = some (.cells #[.int .i64 (rchA L n j)] 2 (0, 0))) ∧ Below w.heap.size w W ∧ ∀ i, i < j → bet buy x (N (L i) 3) = false)
    (fun c j W => c = .exit 0 ∧ ∃ m, j = m + 1 ∧ (∀ i, i < m → bet buy x (N (L i) 3) = false) ∧ bet buy x (N (L m) 3) = true ∧ W.heap[w.heap.size + 1 + 1 + 1]? = some (.cells #[.int .i64 (rchA L n m)] 2 (0, 0)) ∧ Below w.heap.size w W)
    ?oI ?oX ?i0 (fun j W => W.alloc (.cells (L j) 30)) (fun j W => World.grownBy_alloc W _ none)
    (fun j W0 => { tmps := #[.pointer (some ⟨g, 0, none⟩), .int .i64 x, .int .u32 n, .pointer (some ⟨w.heap.size, 0, none⟩), .pointer (some ⟨w.heap.size + 1, 0, none⟩), .pointer (some ⟨w.heap.size + 1 + 1, 0, none⟩), .pointer (some ⟨w.heap.size + 1 + 1 + 1, 0, none⟩), .pointer (some ⟨W0.heap.size, 0, none⟩), .pointer (some ⟨g, 0, none⟩),
      .func (.func 47) #[] #[.pointer (some ⟨w.heap.size + 1 + 1 + 1 + 1, 0, none⟩)], .agg (L j), undef, undef, undef, undef, undef, undef, undef, undef, undef, undef, undef, undef, undef, undef], defers := [] }) ?assign ?body ?done ?stop
  case oI =>
    refine OwnFrom.and (OwnFrom.and (OwnFrom.and (OwnFrom.and ownFrom_cells ownFrom_cells) ownFrom_cells) ownFrom_cells) (OwnFrom.and (ownFrom_below (Nat.le_refl _) (by omega)) (fun _ _ _ _ h _ _ => h))
  case oX =>
    rintro c j W W' row ⟨h1, m, h2, h3, h4, h5, h6⟩ hg hr
    exact ⟨h1, m, h2, h3, h4, ownFrom_cells (c := fun _ => #[.int .i64 (rchA L n m)]) m W W' row h5 hg hr, ownFrom_below (Nat.le_refl _) (by omega) m W W' row h6 hg hr⟩
  case i0 => exact ⟨⟨⟨⟨h3, h4⟩, h5⟩, h6⟩, hB5, fun i hi => by omega⟩
  case assign =>
    intro l j W K hj hK
    have hO := hP5.ord j
    have hsz := hO.size
    refine wpIn_lit (t := #[.pointer (some ⟨g, 0, none⟩), .int .i64 x, .int .u32 n, .pointer (some ⟨w.heap.size, 0, none⟩), .pointer (some ⟨w.heap.size + 1, 0, none⟩), .pointer (some ⟨w.heap.size + 1 + 1, 0, none⟩), .pointer (some ⟨w.heap.size + 1 + 1 + 1, 0, none⟩), undef, .pointer (some ⟨g, 0, none⟩),
      .func (.func 47) #[] #[.pointer (some ⟨w.heap.size + 1 + 1 + 1 + 1, 0, none⟩)], .agg (L j), undef, undef, undef, undef, undef, undef, undef, undef, undef, undef, undef, undef, undef, undef]) (by simp) ?_
    gi_wp2_with (first | ((with_reducible refine at_allocIn 30 ?_); refine wpListIn_alloc_named rfl 30 rfl (#[.int .u64 0, .int .u32 0, .bool false, .int .i64 0, .int .i64 0]) (by kernel_rfl) ?_) | ((with_reducible refine at_storeIn 30 ?_); refine wpListIn_store_new rfl 30 _ _ rfl (L j) _ _ _ rfl (by simp) rfl (by rw [hsz]; kernel_rfl) (by rw [hsz]; rfl) (hO.all) ?_))
    exact hK
  case body =>
    rintro l j W0 W hj ⟨⟨⟨⟨i3, i4⟩, i5⟩, i6⟩, iB, ib⟩ hsW hup _
    have hO := hP5.ord j
    have hv := hup _ _ _ _ (heap_alloc_new W0 (Obj.cells (L j) 30))
    have cv := cellF hv
    have c3 := cellF i3
    have c4 := cellF i4
    have c5 := cellF i5
    have c6 := cellF i6
    have f6 := (cells_of i6).2.1
    obtain ⟨v, hgg, _⟩ := (h.kept iB).row
    have cb := better_any x (N (L j) 3) hgg
    have e1 := hO.a.1
    have e3 := hO.p.1
    have e4 := hO.l.1
    have HA := Lib.hid (show rchA L n (j + 1) = if N (L j) 1 = n then rchA L n j else wrap64 (rchA L n j + N (L j) 4) from rfl)
    have HI := Lib.hid (And.intro i6 (And.intro iB ib))
    have HJ := Lib.hid (And.intro i3 (And.intro i4 i5))
    clear hO hv i6 iB ib hgg i3 i4 i5 hP5 h hup hbox h3 h4 h5 h6 hB5
    generalize e5 : N (L j) 3 = y at *
    generalize e6 : N (L j) 1 = ac at *
    generalize e7 : N (L j) 4 = lf at *
    have HE := Lib.hid (And.intro e5 (And.intro e6 e7))
    clear e5 e6 e7
    cases hbt : bet buy x y with
    | true =>
      rw [hbt] at cb
      have HB := Lib.hid hbt
      clear hbt
      gi_wp2_with (refine And.intro (show (Fence.wide.inRound l).fn 38 from trivial) ?_; refine (CallsIn.inRound l (callsIn_wide.2 cb)).mono ?_; rintro e w1 ⟨rfl, rfl⟩)
      exact ⟨KeepsOthers.refl _, rfl, j, rfl, HI.out.2.2, by rw [HE.out.1]; exact HB.out, HI.out.1, HI.out.2.1⟩
    | false =>
      rw [hbt] at cb
      have HB := Lib.hid hbt
      have hnext : ∀ i, i < j + 1 → bet buy x (N (L i) 3) = false := fun i hi => by
        by_cases e : i = j
        · subst e; rw [HE.out.1]; exact HB.out
        · exact HI.out.2.2 i (by omega)
      have HN := Lib.hid hnext
      clear hnext
      clear hbt
      by_cases ha : ac = n
      · gi_wp2_with (refine And.intro (show (Fence.wide.inRound l).fn 38 from trivial) ?_; refine (CallsIn.inRound l (callsIn_wide.2 cb)).mono ?_; rintro e w1 ⟨rfl, rfl⟩)
        refine ⟨KeepsOthers.refl _, Kn.refl _ _, ⟨⟨⟨HJ.out.1, HJ.out.2.1⟩, HJ.out.2.2⟩, ?_⟩, HI.out.2.1, HN.out⟩
        rw [HA.out, if_pos ha]
        exact HI.out.1
      · gi_wp2_with (refine And.intro (show (Fence.wide.inRound l).fn 38 from trivial) ?_; refine (CallsIn.inRound l (callsIn_wide.2 cb)).mono ?_; rintro e w1 ⟨rfl, rfl⟩)
        have ho : ∀ i, i ≠ w.heap.size + 1 + 1 + 1 → (W.setCell ⟨w.heap.size + 1 + 1 + 1, 0, none⟩ (.int .i64 (wrap64 (rchA L n j + lf)))).heap[i]? = W.heap[i]? := fun i hi => heap_setCell_other W _ _ _ hi
        refine ⟨KeepsOthers.setCell _ _ _, kn_set (g := w.heap.size + 1 + 1 + 1) (by omega) ho, ⟨⟨⟨(ho _ (by omega)).trans HJ.out.1, (ho _ (by omega)).trans HJ.out.2.1⟩, (ho _ (by omega)).trans HJ.out.2.2⟩, ?_⟩, below_set HI.out.2.1 (by omega), HN.out⟩
        rw [HA.out, if_neg ha]
        exact heap_set (i := 0) HI.out.1
  case done =>
    rintro D W hD ⟨⟨_, i6⟩, iB, ib⟩ hK
    have c6 := cellF i6
    have f6 := (cells_of i6).2.1
    have hne : D ≠ w.heap.size + 1 + 1 + 1 := by omega
    have hz := heap_set_other (g := w.heap.size + 1 + 1 + 1) (i := 0) (v := .int .i64 (rchA L n k)) hK hne
    have hz6 := heap_set (i := 0) (v := .int .i64 (rchA L n k)) i6
    have hBz := below_set (g := w.heap.size + 1 + 1 + 1) (i := 0) (v := .int .i64 (rchA L n k)) iB (by omega)
    go_wp2_with fail
    refine leaves_cons hz ?_
    have hc := cellF (put_other (o' := .deferred none) hz hz6 (Ne.symm hne)) 0
    refine leaves_nil (v := .int .i64 (rchA L n k)) ?_ ⟨⟨k, Nat.le_refl _, ib, .inl rfl, rfl⟩, below_put hBz (by omega) hz (Nat.le_refl _)⟩
    simp [results, Try.f29, go_sem, hc]
  case stop =>
    rintro D c j W hD hj ⟨rfl, m, rfl, ib, ibt, i6, iB⟩ hK
    have c6 := cellF i6
    have f6 := (cells_of i6).2.1
    have hne : D ≠ w.heap.size + 1 + 1 + 1 := by omega
    have hz := heap_set_other (g := w.heap.size + 1 + 1 + 1) (i := 0) (v := .int .i64 (rchA L n m)) hK hne
    have hz6 := heap_set (i := 0) (v := .int .i64 (rchA L n m)) i6
    have hBz := below_set (g := w.heap.size + 1 + 1 + 1) (i := 0) (v := .int .i64 (rchA L n m)) iB (by omega)
    go_wp2_with fail
    refine leaves_cons hz ?_
    have hc := cellF (put_other (o' := .deferred none) hz hz6 (Ne.symm hne)) 0
    refine leaves_nil (v := .int .i64 (rchA L n m)) ?_ ⟨⟨m, by omega, ib, .inr ibt, rfl⟩, below_put hBz (by omega) hz (Nat.le_refl _)⟩
    simp [results, Try.f29, go_sem, hc]
end Go.Proofs.Ytmjfbilhalkegaa
/-! Orders as plain data; sides as lists of them. No condition. -/
namespace Go.Proofs.Ytmjfbilhalkegaa
set_option linter.unusedVariables false
set_option linter.unusedSimpArgs false
open Go.RowKit

structure Od where
  n : Int
  a : Int
  b : Bool
  p : Int
  q : Int
def od0 : Od := ⟨0, 0, false, 0, 0⟩
def oa (o : Od) : Array Value := #[.int .u64 o.n, .int .u32 o.a, .bool o.b, .int .i64 o.p, .int .i64 o.q]
theorem oa0 : oa od0 = zo := rfl
structure OkO (o : Od) : Prop where
  n : 0 ≤ o.n ∧ o.n ≤ 18446744073709551615
  a : 0 ≤ o.a ∧ o.a ≤ 4294967295
  p : F64 o.p
  q : F64 o.q
theorem oa_ord {o : Od} (h : OkO o) : IsOrd (oa o) := ⟨rfl, IsN_of (n := o.n) rfl ⟨h.n.1, h.n.2⟩, IsN_of (n := o.a) rfl ⟨h.a.1, h.a.2⟩, IsB_of (b := o.b) rfl, IsN_of (n := o.p) rfl h.p, IsN_of (n := o.q) rfl h.q⟩
theorem oa_N0 (o : Od) : N (oa o) 0 = o.n := N_of (k := .u64) rfl
theorem oa_N1 (o : Od) : N (oa o) 1 = o.a := N_of (k := .u32) rfl
theorem oa_B2 (o : Od) : Bo (oa o) 2 = o.b := Bo_of rfl
theorem oa_N3 (o : Od) : N (oa o) 3 = o.p := N_of (k := .i64) rfl
theorem oa_N4 (o : Od) : N (oa o) 4 = o.q := N_of (k := .i64) rfl
theorem od0_ok : OkO od0 := ⟨by show (0:Int) ≤ 0 ∧ (0:Int) ≤ _; omega, by show (0:Int) ≤ 0 ∧ (0:Int) ≤ _; omega, by show F64 0; unfold F64; omega, by show F64 0; unfold F64; omega⟩
theorem okO_of {o : Od} (h : IsOrd (oa o)) : OkO o := by
  have h0 := h.n.2
  have h1 := h.a.2
  have h3 := h.p.2
  have h4 := h.l.2
  rw [oa_N0] at h0
  rw [oa_N1] at h1
  rw [oa_N3] at h3
  rw [oa_N4] at h4
  exact ⟨h0, h1, h3, h4⟩
def od (l : List Od) (i : Nat) : Od := l.getD i od0
/-- a side, as a list -/
structure SL (w : World) (g base : Nat) (buy : Bool) (l : List Od) : Prop where
  s : SideIs w g base l.length buy (fun i => oa (od l i))
  ok : ∀ o, o ∈ l → OkO o
theorem SL.kept {w w' : World} {g base : Nat} {buy : Bool} {l : List Od} (h : SL w g base buy l) (hb : Below w.heap.size w w') : SL w' g base buy l := ⟨h.s.kept hb, h.ok⟩
theorem od_ok {l : List Od} (h : ∀ o, o ∈ l → OkO o) (i : Nat) : OkO (od l i) := by
  unfold od
  rw [List.getD_eq_getElem?_getD]
  cases hi : l[i]? with
  | none => exact od0_ok
  | some o => exact h o (List.mem_of_getElem? hi)
theorem SideIs.congr {w : World} {g base k : Nat} {buy : Bool} {L L' : Nat → Array Value} (h : SideIs w g base k buy L) (hL : ∀ i, IsOrd (L' i)) (e : ∀ i, i < k → L i = L' i) : SideIs w g base k buy L' := by
  obtain ⟨v, hg, hr⟩ := h.row
  refine ⟨⟨v, hg, ?_⟩, hL, h.bg, h.hk⟩
  rw [flat_congr (L := L') (L' := L) k (fun i hi => (e i hi).symm)]
  exact hr
theorem sl_of {w : World} {g base k : Nat} {buy : Bool} {L : Nat → Array Value} {l : List Od} (h : SideIs w g base k buy L) (hk : k = l.length) (ho : ∀ o, o ∈ l → OkO o) (e : ∀ i, i < k → L i = oa (od l i)) : SL w g base buy l := by
  subst hk
  exact ⟨h.congr (fun i => oa_ord (od_ok ho i)) e, ho⟩
/-- whether a resting price is as good as an order's, or better -/
def crs (o : Od) (p : Int) : Bool := if o.b then decide (p ≤ o.p) else decide (o.p ≤ p)
/-- one trade -/
structure Tr where
  p : Int
  q : Int
  n : Int
  a : Int
def ta (t : Tr) : Array Value := #[.int .i64 t.p, .int .i64 t.q, .int .u64 t.n, .int .u32 t.a]
/-- what comes of an order that meets a side -/
structure Met where
  rest : List Od
  left : Int
  filled : Int
  tr : List Tr
  gone : List Int
def meet (o : Od) : Int → List Od → Met
  | left, [] => ⟨[], left, 0, [], []⟩
  | left, x :: r =>
    if left ≤ 0 then ⟨x :: r, left, 0, [], []⟩
    else if crs o x.p = false then ⟨x :: r, left, 0, [], []⟩
    else if x.a = o.a then { meet o left r with gone := x.n :: (meet o left r).gone }
    else if left < x.q then ⟨{ x with q := x.q - left } :: r, 0, left, [⟨x.p, left, x.n, x.a⟩], []⟩
    else { meet o (left - x.q) r with filled := x.q + (meet o (left - x.q) r).filled, tr := ⟨x.p, x.q, x.n, x.a⟩ :: (meet o (left - x.q) r).tr }
/-- an order comes to its place -/
def put (buy : Bool) (o : Od) : List Od → List Od
  | [] => [o]
  | x :: r => if bet buy o.p x.p then o :: x :: r else x :: put buy o r
/-- what a price reaches, of other accounts -/
def rch (buy : Bool) (p a : Int) : List Od → Int
  | [] => 0
  | x :: r => if bet buy p x.p then 0 else (if x.a = a then 0 else x.q) + rch buy p a r
/-- an order by its number -/
def gt (n : Int) : List Od → Option Od
  | [] => none
  | x :: r => if x.n = n then some x else gt n r
/-- without the order of that number -/
def del (n : Int) : List Od → List Od
  | [] => []
  | x :: r => if x.n = n then r else x :: del n r
end Go.Proofs.Ytmjfbilhalkegaa
/-! A side as a list of orders: its calls. Condition: the side is one. -/
namespace Go.Proofs.Ytmjfbilhalkegaa
set_option linter.unusedVariables false
set_option linter.unusedSimpArgs false
open Go.RowKit

/-- what a call of a side leaves -/
structure SK (g base : Nat) (buy : Bool) (l : List Od) (w w' : World) : Prop where
  s : SL w' g base buy l
  be : Below base w w'
  ko : Ko g w w'
  ks : Ks g w w'
theorem sl_low {w : World} {g base : Nat} {buy : Bool} {l : List Od} (h : SL w g base buy l) : base ≤ w.heap.size := by
  obtain ⟨v, hg, _⟩ := h.s.row
  have := (Array.getElem?_eq_some_iff.1 hg).1; have := h.s.bg; omega
theorem sk_same {w w' : World} {g base : Nat} {buy : Bool} {l : List Od} (h : SL w g base buy l) (hb : Below w.heap.size w w') : SK g base buy l w w' := ⟨h.kept hb, hb.mono (sl_low h), ko_below hb, ks_below hb⟩
theorem od_z (x : Od) (r : List Od) : od (x :: r) 0 = x := rfl
theorem od_s (x : Od) (r : List Od) (i : Nat) : od (x :: r) (i + 1) = od r i := rfl
theorem best_nil {w : World} {g base : Nat} {buy : Bool} (h : SL w g base buy []) : Calls Try.prog 40 #[.pointer (some ⟨g, 0, none⟩)] w fun e w' => e = .returned (.tuple #[.agg (oa od0), .bool false]) ∧ Below w.heap.size w w' := sbest_zero h.s
theorem best_cons {w : World} {g base : Nat} {buy : Bool} {x : Od} {r : List Od} (h : SL w g base buy (x :: r)) : Calls Try.prog 40 #[.pointer (some ⟨g, 0, none⟩)] w fun e w' => e = .returned (.tuple #[.agg (oa x), .bool true]) ∧ Below w.heap.size w w' := sbest_yes h.s (by simp)
theorem fill_part {w : World} {g base : Nat} {buy : Bool} {x : Od} {r : List Od} (n : Int) (h : SL w g base buy (x :: r)) (h1 : 1 ≤ n) (h2 : n < x.q) :
    Calls Try.prog 42 #[.pointer (some ⟨g, 0, none⟩), .int .i64 n] w fun e w' => (∃ v, e = .returned (.tuple #[.agg v, .int .i64 0])) ∧ SK g base buy ({ x with q := x.q - n } :: r) w w' := by
  have e0 : N (oa (od (x :: r) 0)) 4 = x.q := oa_N4 x
  have hx := h.ok x (by simp)
  refine (sfill_some_k n h.s (by simp) h1 (by rw [e0]; exact h2)).mono fun e w' ⟨q1, q2, q3, q4, q5⟩ => ⟨⟨_, q1⟩, sl_of q2 rfl (fun o ho => ?_) (fun i hi => ?_), q3, q4, q5⟩
  · rcases List.mem_cons.1 ho with rfl | ho
    · have := hx.q
      exact ⟨hx.n, hx.a, hx.p, by show F64 (x.q - n); unfold F64 at this ⊢; omega⟩
    · exact h.ok o (by simp [ho])
  · rw [e0]
    unfold lo
    cases i with
    | zero => rfl
    | succ i => rfl
theorem fill_whole {w : World} {g base : Nat} {buy : Bool} {x : Od} {r : List Od} (h : SL w g base buy (x :: r)) (h1 : 1 ≤ x.q) :
    Calls Try.prog 42 #[.pointer (some ⟨g, 0, none⟩), .int .i64 x.q] w fun e w' => (∃ v, e = .returned (.tuple #[.agg v, .int .i64 0])) ∧ SK g base buy r w w' := by
  have e0 : N (oa (od (x :: r) 0)) 4 = x.q := oa_N4 x
  have c := sfill_all_k h.s (by simp) (by rw [e0]; exact h1)
  rw [e0] at c
  refine c.mono fun e w' ⟨q1, q2, q3, q4, q5⟩ => ⟨⟨_, q1⟩, sl_of q2 (by simp) (fun o ho => h.ok o (by simp [ho])) (fun i hi => ?_), q3, q4, q5⟩
  unfold rem
  rw [if_neg (by omega)]
  rfl
/-- the place of a number -/
def ix (n : Int) (l : List Od) : Int := fi (fun j => decide (N (oa (od l j)) 0 = n)) l.length
theorem fi_uni {q : Nat → Bool} {k i : Nat} (hi : i < k) (hq : q i = true) (hl : ∀ j, j < i → q j = false) : fi q k = i := fi_hit (fi_no i hl) hq hi
theorem ix_none {n : Int} : ∀ {l : List Od}, gt n l = none → ∀ j, j < l.length → (od l j).n ≠ n
  | [], _, j, hj => by simp at hj
  | x :: r, h, j, hj => by
    unfold gt at h
    by_cases e : x.n = n
    · rw [if_pos e] at h; cases h
    · rw [if_neg e] at h
      cases j with
      | zero => exact e
      | succ j => exact ix_none h j (by simpa using hj)
theorem ix_some {n : Int} {o : Od} : ∀ {l : List Od}, gt n l = some o → ∃ i, i < l.length ∧ od l i = o ∧ o.n = n ∧ (∀ j, j < i → (od l j).n ≠ n) ∧ ∀ j, od (del n l) j = if j < i then od l j else od l (j + 1)
  | [], h => by cases h
  | x :: r, h => by
    unfold gt at h
    by_cases e : x.n = n
    · rw [if_pos e] at h
      cases h
      refine ⟨0, by simp, rfl, e, fun j hj => by omega, fun j => ?_⟩
      rw [if_neg (by omega)]
      unfold del
      rw [if_pos e]
      rfl
    · rw [if_neg e] at h
      obtain ⟨i, h1, h2, h3, h4, h5⟩ := ix_some h
      refine ⟨i + 1, by simpa using h1, h2, h3, fun j hj => ?_, fun j => ?_⟩
      · cases j with
        | zero => exact e
        | succ j => exact h4 j (by omega)
      · unfold del
        rw [if_neg e]
        cases j with
        | zero => rw [if_pos (by omega)]; rfl
        | succ j =>
          rw [od_s, h5 j]
          by_cases hj : j < i
          · rw [if_pos hj, if_pos (by omega)]; rfl
          · rw [if_neg hj, if_neg (by omega)]; rfl
theorem del_len {n : Int} {o : Od} : ∀ {l : List Od}, gt n l = some o → (del n l).length = l.length - 1
  | [], h => by cases h
  | x :: r, h => by
    unfold gt at h
    unfold del
    by_cases e : x.n = n
    · rw [if_pos e]; simp
    · rw [if_neg e] at h
      rw [if_neg e, List.length_cons, del_len h]
      have : 0 < r.length := by cases r with
        | nil => cases h
        | cons y s => simp
      simp; omega
theorem del_mem {n : Int} : ∀ {l : List Od} {o : Od}, o ∈ del n l → o ∈ l
  | [], o, h => by cases h
  | x :: r, o, h => by
    unfold del at h
    by_cases e : x.n = n
    · rw [if_pos e] at h; simp [h]
    · rw [if_neg e] at h
      rcases List.mem_cons.1 h with rfl | h
      · simp
      · simp [del_mem h]
theorem fi_gt {n : Int} {l : List Od} (h : gt n l = none) : fi (fun j => decide (N (oa (od l j)) 0 = n)) l.length = -1 := fi_no _ (fun j hj => by rw [oa_N0]; exact decide_eq_false (ix_none h j hj))
theorem drop_in {w : World} {g base : Nat} {buy : Bool} {l : List Od} {o : Od} (n : Int) (h : SL w g base buy l) (ho : gt n l = some o) :
    Calls Try.prog 33 #[.pointer (some ⟨g, 0, none⟩), .int .u64 n] w fun e w' => e = .returned (.tuple #[.agg (oa o), .int .i64 0]) ∧ SK g base buy (del n l) w w' := by
  obtain ⟨i, h1, h2, h3, h4, h5⟩ := ix_some ho
  have hfi : fi (fun j => decide (N (oa (od l j)) 0 = n)) l.length = i := fi_uni h1 (by rw [oa_N0, h2]; exact decide_eq_true h3) (fun j hj => by rw [oa_N0]; exact decide_eq_false (h4 j hj))
  have c := sdrop_in_k n h.s hfi
  rw [h2] at c
  refine c.mono fun e w' ⟨q1, q2, q3, q4, q5⟩ => ⟨q1, sl_of q2 (by rw [del_len ho]) (fun o ho => h.ok o (del_mem ho)) (fun j hj => ?_), q3, q4, q5⟩
  unfold rem
  rw [h5 j]
  split <;> rfl
theorem get_in {w : World} {g base : Nat} {buy : Bool} {l : List Od} {o : Od} (n : Int) (h : SL w g base buy l) (ho : gt n l = some o) :
    Calls Try.prog 37 #[.pointer (some ⟨g, 0, none⟩), .int .u64 n] w fun e w' => e = .returned (.tuple #[.agg (oa o), .int .i64 0]) ∧ Below w.heap.size w w' := by
  obtain ⟨i, h1, h2, h3, h4, h5⟩ := ix_some ho
  have hfi : fi (fun j => decide (N (oa (od l j)) 0 = n)) l.length = i := fi_uni h1 (by rw [oa_N0, h2]; exact decide_eq_true h3) (fun j hj => by rw [oa_N0]; exact decide_eq_false (h4 j hj))
  have hb0 := below_new w (Obj.cells zo 30)
  have hc := heap_alloc_new w (Obj.cells zo 30)
  have cf := sfind_yes n (h.s.kept hb0) hfi
  obtain ⟨v, hg, hrow⟩ := h.s.row
  obtain ⟨ra, rc, rfl, hR, _⟩ := own_rows (c := 5) (fun i => (h.s.ord i).size) hrow
  have HG := Lib.hid hg
  have HR := Lib.hid hR
  have hx : oa (od l i) = oa o := by rw [h2]
  have HM := Lib.hid (show (oa o).size = 5 from rfl)
  have HZ := Lib.hid zo_size
  have HMA := Lib.hid (show (oa o).all (·.oneCell') = true from by rw [← h2]; exact (h.s.ord i).all)
  have hil : (i : Int) < l.length := by omega
  generalize hOA : oa o = M at *
  clear h ho h4 h5 hfi hrow hR hg hOA
  go_enter Try.func37, Try.ntmps37
  go_wp2_with (first | ((with_reducible refine at_alloc 30 ?_); refine wpList_alloc_named rfl 30 rfl zo (by kernel_rfl) ?_) | (go_at_call 44; (with_reducible refine (cf).mono ?_); rintro e w1 ⟨rfl, hb1⟩; have hb01 := below_then hb0 hb1; have hc1 := Ytmjfbilhalkegaa.kept hb1 hc; have c1 := cellF (Ytmjfbilhalkegaa.kept hb01 HG.out); obtain ⟨gb, off, A, fr, rfl, hgA, hsA, hxA⟩ := (rowsT_kept HR.out hb01) i h1; have HX := Lib.hid (show A.extract (off + i * 5) (off + i * 5 + 5) = M from (show A.extract (off + i * 5) (off + i * 5 + 5) = oa (od l i) from hxA).trans hx)) | ((with_reducible refine at_load 30 ?_); refine wpList_load_part rfl 30 _ rfl (gb) (off + i * 5) rfl _ (A) _ _ 5 (hgA) Try.underlying30 rfl (by kernel_rfl) (hsA) (M) (HX.out) ?_) | ((with_reducible refine at_store 30 ?_); refine wpList_store_over rfl 30 _ _ rfl (w.heap.size) (M) rfl rfl _ _ (hc1) (by rw [HM.out]; kernel_rfl) (by rw [HM.out]; exact HZ.out) (HMA.out) ?_; intro w3 hg5 hs5 ho6 hb6))
  exact post_cell_tmp (g := w.heap.size) (t := 30) (v := .int .i64 0) rfl rfl rfl rfl hg5 Try.underlying30 rfl (by rw [HM.out]; kernel_rfl) ⟨rfl, hb01.trans (hb6 _ (Nat.le_refl _))⟩
theorem get_out {w : World} {g base : Nat} {buy : Bool} {l : List Od} (n : Int) (h : SL w g base buy l) (ho : gt n l = none) :
    Calls Try.prog 37 #[.pointer (some ⟨g, 0, none⟩), .int .u64 n] w fun e w' => e = .returned (.tuple #[.agg (oa od0), .int .i64 7]) ∧ Below w.heap.size w w' := by
  have hb0 := below_new w (Obj.cells zo 30)
  have hc := heap_alloc_new w (Obj.cells zo 30)
  have cf := sfind_out n (h.s.kept hb0) (fi_gt ho)
  have HZ := Lib.hid zo_size
  have HMA := Lib.hid zo_all
  rw [oa0]
  clear h ho
  go_enter Try.func37, Try.ntmps37
  go_wp2_with (first | ((with_reducible refine at_alloc 30 ?_); refine wpList_alloc_named rfl 30 rfl zo (by kernel_rfl) ?_) | (go_at_call 44; (with_reducible refine (cf).mono ?_); rintro e w1 ⟨rfl, hb1⟩; have hb01 := below_then hb0 hb1; have hc1 := Ytmjfbilhalkegaa.kept hb1 hc) | ((with_reducible refine at_build 30 ?_); refine wpList_build_named rfl 30 _ rfl zo (by kernel_rfl) ?_) | ((with_reducible refine at_store 30 ?_); refine wpList_store_over rfl 30 _ _ rfl (w.heap.size) (zo) rfl rfl _ _ (hc1) (by rw [HZ.out]; kernel_rfl) (rfl) (HMA.out) ?_; intro w3 hg5 hs5 ho6 hb6))
  exact post_cell_tmp (g := w.heap.size) (t := 30) (v := .int .i64 7) rfl rfl rfl rfl hg5 Try.underlying30 rfl (by kernel_rfl) ⟨rfl, hb01.trans (hb6 _ (Nat.le_refl _))⟩
theorem put_len (buy : Bool) (o : Od) : ∀ l, (put buy o l).length = l.length + 1
  | [] => rfl
  | x :: r => by unfold put; split <;> simp [put_len buy o r]
theorem put_mem {buy : Bool} {o x : Od} : ∀ {l}, x ∈ put buy o l → x = o ∨ x ∈ l
  | [], h => by left; simpa [put] using h
  | y :: r, h => by
    unfold put at h
    split at h
    · simpa using h
    · rcases List.mem_cons.1 h with rfl | h
      · exact .inr (by simp)
      · rcases put_mem h with h | h
        · exact .inl h
        · exact .inr (by simp [h])
/-- the place that an order comes to -/
def pt (buy : Bool) (o : Od) : List Od → Nat
  | [] => 0
  | x :: r => if bet buy o.p x.p then 0 else pt buy o r + 1
theorem pt_le (buy : Bool) (o : Od) : ∀ l, pt buy o l ≤ l.length
  | [] => Nat.le_refl _
  | x :: r => by unfold pt; split; · simp
                 · have := pt_le buy o r; simp; omega
theorem pt_lt {buy : Bool} {o : Od} : ∀ {l : List Od} {j}, j < pt buy o l → bet buy o.p (od l j).p = false
  | [], j, h => by simp [pt] at h
  | x :: r, j, h => by
    unfold pt at h
    split at h
    · omega
    · rename_i hx
      cases j with
      | zero => show bet buy o.p x.p = false; simpa using hx
      | succ j => exact pt_lt (l := r) (by omega)
theorem pt_at {buy : Bool} {o : Od} : ∀ {l : List Od}, pt buy o l < l.length → bet buy o.p (od l (pt buy o l)).p = true
  | [], h => by simp [pt] at h
  | x :: r, h => by
    unfold pt at h ⊢
    by_cases hx : bet buy o.p x.p = true
    · rw [if_pos hx]; exact hx
    · rw [if_neg hx] at h ⊢
      exact pt_at (l := r) (by simpa using h)
theorem put_od {buy : Bool} {o : Od} : ∀ {l : List Od} (j : Nat), od (put buy o l) j = if j < pt buy o l then od l j else if j = pt buy o l then o else od l (j - 1)
  | [], j => by
    unfold put pt
    rw [if_neg (by omega)]
    cases j with
    | zero => rfl
    | succ j => rw [if_neg (by omega)]; rfl
  | x :: r, j => by
    unfold put pt
    by_cases hx : bet buy o.p x.p = true
    · rw [if_pos hx, if_pos hx, if_neg (by omega)]
      cases j with
      | zero => rfl
      | succ j => rw [if_neg (by omega)]; rfl
    · rw [if_neg hx, if_neg hx]
      cases j with
      | zero => rw [if_pos (show 0 < pt buy o r + 1 by omega)]; rfl
      | succ j =>
        rw [od_s, put_od j]
        by_cases h1 : j < pt buy o r
        · rw [if_pos h1, if_pos (show j + 1 < pt buy o r + 1 by omega)]; rfl
        · by_cases h2 : j = pt buy o r
          · rw [if_neg h1, if_pos h2, if_neg (show ¬ j + 1 < pt buy o r + 1 by omega), if_pos (show j + 1 = pt buy o r + 1 by omega)]
          · rw [if_neg h1, if_neg h2, if_neg (show ¬ j + 1 < pt buy o r + 1 by omega), if_neg (show ¬ j + 1 = pt buy o r + 1 by omega)]
            obtain ⟨j, rfl⟩ : ∃ i, j = i + 1 := ⟨j - 1, by omega⟩
            rfl
theorem plc_pt {buy : Bool} {o : Od} {l : List Od} : plc buy (fun i => oa (od l i)) (oa o) l.length = pt buy o l := by
  have hle := pt_le buy o l
  unfold plc
  simp only [oa_N3]
  by_cases h : pt buy o l < l.length
  · rw [fi_uni (q := fun i => bet buy o.p (od l i).p) h (pt_at h) (fun j hj => pt_lt hj), if_neg (by omega)]
    simp
  · rw [fi_no (q := fun i => bet buy o.p (od l i).p) l.length (fun j hj => pt_lt (by omega)), if_pos (by omega)]
    omega
theorem add_ok {w : World} {g base : Nat} {buy : Bool} {l : List Od} {o : Od} (h : SL w g base buy l) (ho : OkO o) (hok : okO (oa o) = true) (hb : o.b = buy) (hfr : gt o.n l = none) (hk : l.length < 100) :
    Calls Try.prog 43 #[.pointer (some ⟨g, 0, none⟩), .agg (oa o)] w fun e w' => e = .returned (.int .i64 0) ∧ SK g base buy (put buy o l) w w' := by
  refine (sadd_ok_k buy h.s (oa_ord ho) hok (by rw [oa_B2]; exact hb) (fun i hi => by rw [oa_N0, oa_N0]; exact ix_none hfr i hi) hk).mono fun e w' ⟨q1, q2, q3, q4, q5⟩ => ⟨q1, sl_of q2 (by rw [put_len]) (fun x hx => ?_) (fun j hj => ?_), q3, q4, q5⟩
  · rcases put_mem hx with rfl | hx
    · exact ho
    · exact h.ok x hx
  · rw [plc_pt, put_od]
    unfold ins
    split
    · rfl
    · split <;> rfl
theorem len_any {w : World} {g base : Nat} {buy : Bool} {l : List Od} (h : SL w g base buy l) : Calls Try.prog 30 #[.pointer (some ⟨g, 0, none⟩)] w fun e w' => e = .returned (.int .i64 (l.length : Nat)) ∧ w = w' := slen_yes h.s
end Go.Proofs.Ytmjfbilhalkegaa
/-! A book: its small methods. Condition: the book is one. -/
namespace Go.Proofs.Ytmjfbilhalkegaa
set_option linter.unusedVariables false
set_option linter.unusedSimpArgs false
open Go.RowKit

/-- a book: its two sides, apart from each other -/
structure BookIs (w : World) (g base : Nat) (lb ls : List Od) : Prop where
  row : ∃ gb gs, w.heap[g]? = some (.cells #[.pointer (some ⟨gb, 0, none⟩), .pointer (some ⟨gs, 0, none⟩)] 56 (0, 0)) ∧ SL w gb base true lb ∧ SL w gs base false ls ∧ gb ≠ gs ∧
    ∀ vb vs, w.heap[gb]? = some (.cells #[.bool true, .bool true, vb] 77 (0, 0)) → w.heap[gs]? = some (.cells #[.bool true, .bool false, vs] 77 (0, 0)) → ∀ q, vb.ownBlock = some q → vs.ownBlock ≠ some q
  bg : base ≤ g
/-- two sides, apart from each other -/
structure Two (w : World) (gb gs base : Nat) (lb ls : List Od) : Prop where
  b : SL w gb base true lb
  s : SL w gs base false ls
  ne : gb ≠ gs
  ap : ∀ vb vs, w.heap[gb]? = some (.cells #[.bool true, .bool true, vb] 77 (0, 0)) → w.heap[gs]? = some (.cells #[.bool true, .bool false, vs] 77 (0, 0)) → ∀ q, vb.ownBlock = some q → vs.ownBlock ≠ some q
theorem side_inj {w : World} {g : Nat} {b b2 : Bool} {v v2 : Value} (h : w.heap[g]? = some (.cells #[.bool true, .bool b, v] 77 (0, 0))) (h2 : w.heap[g]? = some (.cells #[.bool true, .bool b2, v2] 77 (0, 0))) : b2 = b ∧ v2 = v := by
  rw [h] at h2
  simp at h2
  exact ⟨h2.1.symm, h2.2.symm⟩
theorem Two.kept {w w' : World} {gb gs base : Nat} {lb ls : List Od} (h : Two w gb gs base lb ls) (hb : Below w.heap.size w w') : Two w' gb gs base lb ls := by
  obtain ⟨vb, h1, _⟩ := h.b.s.row
  obtain ⟨vs, h2, _⟩ := h.s.s.row
  refine ⟨h.b.kept hb, h.s.kept hb, h.ne, fun v1 v2 e1 e2 => ?_⟩
  obtain ⟨_, rfl⟩ := side_inj (Ytmjfbilhalkegaa.kept hb h1) e1
  obtain ⟨_, rfl⟩ := side_inj (Ytmjfbilhalkegaa.kept hb h2) e2
  exact h.ap _ _ h1 h2
/-- the other side stays -/
theorem sl_stay {w w' : World} {g g2 base : Nat} {buy buy2 : Bool} {l l2 : List Od} (h : SL w g base buy l) (h2 : SL w g2 base buy2 l2) (hne : g ≠ g2) (ap : ∀ v v2, w.heap[g]? = some (.cells #[.bool true, .bool buy, v] 77 (0, 0)) → w.heap[g2]? = some (.cells #[.bool true, .bool buy2, v2] 77 (0, 0)) → ∀ q, v.ownBlock = some q → v2.ownBlock ≠ some q) (hk : Ks g w w') (hko : Ko g w w') :
    SL w' g2 base buy2 l2 ∧ ∀ v v2, w'.heap[g]? = some (.cells #[.bool true, .bool buy, v] 77 (0, 0)) → w'.heap[g2]? = some (.cells #[.bool true, .bool buy2, v2] 77 (0, 0)) → ∀ q, v.ownBlock = some q → v2.ownBlock ≠ some q := by
  obtain ⟨v, hg, hr⟩ := h.s.row
  obtain ⟨v2, hg2, hr2⟩ := h2.s.row
  obtain ⟨q1, v1, hg1, q2⟩ := hk v buy hg
  have hg2' := hko.cells g2 _ _ _ (by decide) (fun e => hne e.symm) hg2
  refine ⟨⟨⟨⟨v2, hg2', ?_⟩, h2.s.ord, h2.s.bg, h2.s.hk⟩, h2.ok⟩, fun a b e1 e2 q e3 e4 => ?_⟩
  · obtain ⟨a1, a2 | ⟨gx, cap, cur, p1, p2, p3, p4'⟩⟩ := hr2
    · exact ⟨a1, .inl a2⟩
    · refine ⟨a1, .inr ⟨gx, cap, cur, p1, p2, (q1 gx (fun e => ?_) (fun e => ap _ _ hg hg2 gx e.symm (by rw [p1]; rfl)) (Array.getElem?_eq_some_iff.1 p3).1).trans p3, p4'⟩⟩
      subst e
      rw [hg] at p3; injection p3 with p3; injection p3 with _ p3; exact absurd p3 (by decide)
  · obtain ⟨_, rfl⟩ := side_inj hg1 e1
    obtain ⟨_, rfl⟩ := side_inj hg2' e2
    rcases q2 with q2 | ⟨b2, q2, q3⟩
    · exact ap _ _ hg hg2 q (q2.symm.trans e3) e4
    · rw [e3] at q2
      cases q2
      have := (hr2.lt q e4).2
      omega
theorem Two.buy {w w' : World} {gb gs base : Nat} {lb ls lb' : List Od} (h : Two w gb gs base lb ls) (hk : SK gb base true lb' w w') : Two w' gb gs base lb' ls := by
  obtain ⟨q1, q2⟩ := sl_stay h.b h.s h.ne h.ap hk.ks hk.ko
  exact ⟨hk.s, q1, h.ne, q2⟩
theorem Two.sell {w w' : World} {gb gs base : Nat} {lb ls ls' : List Od} (h : Two w gb gs base lb ls) (hk : SK gs base false ls' w w') : Two w' gb gs base lb ls' := by
  obtain ⟨q1, q2⟩ := sl_stay h.s h.b (fun e => h.ne e.symm) (fun v v2 e1 e2 q e3 e4 => h.ap v2 v e2 e1 q e4 e3) hk.ks hk.ko
  exact ⟨q1, hk.s, h.ne, fun v1 v2 e1 e2 q e3 e4 => q2 v2 v1 e2 e1 q e4 e3⟩
/-- a book, with its sides' places -/
structure BkG (w : World) (g gb gs base : Nat) (lb ls : List Od) : Prop where
  row : w.heap[g]? = some (.cells #[.pointer (some ⟨gb, 0, none⟩), .pointer (some ⟨gs, 0, none⟩)] 56 (0, 0))
  two : Two w gb gs base lb ls
  bg : base ≤ g
theorem BkG.kept {w w' : World} {g gb gs base : Nat} {lb ls : List Od} (h : BkG w g gb gs base lb ls) (hb : Below w.heap.size w w') : BkG w' g gb gs base lb ls := ⟨Ytmjfbilhalkegaa.kept hb h.row, h.two.kept hb, h.bg⟩
theorem crs_any (o : Od) (p : Int) (w : World) : Calls Try.prog 41 #[.agg (oa o), .int .i64 p] w fun e w' => e = .returned (.bool (crs o p)) ∧ Below w.heap.size w w' := by
  have hb := below_new w (Obj.cells (oa o) 30)
  have h2 : (oa o)[2]? = some (.bool o.b) := rfl
  have h3 : (oa o)[3]? = some (.int .i64 o.p) := rfl
  have HC := Lib.hid (show crs o p = if o.b then decide (p ≤ o.p) else decide (o.p ≤ p) from rfl)
  generalize crs o p = r at *
  generalize oa o = A at *
  cases hb2 : o.b with
  | true =>
    rw [hb2] at h2 HC
    go_enter Try.func41, Try.ntmps41
    go_wp2
    go_ret
    exact ⟨by rw [HC.out]; rfl, hb⟩
  | false =>
    rw [hb2] at h2 HC
    go_enter Try.func41, Try.ntmps41
    go_wp2
    go_ret
    exact ⟨by rw [HC.out]; rfl, hb⟩
theorem bready_yes {w : World} {g gb gs base : Nat} {lb ls : List Od} (h : BkG w g gb gs base lb ls) : Calls Try.prog 25 #[.pointer (some ⟨g, 0, none⟩)] w fun e w' => e = .returned (.bool true) ∧ w = w' := by
  have hn : ∀ (w : World) (g : Nat), (binOp .neq 23 (.pointer (some ⟨g, 0, none⟩)) (.pointer none)).run Try.prog w = .ok (.bool true) w := fun _ _ => by kernel_rfl
  have hn2 : ∀ (w : World) (g : Nat), (binOp .neq 54 (.pointer (some ⟨g, 0, none⟩)) (.pointer none)).run Try.prog w = .ok (.bool true) w := fun _ _ => by kernel_rfl
  have cg := cellF h.row
  clear h
  go_enter Try.func25, Try.ntmps25
  go_wp2
  go_ret
  exact ⟨rfl, rfl⟩
theorem bsides_any {w : World} {g gb gs base : Nat} {lb ls : List Od} (buy : Bool) (h : BkG w g gb gs base lb ls) : Calls Try.prog 28 #[.pointer (some ⟨g, 0, none⟩), .bool buy] w fun e w' => e = .returned (.tuple #[.pointer (some ⟨if buy then gb else gs, 0, none⟩), .pointer (some ⟨if buy then gs else gb, 0, none⟩)]) ∧ Below w.heap.size w w' := by
  have HG := Lib.hid h.row
  clear h
  cases buy with
  | true =>
    simp only [if_true]
    go_enter Try.func28, Try.ntmps28
    go_wp2
    refine wp_region_below (by kernel_rfl) (by kernel_rfl) ?_
    repeat (first | ((with_reducible apply q_skip); (case hw => rfl); (try simp only [Act.put, List.setIfInBounds_toArray, List.set_cons_zero, List.set_cons_succ])) | ((with_reducible apply q_val); (case hw => rfl); (case hv => intro wq hbq; have hcr := cellF (Ytmjfbilhalkegaa.kept hbq HG.out); go_simp; try rfl); (try simp only [Act.put, List.setIfInBounds_toArray, List.set_cons_zero, List.set_cons_succ])))
    refine q_nil ?_
    intro w4 hb4
    go_wp2
    go_ret2
    exact ⟨rfl, hb4⟩
  | false =>
    simp only [Bool.false_eq_true, if_false]
    go_enter Try.func28, Try.ntmps28
    go_wp2
    refine wp_region_below (by kernel_rfl) (by kernel_rfl) ?_
    repeat (first | ((with_reducible apply q_skip); (case hw => rfl); (try simp only [Act.put, List.setIfInBounds_toArray, List.set_cons_zero, List.set_cons_succ])) | ((with_reducible apply q_val); (case hw => rfl); (case hv => intro wq hbq; have hcr := cellF (Ytmjfbilhalkegaa.kept hbq HG.out); go_simp; try rfl); (try simp only [Act.put, List.setIfInBounds_toArray, List.set_cons_zero, List.set_cons_succ])))
    refine q_nil ?_
    intro w4 hb4
    go_wp2
    go_ret2
    exact ⟨rfl, hb4⟩
/-- a new book -/
theorem bnew_any (w : World) : Calls Try.prog 9 #[] w fun e w' => ∃ g gb gs, e = .returned (.pointer (some ⟨g, 0, none⟩)) ∧ BkG w' g gb gs w.heap.size [] [] ∧ Below w.heap.size w w' := by
  go_enter Try.func9, Try.ntmps9
  go_wp2_with fail
  refine (new_side true w).mono ?_
  rintro e w1 ⟨rfl, hs1, hb1⟩
  go_wp2_with fail
  refine (new_side false w1).mono ?_
  rintro e w2 ⟨rfl, hs2, hb2⟩
  go_wp2_with (((with_reducible refine at_build 56 ?_); refine wpList_build_named rfl 56 _ rfl (#[.pointer (some ⟨w.heap.size, 0, none⟩), .pointer (some ⟨w1.heap.size, 0, none⟩)]) (by kernel_rfl) ?_))
  go_ret
  have hbn := below_new w2 (Obj.cells #[.pointer (some ⟨w.heap.size, 0, none⟩), .pointer (some ⟨w1.heap.size, 0, none⟩)] 56)
  have hs := hb1.size
  have hs' := hb2.size
  have e0 : oa od0 = zo := rfl
  have h1 : SL w2 w.heap.size w.heap.size true [] := ⟨(hs1.kept hb2).congr (fun i => oa_ord (od_ok (l := []) (fun o h => by cases h) i)) (fun i hi => by omega), fun o h => by cases h⟩
  have h2 : SL w2 w1.heap.size w.heap.size false [] := by
    obtain ⟨v, hg, hr⟩ := hs2.row
    exact ⟨⟨⟨v, hg, Go.Joins.ownsRow_le hr hs⟩, fun i => oa_ord (od_ok (l := []) (fun o h => by cases h) i), hs, by simp⟩, fun o h => by cases h⟩
  have hne : w.heap.size ≠ w1.heap.size := by
    obtain ⟨v, hg, _⟩ := hs1.row
    have := (Array.getElem?_eq_some_iff.1 hg).1
    omega
  refine ⟨_, w.heap.size, w1.heap.size, rfl, ⟨heap_alloc_new _ _, Two.kept ⟨h1, h2, hne, fun vb vs e1 e2 q e3 e4 => ?_⟩ hbn, by omega⟩, below_alloc (below_then hb1 hb2) _⟩
  obtain ⟨v1, hg1, hr1⟩ := hs1.row
  obtain ⟨v2, hg2, hr2⟩ := hs2.row
  obtain ⟨_, rfl⟩ := side_inj (Ytmjfbilhalkegaa.kept hb2 hg1) e1
  obtain ⟨_, rfl⟩ := side_inj hg2 e2
  have a1 := (hr1.lt q e3).2
  have a2 := (hr2.lt q e4).1
  omega
end Go.Proofs.Ytmjfbilhalkegaa
