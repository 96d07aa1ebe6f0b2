/- Reach of a side that is one. Condition: the side is one. -/
import Derived.Test.YtmjfbilhalkegaaSideI2
namespace Go.Proofs.Ytmjfbilhalkegaa
set_option linter.unusedVariables false
set_option linter.unusedSimpArgs false
open Go.RowKit Go.Shelf
attribute [local go_sem] Oper.semAt_some

/-- what the first j orders of other accounts than n have left -/
def rchA (L : Nat → Array Value) (n : Int) : Nat → Int
  | 0 => 0
  | j + 1 => if N (L j) 1 = n then rchA L n j else wrap64 (rchA L n j + N (L j) 4)

/-- the cells that a loop's body reads and writes, a block of cells more -/
theorem ownFrom_cells {B : Nat} {b : Nat} {c : Nat → Array Value} {t : TypeId} {fr : Nat × Nat} : OwnFrom B (fun (j : Nat) W => W.heap[b]? = some (.cells (c j) t fr)) := fun j W W' row h hg hr =>
  (hg.block b (Array.getElem?_eq_some_iff.1 h).1 (fun e => by
    obtain ⟨_, o, ho, hc⟩ := hr b e.symm
    rw [h] at ho
    cases ho
    exact absurd hc (by simp [Obj.isCells]))).trans h

theorem wpIn_lit {F : Fence} {n : Nat} {P : Program} {c : Code} {Q : Exit → Act → World → Prop} {a t : Array Value} {ds : List Deferred} {w : World} (h : a = t) (hh : c.wpIn F n P Q ⟨t, ds⟩ w) : c.wpIn F n P Q ⟨a, ds⟩ w := by rw [h]; exact hh
set_option maxRecDepth 100000 in
set_option maxHeartbeats 4000000 in
theorem sreach_yes {w : World} {g base k : Nat} {buy : Bool} {L : Nat → Array Value} (x n : Int) (h : SideIs w g base k buy L) :
    Calls Try.prog 29 #[.pointer (some ⟨g, 0, none⟩), .int .i64 x, .int .u32 n] w fun e w' => (∃ j, j ≤ k ∧ (∀ i, i < j → bet buy x (N (L i) 3) = false) ∧ (j = k ∨ bet buy x (N (L j) 3) = true) ∧ e = .returned (.int .i64 (rchA L n j))) ∧ Below w.heap.size w w' := by
  have hlt : g < w.heap.size := by obtain ⟨v, hg, _⟩ := h.row; exact (cells_of hg).2.2
  refine calls_marks Try.func29 rfl ?_
  simp only [Try.ntmps29, List.size_toArray, List.length_cons, List.length_nil, Nat.reduceAdd, Nat.reduceSub, Array.replicate_succ, Array.replicate_zero, List.push_toArray, List.append_toArray, List.nil_append, List.cons_append]
  go_wp2_with ((go_at_call 36; (with_reducible refine (sall_any _).mono ?_); rintro e w6 ⟨rfl, rfl⟩))
  generalize hp : (some ⟨g, 0, none⟩ : Option Addr) = p at *
  have hB5 : Below w.heap.size w (((((w.alloc (Obj.cells #[Value.pointer p] 54)).alloc (Obj.cells #[Value.int IntKind.i64 x] 2)).alloc (Obj.cells #[Value.int IntKind.u32 n] 28)).alloc (Obj.cells #[Value.int IntKind.i64 0] 2)).alloc (Obj.cells #[Value.pointer p] 54)) := below_alloc (below_alloc (below_alloc (below_alloc (below_new _ _) _) _) _) _
  have h3 : (((((w.alloc (Obj.cells #[Value.pointer p] 54)).alloc (Obj.cells #[Value.int IntKind.i64 x] 2)).alloc (Obj.cells #[Value.int IntKind.u32 n] 28)).alloc (Obj.cells #[Value.int IntKind.i64 0] 2)).alloc (Obj.cells #[Value.pointer p] 54)).heap[w.heap.size]? = some (.cells #[Value.pointer p] 54 (0, 0)) := heap_up (heap_up (heap_up (heap_up (heap_alloc_new _ _))))
  have h4 : (((((w.alloc (Obj.cells #[Value.pointer p] 54)).alloc (Obj.cells #[Value.int IntKind.i64 x] 2)).alloc (Obj.cells #[Value.int IntKind.u32 n] 28)).alloc (Obj.cells #[Value.int IntKind.i64 0] 2)).alloc (Obj.cells #[Value.pointer p] 54)).heap[w.heap.size + 1]? = some (.cells #[Value.int IntKind.i64 x] 2 (0, 0)) := by repeat (first | exact heap_new (by simp; done) | refine heap_up ?_)
  have h5 : (((((w.alloc (Obj.cells #[Value.pointer p] 54)).alloc (Obj.cells #[Value.int IntKind.i64 x] 2)).alloc (Obj.cells #[Value.int IntKind.u32 n] 28)).alloc (Obj.cells #[Value.int IntKind.i64 0] 2)).alloc (Obj.cells #[Value.pointer p] 54)).heap[w.heap.size + 1 + 1]? = some (.cells #[Value.int IntKind.u32 n] 28 (0, 0)) := by repeat (first | exact heap_new (by simp; done) | refine heap_up ?_)
  have h6 : (((((w.alloc (Obj.cells #[Value.pointer p] 54)).alloc (Obj.cells #[Value.int IntKind.i64 x] 2)).alloc (Obj.cells #[Value.int IntKind.u32 n] 28)).alloc (Obj.cells #[Value.int IntKind.i64 0] 2)).alloc (Obj.cells #[Value.pointer p] 54)).heap[w.heap.size + 1 + 1 + 1]? = some (.cells #[Value.int IntKind.i64 0] 2 (0, 0)) := by repeat (first | exact heap_new (by simp; done) | refine heap_up ?_)
  have hbox : (((((w.alloc (Obj.cells #[Value.pointer p] 54)).alloc (Obj.cells #[Value.int IntKind.i64 x] 2)).alloc (Obj.cells #[Value.int IntKind.u32 n] 28)).alloc (Obj.cells #[Value.int IntKind.i64 0] 2)).alloc (Obj.cells #[Value.pointer p] 54)).heap[w.heap.size + 1 + 1 + 1 + 1]? = some (.cells #[Value.pointer p] 54 (0, 0)) := by repeat (first | exact heap_new (by simp; done) | refine heap_up ?_)
  have hs5 : (((((w.alloc (Obj.cells #[Value.pointer p] 54)).alloc (Obj.cells #[Value.int IntKind.i64 x] 2)).alloc (Obj.cells #[Value.int IntKind.u32 n] 28)).alloc (Obj.cells #[Value.int IntKind.i64 0] 2)).alloc (Obj.cells #[Value.pointer p] 54)).heap.size = w.heap.size + 5 := by simp
  have hP5 := h.kept hB5
  obtain ⟨w5, hw5⟩ : ∃ w5, w5 = (((((w.alloc (Obj.cells #[Value.pointer p] 54)).alloc (Obj.cells #[Value.int IntKind.i64 x] 2)).alloc (Obj.cells #[Value.int IntKind.u32 n] 28)).alloc (Obj.cells #[Value.int IntKind.i64 0] 2)).alloc (Obj.cells #[Value.pointer p] 54)) := ⟨_, rfl⟩
  rw [← hw5] at hB5 h3 h4 h5 h6 hbox hs5 hP5 ⊢
  clear hw5
  subst hp
  refine range_rounds (gf := 47) (lb := #[.pointer (some ⟨w.heap.size + 1 + 1 + 1 + 1, 0, none⟩)]) (encs := fun j => #[.agg (L j)]) (k := k) rfl (enters_of Try.func47 (by kernel_rfl) rfl) (fun _ => rfl) (sall_seq hbox hP5 (Nat.le_refl _))
    (fun j W => (((W.heap[w.heap.size]? = some (.cells #[.pointer (some ⟨g, 0, none⟩)] 54 (0, 0)) ∧ W.heap[w.heap.size + 1]? = some (.cells #[.int .i64 x] 2 (0, 0))) ∧ W.heap[w.heap.size + 1 + 1]? = some (.cells #[.int .u32 n] 28 (0, 0))) ∧ W.heap[w.heap.size + 1 + 1 + 1]? = some (.cells #[.int .i64 (rchA L n j)] 2 (0, 0))) ∧ Below w.heap.size w W ∧ ∀ i, i < j → bet buy x (N (L i) 3) = false)
    (fun c j W => c = .exit 0 ∧ ∃ m, j = m + 1 ∧ (∀ i, i < m → bet buy x (N (L i) 3) = false) ∧ bet buy x (N (L m) 3) = true ∧ W.heap[w.heap.size + 1 + 1 + 1]? = some (.cells #[.int .i64 (rchA L n m)] 2 (0, 0)) ∧ Below w.heap.size w W)
    ?oI ?oX ?i0 (fun j W => W.alloc (.cells (L j) 30)) (fun j W => World.grownBy_alloc W _ none)
    (fun j W0 => { tmps := #[.pointer (some ⟨g, 0, none⟩), .int .i64 x, .int .u32 n, .pointer (some ⟨w.heap.size, 0, none⟩), .pointer (some ⟨w.heap.size + 1, 0, none⟩), .pointer (some ⟨w.heap.size + 1 + 1, 0, none⟩), .pointer (some ⟨w.heap.size + 1 + 1 + 1, 0, none⟩), .pointer (some ⟨W0.heap.size, 0, none⟩), .pointer (some ⟨g, 0, none⟩),
      .func (.func 47) #[] #[.pointer (some ⟨w.heap.size + 1 + 1 + 1 + 1, 0, none⟩)], .agg (L j), undef, undef, undef, undef, undef, undef, undef, undef, undef, undef, undef, undef, undef, undef], defers := [] }) ?assign ?body ?done ?stop
  case oI =>
    refine OwnFrom.and (OwnFrom.and (OwnFrom.and (OwnFrom.and ownFrom_cells ownFrom_cells) ownFrom_cells) ownFrom_cells) (OwnFrom.and (ownFrom_below (Nat.le_refl _) (by omega)) (fun _ _ _ _ h _ _ => h))
  case oX =>
    rintro c j W W' row ⟨h1, m, h2, h3, h4, h5, h6⟩ hg hr
    exact ⟨h1, m, h2, h3, h4, ownFrom_cells (c := fun _ => #[.int .i64 (rchA L n m)]) m W W' row h5 hg hr, ownFrom_below (Nat.le_refl _) (by omega) m W W' row h6 hg hr⟩
  case i0 => exact ⟨⟨⟨⟨h3, h4⟩, h5⟩, h6⟩, hB5, fun i hi => by omega⟩
  case assign =>
    intro l j W K hj hK
    have hO := hP5.ord j
    have hsz := hO.size
    refine wpIn_lit (t := #[.pointer (some ⟨g, 0, none⟩), .int .i64 x, .int .u32 n, .pointer (some ⟨w.heap.size, 0, none⟩), .pointer (some ⟨w.heap.size + 1, 0, none⟩), .pointer (some ⟨w.heap.size + 1 + 1, 0, none⟩), .pointer (some ⟨w.heap.size + 1 + 1 + 1, 0, none⟩), undef, .pointer (some ⟨g, 0, none⟩),
      .func (.func 47) #[] #[.pointer (some ⟨w.heap.size + 1 + 1 + 1 + 1, 0, none⟩)], .agg (L j), undef, undef, undef, undef, undef, undef, undef, undef, undef, undef, undef, undef, undef, undef]) (by simp) ?_
    gi_wp2_with (first | ((with_reducible refine at_allocIn 30 ?_); refine wpListIn_alloc_named rfl 30 rfl (#[.int .u64 0, .int .u32 0, .bool false, .int .i64 0, .int .i64 0]) (by kernel_rfl) ?_) | ((with_reducible refine at_storeIn 30 ?_); refine wpListIn_store_new rfl 30 _ _ rfl (L j) _ _ _ rfl (by simp) rfl (by rw [hsz]; kernel_rfl) (by rw [hsz]; rfl) (hO.all) ?_))
    exact hK
  case body =>
    rintro l j W0 W hj ⟨⟨⟨⟨i3, i4⟩, i5⟩, i6⟩, iB, ib⟩ hsW hup _
    have hO := hP5.ord j
    have hv := hup _ _ _ _ (heap_alloc_new W0 (Obj.cells (L j) 30))
    have cv := cellF hv
    have c3 := cellF i3
    have c4 := cellF i4
    have c5 := cellF i5
    have c6 := cellF i6
    have f6 := (cells_of i6).2.1
    obtain ⟨v, hgg, _⟩ := (h.kept iB).row
    have cb := better_any x (N (L j) 3) hgg
    have e1 := hO.a.1
    have e3 := hO.p.1
    have e4 := hO.l.1
    have HA := Lib.hid (show rchA L n (j + 1) = if N (L j) 1 = n then rchA L n j else wrap64 (rchA L n j + N (L j) 4) from rfl)
    have HI := Lib.hid (And.intro i6 (And.intro iB ib))
    have HJ := Lib.hid (And.intro i3 (And.intro i4 i5))
    clear hO hv i6 iB ib hgg i3 i4 i5 hP5 h hup hbox h3 h4 h5 h6 hB5
    generalize e5 : N (L j) 3 = y at *
    generalize e6 : N (L j) 1 = ac at *
    generalize e7 : N (L j) 4 = lf at *
    have HE := Lib.hid (And.intro e5 (And.intro e6 e7))
    clear e5 e6 e7
    cases hbt : bet buy x y with
    | true =>
      rw [hbt] at cb
      have HB := Lib.hid hbt
      clear hbt
      gi_wp2_with (refine And.intro (show (Fence.wide.inRound l).fn 38 from trivial) ?_; refine (CallsIn.inRound l (callsIn_wide.2 cb)).mono ?_; rintro e w1 ⟨rfl, rfl⟩)
      exact ⟨KeepsOthers.refl _, rfl, j, rfl, HI.out.2.2, by rw [HE.out.1]; exact HB.out, HI.out.1, HI.out.2.1⟩
    | false =>
      rw [hbt] at cb
      have HB := Lib.hid hbt
      have hnext : ∀ i, i < j + 1 → bet buy x (N (L i) 3) = false := fun i hi => by
        by_cases e : i = j
        · subst e; rw [HE.out.1]; exact HB.out
        · exact HI.out.2.2 i (by omega)
      have HN := Lib.hid hnext
      clear hnext
      clear hbt
      by_cases ha : ac = n
      · gi_wp2_with (refine And.intro (show (Fence.wide.inRound l).fn 38 from trivial) ?_; refine (CallsIn.inRound l (callsIn_wide.2 cb)).mono ?_; rintro e w1 ⟨rfl, rfl⟩)
        refine ⟨KeepsOthers.refl _, Kn.refl _ _, ⟨⟨⟨HJ.out.1, HJ.out.2.1⟩, HJ.out.2.2⟩, ?_⟩, HI.out.2.1, HN.out⟩
        rw [HA.out, if_pos ha]
        exact HI.out.1
      · gi_wp2_with (refine And.intro (show (Fence.wide.inRound l).fn 38 from trivial) ?_; refine (CallsIn.inRound l (callsIn_wide.2 cb)).mono ?_; rintro e w1 ⟨rfl, rfl⟩)
        have ho : ∀ i, i ≠ w.heap.size + 1 + 1 + 1 → (W.setCell ⟨w.heap.size + 1 + 1 + 1, 0, none⟩ (.int .i64 (wrap64 (rchA L n j + lf)))).heap[i]? = W.heap[i]? := fun i hi => heap_setCell_other W _ _ _ hi
        refine ⟨KeepsOthers.setCell _ _ _, kn_set (g := w.heap.size + 1 + 1 + 1) (by omega) ho, ⟨⟨⟨(ho _ (by omega)).trans HJ.out.1, (ho _ (by omega)).trans HJ.out.2.1⟩, (ho _ (by omega)).trans HJ.out.2.2⟩, ?_⟩, below_set HI.out.2.1 (by omega), HN.out⟩
        rw [HA.out, if_neg ha]
        exact heap_set (i := 0) HI.out.1
  case done =>
    rintro D W hD ⟨⟨_, i6⟩, iB, ib⟩ hK
    have c6 := cellF i6
    have f6 := (cells_of i6).2.1
    have hne : D ≠ w.heap.size + 1 + 1 + 1 := by omega
    have hz := heap_set_other (g := w.heap.size + 1 + 1 + 1) (i := 0) (v := .int .i64 (rchA L n k)) hK hne
    have hz6 := heap_set (i := 0) (v := .int .i64 (rchA L n k)) i6
    have hBz := below_set (g := w.heap.size + 1 + 1 + 1) (i := 0) (v := .int .i64 (rchA L n k)) iB (by omega)
    go_wp2_with fail
    refine leaves_cons hz ?_
    have hc := cellF (put_other (o' := .deferred none) hz hz6 (Ne.symm hne)) 0
    refine leaves_nil (v := .int .i64 (rchA L n k)) ?_ ⟨⟨k, Nat.le_refl _, ib, .inl rfl, rfl⟩, below_put hBz (by omega) hz (Nat.le_refl _)⟩
    simp [results, Try.f29, go_sem, hc]
  case stop =>
    rintro D c j W hD hj ⟨rfl, m, rfl, ib, ibt, i6, iB⟩ hK
    have c6 := cellF i6
    have f6 := (cells_of i6).2.1
    have hne : D ≠ w.heap.size + 1 + 1 + 1 := by omega
    have hz := heap_set_other (g := w.heap.size + 1 + 1 + 1) (i := 0) (v := .int .i64 (rchA L n m)) hK hne
    have hz6 := heap_set (i := 0) (v := .int .i64 (rchA L n m)) i6
    have hBz := below_set (g := w.heap.size + 1 + 1 + 1) (i := 0) (v := .int .i64 (rchA L n m)) iB (by omega)
    go_wp2_with fail
    refine leaves_cons hz ?_
    have hc := cellF (put_other (o' := .deferred none) hz hz6 (Ne.symm hne)) 0
    refine leaves_nil (v := .int .i64 (rchA L n m)) ?_ ⟨⟨m, by omega, ib, .inr ibt, rfl⟩, below_put hBz (by omega) hz (Nat.le_refl _)⟩
    simp [results, Try.f29, go_sem, hc]
end Go.Proofs.Ytmjfbilhalkegaa
