/- Texts that Settles13Law stands on, one behind the other, part 4. Conditions: each theorem names its own. -/
import Derived.Test.YticdcdahehodkaaMgSettles13Law3
import Derived.Deep.Slices
import Derived.Laws.AppendOwn
import Derived.Laws.AppendOwnNone
import Derived.Maps.AppendAt
import Derived.Deep.LoopGhost
/-! Integers appended to a slice of one's own. No condition. -/
namespace Go.Proofs.Yticdcdahehodkaa
set_option linter.unusedVariables false
set_option linter.unusedSimpArgs false
open Go.RowKit Go.Deep

def zl (Z : Nat → Int) (n : Nat) : List Value := (List.range n).map fun i => .int .i64 (Z i)
theorem zl_len (Z : Nat → Int) (n : Nat) : (zl Z n).length = n := by simp [zl]
theorem zl_at (Z : Nat → Int) {n i : Nat} (h : i < n) : (zl Z n)[i]? = some (.int .i64 (Z i)) := by
  unfold zl; rw [List.getElem?_map, List.getElem?_range h]; rfl
theorem own_ints {w : World} {base n : Nat} {e : TypeId} {v : Value} {Z : Nat → Int} (h : w.ownsRow base e 1 v n (zl Z n)) : ∃ a cap, v = .slice a n cap ∧ Ints w a n Z := by
  obtain ⟨_, ⟨rfl, rfl⟩ | ⟨g, cap, cur, rfl, _, hg, hn, _, hc, ht⟩⟩ := h
  · exact ⟨none, 0, rfl, fun i hi => by omega⟩
  · refine ⟨_, cap, rfl, fun i hi => ⟨g, 0, cur, e, _, rfl, hg, ?_⟩⟩
    rw [Nat.zero_add, ← zl_at Z hi, ← ht, List.getElem?_take, if_pos (by omega), Array.getElem?_toList]
theorem info_i64 : ∃ i z, Try.prog.info? 2 = some i ∧ i.zero = some z ∧ i.size = 1 ∧ i.bytes = 8 ∧ z.cells.size = 1 := by
  have h : (Try.prog.info? 2).map (fun i => (i.size, i.bytes, i.zero.map (·.cells.size))) = some (1, 8, some 1) := by kernel_rfl
  cases hi : Try.prog.info? 2 with
  | none => simp [hi] at h
  | some i =>
    simp [hi] at h
    obtain ⟨h1, h2, z, h3, h4⟩ := h
    exact ⟨i, z, rfl, h3, h1, h2, h4⟩
theorem at_append (T : TypeId) {P : Program} {ops : Array Oper} {Q : Exit → Act → World → Prop} {rest : List Oper} {a : Act} {w : World} {d : Option Tmp} {x y : Operand} {ty : TypeId} {pos : String} {af : Array Edge} {gd : Option (Nat × Bool)}
    (h : wpList P ops Q (⟨d, .call { callee := .builtin .append, args := #[x, y], argTypes := #[T, T] }, ty, pos, af, gd⟩ :: rest) a w) : wpList P ops Q (⟨d, .call { callee := .builtin .append, args := #[x, y], argTypes := #[T, T] }, ty, pos, af, gd⟩ :: rest) a w := h
/-- 'append(own, ints...)' -/
theorem wpList_append_ints {ops : Array Oper} {rest : List Oper} {o : Oper} {a : Act} {w : World} {Q : Exit → Act → World → Prop} (hgd : o.guard = none) (s x : Operand)
    (ho : o.op = .call { callee := .builtin .append, args := #[s, x], argTypes := #[48, 48] })
    (base : Nat) (v : Value) (n : Nat) (xs : List Value) (hs : a.eval s = v) (hown : w.ownsRow base 2 1 v n xs)
    (ad : Option Addr) (m c : Nat) (Z : Nat → Int) (hx : a.eval x = .slice ad m c) (hl : Ints w ad m Z) (hnil : ad = none → m = 0 ∧ c = 0)
    (hbytes : (n + m) * 8 ≤ 140737488355328) (hbase : base ≤ w.heap.size)
    (h : ∀ v' w', w'.ownsRow base 2 1 v' (n + m) (xs ++ zl Z m) → w.grownBy w' v.ownBlock → wpList Try.prog ops Q rest (a.put o.dst v') w') : wpList Try.prog ops Q (o :: rest) a w := by
  obtain ⟨i, z, h1, h2, h3, h4, h5⟩ := info_i64
  cases ad with
  | none =>
    obtain ⟨rfl, rfl⟩ := hnil rfl
    refine wpList_append_own_none hgd s x _ ho base _ i 1 Try.underlying48 h1 v n xs hs hown hx ?_
    exact h v w (by simpa [zl] using hown) ⟨rfl, rfl, rfl, Nat.le_refl _, fun _ _ _ => rfl⟩
  | some ad =>
    refine wpList_append_own w hgd s x _ ho base _ i z 1 8 Try.underlying48 h1 h2 h3 h4 h5 (by omega) v n xs hs hown ad m c (zl Z m) hx (by rw [zl_len]; omega) (fun j u hj => ?_) (fun u hu => ?_) (by unfold maxLen; omega) hbytes hbase ?_
    · have hlt : j < m := by rw [← zl_len Z m]; exact (List.getElem?_eq_some_iff.1 hj).1
      rw [zl_at Z hlt] at hj
      injection hj with hj
      subst hj
      obtain ⟨g, off, A, t, fr, ha, hg, hz⟩ := hl j hlt
      injection ha with ha
      subst ha
      have e : (⟨g, off, none⟩ : Addr).add j = ⟨g, off + j, none⟩ := by unfold Addr.add; split <;> simp_all
      rw [e, cellF hg]
      exact hz
    · unfold zl at hu
      obtain ⟨j, _, rfl⟩ := List.mem_map.1 hu
      rfl
    · exact fun v' w' h6 h7 _ => h v' w' h6 h7
theorem zl_snoc (Z : Nat → Int) (k : Nat) : zl Z k ++ zl (fun _ => Z k) 1 = zl Z (k + 1) := by
  rw [show zl (fun _ => Z k) 1 = [.int .i64 (Z k)] from rfl]
  unfold zl
  rw [List.range_succ, List.map_append]
  rfl
theorem own_empty1 (W : World) (e : TypeId) : (W.alloc (.cells #[] e)).ownsRow W.heap.size e 1 (.slice (some ⟨W.heap.size, 0, none⟩) 0 0) 0 [] :=
  ⟨rfl, .inr ⟨W.heap.size, 0, #[], rfl, Nat.le_refl _, heap_alloc_new _ _, Nat.le_refl _, by unfold maxLen; omega, rfl, rfl⟩⟩

end Go.Proofs.Yticdcdahehodkaa
/-! A slice built of one struct. No condition. -/
namespace Go.Proofs.Yticdcdahehodkaa
set_option linter.unusedVariables false
set_option linter.unusedSimpArgs false
open Go.RowKit

theorem at_slice1 (T : TypeId) {P : Program} {ops : Array Oper} {Q : Exit → Act → World → Prop} {rest : List Oper} {a : Act} {w : World} {d : Option Tmp} {n : Nat} {ps : Array (Nat × Operand)} {ty : TypeId} {pos : String} {af : Array Edge} {gd : Option (Nat × Bool)}
    (h : wpList P ops Q (⟨d, .buildSlice T n ps, ty, pos, af, gd⟩ :: rest) a w) : wpList P ops Q (⟨d, .buildSlice T n ps, ty, pos, af, gd⟩ :: rest) a w := h
theorem wpList_slice1c {P : Program} {ops : Array Oper} {rest : List Oper} {o : Oper} {a : Act} {w : World} {Q : Exit → Act → World → Prop} (hgd : Region.wanted o (yielded ops a.tmps) = true) (t e : TypeId) (x : Operand) (ho : o.op = .buildSlice t 1 #[(0, x)])
    (B : Array Value) (c : Nat) (hx : a.eval x = .agg B) (hB : B.size = c) (ie : TypeInfo) (z : Value) (hu : P.underlying t = some (.slice e)) (hie : P.info? e = some ie) (hz : ie.zero = some z) (h4 : ie.size = c) (hz4 : z.cells.size = c) (hc : 0 < c) (hc2 : c ≤ 1000)
    (h : wpList P ops Q rest (a.put o.dst (.slice (some ⟨w.heap.size, 0, none⟩) 1 1)) (w.alloc (.cells B e))) : wpList P ops Q (o :: rest) a w :=
  wpList_step fun K hK => by
    rw [if_pos hgd]
    exact op_slice1 t e x ho B c hx hB ie z hu hie hz h4 hz4 hc hc2 (hK _ _ h)
/-- one row more behind the own ones -/
theorem wpList_append_row1 {ops : Array Oper} {rest : List Oper} {o : Oper} {a : Act} {w : World} {Q : Exit → Act → World → Prop} {E S : TypeId} {c : Nat} {X : Array Value} (hgd : o.guard = none) (s x : Operand)
    (ho : o.op = .call { callee := .builtin .append, args := #[s, x], argTypes := #[S, S] }) (hS : Try.prog.underlying S = some (.slice E))
    (hi : ∃ i z, Try.prog.info? E = some i ∧ i.zero = some z ∧ i.size = c ∧ i.bytes ≤ 1000 ∧ z.cells.size = c) (hc : 0 < c) (hX : X.size = c) (hXa : X.all (·.oneCell') = true)
    (base : Nat) (v : Value) (n : Nat) (xs : List Value) (hs : a.eval s = v) (hown : w.ownsRow base E c v n xs) (hx : a.eval x = .slice (some ⟨w.heap.size, 0, none⟩) 1 1) (hn : n ≤ 100000000) (hbase : base ≤ w.heap.size)
    (h : ∀ v' w', w'.ownsRow base E c v' (n + 1) (xs ++ X.toList) → (w.alloc (.cells X E)).grownBy w' v.ownBlock → (∀ q, v.ownBlock = some q → base ≤ q) → wpList Try.prog ops Q rest (a.put o.dst v') w') : wpList Try.prog ops Q (o :: rest) a (w.alloc (.cells X E)) := by
  obtain ⟨i, z, h1, h2, h3, h4, h5⟩ := hi
  have hb := Nat.mul_le_mul (show n + 1 ≤ 100000001 by omega) h4
  refine wpList_append_own (w.alloc (.cells X E)) hgd s x _ ho base _ i z c i.bytes hS h1 h2 h3 rfl h5 hc v n xs hs (hown.alloc _) ⟨w.heap.size, 0, none⟩ 1 1 X.toList hx (by simp [hX]) (fun j u hj => ?_) (fun u hu => ?_) (by unfold maxLen; omega) (by omega) (by simp; omega) ?_
  · have e : (⟨w.heap.size, 0, none⟩ : Addr).add j = ⟨w.heap.size, j, none⟩ := by unfold Addr.add; split <;> simp_all
    rw [e, cellF (heap_alloc_new w (.cells X E))]
    simpa using hj
  · rw [Array.all_eq_true'] at hXa
    exact hXa u (by simpa using hu)
  · exact fun v' w' h6 h7 _ => h v' w' h6 h7 (fun q hq => (hown.lt q hq).1)
/-- one row more behind the own ones; where it then lies -/
theorem wpList_append_row1_at {ops : Array Oper} {rest : List Oper} {o : Oper} {a : Act} {w : World} {Q : Exit → Act → World → Prop} {E S : TypeId} {c : Nat} {X : Array Value} (hgd : o.guard = none) (s x : Operand)
    (ho : o.op = .call { callee := .builtin .append, args := #[s, x], argTypes := #[S, S] }) (hS : Try.prog.underlying S = some (.slice E))
    (hi : ∃ i z, Try.prog.info? E = some i ∧ i.zero = some z ∧ i.size = c ∧ i.bytes ≤ 1000 ∧ z.cells.size = c) (hc : 0 < c) (hX : X.size = c) (hXa : X.all (·.oneCell') = true)
    (base : Nat) (v : Value) (n : Nat) (xs : List Value) (hs : a.eval s = v) (hown : w.ownsRow base E c v n xs) (gs : Nat) (hgs : w.heap.size = gs) (hx : a.eval x = .slice (some ⟨gs, 0, none⟩) 1 1) (hn : n ≤ 100000000) (hbase : base ≤ w.heap.size)
    (h : ∀ v' w', w'.ownsRow base E c v' (n + 1) (xs ++ X.toList) → (w.alloc (.cells X E)).grownBy w' v.ownBlock → (∀ q, v.ownBlock = some q → base ≤ q) → (∀ q, v'.ownBlock = some q → v.ownBlock = some q ∨ w.heap.size < q) → wpList Try.prog ops Q rest (a.put o.dst v') w') : wpList Try.prog ops Q (o :: rest) a (w.alloc (.cells X E)) := by
  subst hgs
  obtain ⟨i, z, h1, h2, h3, h4, h5⟩ := hi
  have hb := Nat.mul_le_mul (show n + 1 ≤ 100000001 by omega) h4
  refine wpList_append_own_at (w := w.alloc (.cells X E)) hgd s x _ ho base _ i z c i.bytes hS h1 h2 h3 rfl h5 hc v n xs hs (hown.alloc _) ⟨w.heap.size, 0, none⟩ 1 1 X.toList hx (by simp [hX]) (fun j u hj => ?_) (fun u hu => ?_) (by unfold maxLen; omega) (by omega) (by simp; omega) ?_
  · have e : (⟨w.heap.size, 0, none⟩ : Addr).add j = ⟨w.heap.size, j, none⟩ := by unfold Addr.add; split <;> simp_all
    rw [e, cellF (heap_alloc_new w (.cells X E))]
    simpa using hj
  · rw [Array.all_eq_true'] at hXa
    exact hXa u (by simpa using hu)
  · exact fun v' w' h6 h7 _ h8 => h v' w' h6 h7 (fun q hq => (hown.lt q hq).1) (fun q hq => by
      rcases h8 with h8 | h8
      · exact .inl (h8 ▸ hq)
      · rw [h8] at hq; injection hq with hq; simp at hq; exact .inr (by omega))
theorem op_append_row1 {o : Oper} {a : Act} {w : World} {K : Act → World → Prop} {Q : Exit → Act → World → Prop} {E S : TypeId} {c : Nat} {X : Array Value} (s x : Operand)
    (ho : o.op = .call { callee := .builtin .append, args := #[s, x], argTypes := #[S, S] }) (hS : Try.prog.underlying S = some (.slice E))
    (hi : ∃ i z, Try.prog.info? E = some i ∧ i.zero = some z ∧ i.size = c ∧ i.bytes ≤ 1000 ∧ z.cells.size = c) (hc : 0 < c) (hX : X.size = c) (hXa : X.all (·.oneCell') = true)
    (base : Nat) (v : Value) (n : Nat) (xs : List Value) (hs : a.eval s = v) (hown : w.ownsRow base E c v n xs) (gs : Nat) (hx : a.eval x = .slice (some ⟨gs, 0, none⟩) 1 1) (hg : w.heap[gs]? = some (.cells X E (0, 0))) (hn : n ≤ 100000000) (hbase : base ≤ w.heap.size)
    (h : ∀ v' w', w'.ownsRow base E c v' (n + 1) (xs ++ X.toList) → w.grownBy w' v.ownBlock → (∀ q, v.ownBlock = some q → base ≤ q) → K (a.put o.dst v') w') : o.wp Try.prog a w K Q := by
  obtain ⟨i, z, h1, h2, h3, h4, h5⟩ := hi
  have hb := Nat.mul_le_mul (show n + 1 ≤ 100000001 by omega) h4
  refine wp_append_own w s x _ ho base _ i z c i.bytes hS h1 h2 h3 rfl h5 hc v n xs hs hown ⟨gs, 0, none⟩ 1 1 X.toList hx (by simp [hX]) (fun j u hj => ?_) (fun u hu => ?_) (by unfold maxLen; omega) (by omega) hbase ?_
  · have e : (⟨gs, 0, none⟩ : Addr).add j = ⟨gs, j, none⟩ := by unfold Addr.add; split <;> simp_all
    rw [e, cellF hg]
    simpa using hj
  · rw [Array.all_eq_true'] at hXa
    exact hXa u (by simpa using hu)
  · exact fun v' w' h6 h7 _ => h v' w' h6 h7 (fun q hq => (hown.lt q hq).1)
theorem own_weak {w : World} {b b' n c : Nat} {e : TypeId} {v : Value} {xs : List Value} (h : w.ownsRow b e c v n xs) (hb : b' ≤ b) : w.ownsRow b' e c v n xs := by
  obtain ⟨h1, h2 | ⟨g, cap, cur, h2, h3, h4⟩⟩ := h
  · exact ⟨h1, .inl h2⟩
  · exact ⟨h1, .inr ⟨g, cap, cur, h2, by omega, h4⟩⟩
end Go.Proofs.Yticdcdahehodkaa
/-! Slices of dues: what comes in. No condition. -/
namespace Go.Proofs.Yticdcdahehodkaa
set_option linter.unusedVariables false
set_option linter.unusedSimpArgs false
open Go.RowKit Go.Deep

/-- a due's three cells -/
def dA (a c v : Int) : Array Value := #[.int .u32 a, .int .i64 c, .int .i64 v]
theorem dA_size (a c v : Int) : (dA a c v).size = 3 := rfl
theorem dA_all (a c v : Int) : (dA a c v).all (·.oneCell') = true := by simp [dA, Value.oneCell']
theorem dA_0 (a c v : Int) : (dA a c v)[0]? = some (.int .u32 a) := rfl
theorem dA_1 (a c v : Int) : (dA a c v)[1]? = some (.int .i64 c) := rfl
theorem dA_2 (a c v : Int) : (dA a c v)[2]? = some (.int .i64 v) := rfl
def IsDue (A : Array Value) : Prop := ∃ a c v : Int, A = dA a c v ∧ (0 ≤ a ∧ a ≤ 4294967295) ∧ F64 c ∧ F64 v
/-- n dues, by account, cash and variation -/
def Dues (w : World) (ad : Option Addr) (n : Nat) (A C V : Nat → Int) : Prop := RowsC w 3 ad n (fun i => dA (A i) (C i) (V i))
theorem Dues.kept {w w' : World} {ad : Option Addr} {n : Nat} {A C V : Nat → Int} (h : Dues w ad n A C V) (hb : Below w.heap.size w w') : Dues w' ad n A C V := RowsC.kept h hb
section
variable {H : Type} {enc : TypeId × Value → H} {w : World} {spare : Nat → Bool} {held : Bool}
theorem due_trod {fuel : Nat} {cs : List Value} {x : DataW H × List MemPlace} (h : DataW.trod enc Try.prog w 0 spare held fuel 39 cs = some x) : IsDue cs.toArray := by
  obtain ⟨hl, n, hf⟩ := fields Try.underlying39 h
  have hc : Try.prog.cellsOf 39 = 3 := by kernel_rfl
  have c2 : Try.prog.cellsOf 2 = 1 := by kernel_rfl
  have c3 : Try.prog.cellsOf 30 = 1 := by kernel_rfl
  obtain ⟨_, y0⟩ := hf 0 _ rfl
  obtain ⟨_, y1⟩ := hf 1 _ rfl
  obtain ⟨_, y2⟩ := hf 2 _ rfl
  have l0 : IsN cs.toArray .u32 0 := leaf Try.underlying30 c3 y0
  have l1 : IsN cs.toArray .i64 1 := leaf Try.underlying2 c2 y1
  have l2 : IsN cs.toArray .i64 2 := leaf Try.underlying2 c2 y2
  rw [hc] at hl
  obtain ⟨e0, b0, b0'⟩ := l0
  obtain ⟨e1, b1, b1'⟩ := l1
  obtain ⟨e2, b2, b2'⟩ := l2
  refine ⟨N cs.toArray 0, N cs.toArray 1, N cs.toArray 2, ?_, ⟨b0, b0'⟩, ⟨b1, b1'⟩, ⟨b2, b2'⟩⟩
  apply Array.ext_getElem?
  intro i
  unfold dA
  by_cases h0 : i = 0
  · subst h0; rw [e0]; rfl
  · by_cases h1 : i = 1
    · subst h1; rw [e1]; rfl
    · by_cases h2 : i = 2
      · subst h2; rw [e2]; rfl
      · rw [Array.getElem?_eq_none_iff.2 (by simp [hl]; omega), Array.getElem?_eq_none_iff.2 (by simp; omega)]
set_option maxRecDepth 100000 in
theorem dues_of {r : Reach} {b : Nat} {v : Value} {d : DataW H} {p : List MemPlace} (hv : Value.okWide Try.prog w r b 34 v) (h : DataW.Trod enc Try.prog w 0 spare held 34 v d p) :
    ∃ (a : Option Addr) (n cap : Nat) (A C V : Nat → Int), v = .slice a n cap ∧ n ≤ cap ∧ cap ≤ 9223372036854775807 ∧ (∀ i, (0 ≤ A i ∧ A i ≤ 4294967295) ∧ F64 (C i) ∧ F64 (V i)) ∧ Dues w a n A C V ∧ (a = none → n = 0 ∧ cap = 0) := by
  obtain ⟨a, n, cap, L, rfl, h1, h2, h3, h4, h5⟩ := rows_of (Is := IsDue) (z := dA 0 0 0) ⟨0, 0, 0, rfl, by omega, by unfold F64; omega, by unfold F64; omega⟩ Try.underlying34 (c := 3) (by kernel_rfl) (by decide) (fun _ _ _ h => due_trod h) hv h
  have e : ∀ i, L i = dA (N (L i) 0) (N (L i) 1) (N (L i) 2) := fun i => by
    obtain ⟨x, y, z, e, _⟩ := h3 i
    rw [e]; rfl
  refine ⟨a, n, cap, fun i => N (L i) 0, fun i => N (L i) 1, fun i => N (L i) 2, rfl, h1, h2, fun i => ?_, RowsC.congr h4 (fun i _ => e i), h5⟩
  obtain ⟨x, y, z, e, b1, b2, b3⟩ := h3 i
  simp only [e]
  exact ⟨b1, b2, b3⟩
end
/-- the cells of a due that is read -/
theorem Dues.at {w : World} {ad : Option Addr} {n i : Nat} {A C V : Nat → Int} (h : Dues w ad n A C V) (hi : i < n) : ∃ g off B t fr, ad = some (⟨g, off, none⟩ : Addr) ∧ w.heap[g]? = some (.cells B t fr) ∧ off + i * 3 + 3 ≤ B.size ∧ B.extract (off + i * 3) (off + i * 3 + 3) = dA (A i) (C i) (V i) ∧
    B[off + i * 3]? = some (.int .u32 (A i)) ∧ B[off + i * 3 + 1]? = some (.int .i64 (C i)) ∧ B[off + i * 3 + 2]? = some (.int .i64 (V i)) := by
  obtain ⟨g, off, B, t, fr, h1, h2, h3, h4⟩ := h i hi
  refine ⟨g, off, B, t, fr, h1, h2, h3, h4, ?_, ?_, ?_⟩
  · have := congrArg (fun C : Array Value => C[0]?) h4
    simp only [Array.getElem?_extract] at this
    rw [if_pos (by omega)] at this
    exact this
  · have := congrArg (fun C : Array Value => C[1]?) h4
    simp only [Array.getElem?_extract] at this
    rw [if_pos (by omega)] at this
    exact this
  · have := congrArg (fun C : Array Value => C[2]?) h4
    simp only [Array.getElem?_extract] at this
    rw [if_pos (by omega)] at this
    exact this
theorem info_due : ∃ i z, Try.prog.info? 39 = some i ∧ i.zero = some z ∧ i.size = 3 ∧ i.bytes ≤ 1000 ∧ z.cells.size = 3 := by
  have h : (Try.prog.info? 39).map (fun i => (i.size, decide (i.bytes ≤ 1000), i.zero.map (·.cells.size))) = some (3, true, some 3) := by kernel_rfl
  cases hi : Try.prog.info? 39 with
  | none => simp [hi] at h
  | some i =>
    simp [hi] at h
    obtain ⟨h1, h2, z, h3, h4⟩ := h
    exact ⟨i, z, rfl, h3, h1, h2, h4⟩
/-- a settled one's four cells -/
def sA (a c : Int) (d : Bool) (u : Int) : Array Value := #[.int .u32 a, .int .i64 c, .bool d, .int .i64 u]
theorem sA_size (a c : Int) (d : Bool) (u : Int) : (sA a c d u).size = 4 := rfl
theorem sA_all (a c : Int) (d : Bool) (u : Int) : (sA a c d u).all (·.oneCell') = true := by simp [sA, Value.oneCell']
/-- the row of those settled, in a block of its own -/
structure OW (w : World) (g n : Nat) (a c : Nat → Int) (d : Nat → Bool) (u : Nat → Int) : Prop where
  row : ∃ G, w.heap[g]? = some (.cells G 43 (0, 0)) ∧ G.size = n * 4 ∧ ∀ i, i < n → G[i * 4]? = some (.int .u32 (a i)) ∧ G[i * 4 + 1]? = some (.int .i64 (c i)) ∧ G[i * 4 + 2]? = some (.bool (d i)) ∧ G[i * 4 + 3]? = some (.int .i64 (u i))
theorem OW.kept {w w' : World} {g n : Nat} {a c : Nat → Int} {d : Nat → Bool} {u : Nat → Int} (h : OW w g n a c d u) (hb : Below w.heap.size w w') : OW w' g n a c d u := by
  obtain ⟨G, h1, h2⟩ := h.row; exact ⟨G, Yticdcdahehodkaa.kept hb h1, h2⟩
theorem OW.grown {w w' : World} {g n : Nat} {a c : Nat → Int} {d : Nat → Bool} {u : Nat → Int} {row : Option Nat} (h : OW w g n a c d u) (hb : w.grownBy w' row) (hne : some g ≠ row) : OW w' g n a c d u := by
  obtain ⟨G, h1, h2⟩ := h.row; exact ⟨G, by rw [hb.block g ((Array.getElem?_eq_some_iff.1 h1).1) hne]; exact h1, h2⟩
theorem OW.drew {w : World} {g n : Nat} {a c : Nat → Int} {d : Nat → Bool} {u : Nat → Int} (h : OW w g n a c d u) : OW w.drew g n a c d u := ⟨h.row⟩
theorem OW.lt {w : World} {g n : Nat} {a c : Nat → Int} {d : Nat → Bool} {u : Nat → Int} (h : OW w g n a c d u) : g < w.heap.size := by
  obtain ⟨G, h1, _⟩ := h.row; exact (Array.getElem?_eq_some_iff.1 h1).1
theorem OW.cells {w : World} {g n : Nat} {a c : Nat → Int} {d : Nat → Bool} {u : Nat → Int} (h : OW w g n a c d u) {i : Nat} (hi : i < n) : w.cell? ⟨g, i * 4, none⟩ = some (.int .u32 (a i)) ∧ w.cell? ⟨g, i * 4 + 1, none⟩ = some (.int .i64 (c i)) ∧ w.cell? ⟨g, i * 4 + 2, none⟩ = some (.bool (d i)) ∧ w.cell? ⟨g, i * 4 + 3, none⟩ = some (.int .i64 (u i)) ∧ ∀ j, w.frozen? ⟨g, j, none⟩ = false := by
  obtain ⟨G, h1, h2, h3⟩ := h.row
  obtain ⟨f1, f2, _⟩ := cells_of h1
  obtain ⟨e0, e1, e2, e3⟩ := h3 i hi
  exact ⟨(f1 _).trans e0, (f1 _).trans e1, (f1 _).trans e2, (f1 _).trans e3, f2⟩
def put {α : Type} (f : Nat → α) (i : Nat) (v : α) : Nat → α := fun x => if x = i then v else f x
theorem put_at {α : Type} (f : Nat → α) (i : Nat) (v : α) : put f i v i = v := by simp [put]
theorem put_ne {α : Type} (f : Nat → α) {i x : Nat} (v : α) (h : x ≠ i) : put f i v x = f x := by simp [put, h]
theorem OW.setc {w : World} {g n i : Nat} {a c : Nat → Int} {d : Nat → Bool} {u : Nat → Int} (h : OW w g n a c d u) (hi : i < n) (x : Int) : OW (w.setCell ⟨g, i * 4 + 1, none⟩ (.int .i64 x)) g n a (put c i x) d u := by
  obtain ⟨G, h1, h2, h3⟩ := h.row
  refine ⟨_, heap_set h1, by simp [h2], fun k hk => ?_⟩
  obtain ⟨e0, e1, e2, e3⟩ := h3 k hk
  refine ⟨by rw [Array.getElem?_setIfInBounds_ne (by omega)]; exact e0, ?_, by rw [Array.getElem?_setIfInBounds_ne (by omega)]; exact e2, by rw [Array.getElem?_setIfInBounds_ne (by omega)]; exact e3⟩
  by_cases e : k = i
  · subst e; rw [Array.getElem?_setIfInBounds_self_of_lt (by omega), put_at]
  · rw [Array.getElem?_setIfInBounds_ne (by omega), put_ne _ _ e]; exact e1
theorem OW.setd {w : World} {g n i : Nat} {a c : Nat → Int} {d : Nat → Bool} {u : Nat → Int} (h : OW w g n a c d u) (hi : i < n) (x : Bool) : OW (w.setCell ⟨g, i * 4 + 2, none⟩ (.bool x)) g n a c (put d i x) u := by
  obtain ⟨G, h1, h2, h3⟩ := h.row
  refine ⟨_, heap_set h1, by simp [h2], fun k hk => ?_⟩
  obtain ⟨e0, e1, e2, e3⟩ := h3 k hk
  refine ⟨by rw [Array.getElem?_setIfInBounds_ne (by omega)]; exact e0, by rw [Array.getElem?_setIfInBounds_ne (by omega)]; exact e1, ?_, by rw [Array.getElem?_setIfInBounds_ne (by omega)]; exact e3⟩
  by_cases e : k = i
  · subst e; rw [Array.getElem?_setIfInBounds_self_of_lt (by omega), put_at]
  · rw [Array.getElem?_setIfInBounds_ne (by omega), put_ne _ _ e]; exact e2
theorem OW.setu {w : World} {g n i : Nat} {a c : Nat → Int} {d : Nat → Bool} {u : Nat → Int} (h : OW w g n a c d u) (hi : i < n) (x : Int) : OW (w.setCell ⟨g, i * 4 + 3, none⟩ (.int .i64 x)) g n a c d (put u i x) := by
  obtain ⟨G, h1, h2, h3⟩ := h.row
  refine ⟨_, heap_set h1, by simp [h2], fun k hk => ?_⟩
  obtain ⟨e0, e1, e2, e3⟩ := h3 k hk
  refine ⟨by rw [Array.getElem?_setIfInBounds_ne (by omega)]; exact e0, by rw [Array.getElem?_setIfInBounds_ne (by omega)]; exact e1, by rw [Array.getElem?_setIfInBounds_ne (by omega)]; exact e2, ?_⟩
  by_cases e : k = i
  · subst e; rw [Array.getElem?_setIfInBounds_self_of_lt (by omega), put_at]
  · rw [Array.getElem?_setIfInBounds_ne (by omega), put_ne _ _ e]; exact e3
end Go.Proofs.Yticdcdahehodkaa
/-! Great frames: one function for all slots. No condition. -/
namespace Go.Proofs.Yticdcdahehodkaa
set_option linter.unusedVariables false
set_option linter.unusedSimpArgs false
open Go.RowKit

theorem ex_act {T : Array Value} {ds : List Deferred} {p : (Nat → Value) → Prop} {lit : (Nat → Value) → Array Value} (h1 : p (fun i => T.getD i undef)) (h2 : T = lit (fun i => T.getD i undef)) : ∃ u, p u ∧ (⟨T, ds⟩ : Act) = ⟨lit u, ds⟩ :=
  ⟨_, h1, by rw [← h2]⟩
theorem close_round {J I : Nat → Act → World → Prop} {n : Nat} {a : Act} {w : World} (hJ : ∀ k a w, I k a w → J k a w) (k : Nat) (hk : k < n) (h : I k a w) : Handed J n a w := Handed.intro k hk (hJ _ _ _ h)
/-- the walk stands still here -/
structure Stop (p : Prop) : Prop where
  out : p
theorem stop_at {p : Prop} (h : Stop p) : p := h.out
end Go.Proofs.Yticdcdahehodkaa
/-! settle's may: what it answers. Condition: the numbers fit their kinds. -/
namespace Go.Proofs.Yticdcdahehodkaa
set_option linter.unusedVariables false
set_option linter.unusedSimpArgs false
open Go.RowKit

/-- dues that may be settled, but for the fund and the sum -/
def dmay (A C V : Nat → Int) : Nat → Bool
  | 0 => true
  | k + 1 => dmay A C V k && (decide ((if k = 0 then 0 else A (k - 1)) < A k) && (inB (C k) 0 1000000000000000 && inB (V k) (-100000000000000000) 100000000000000000))
theorem dmay_le {A C V : Nat → Int} : ∀ n, dmay A C V n = true → ∀ k, k ≤ n → dmay A C V k = true
  | 0, _, k, hk => by rw [Nat.le_zero.1 hk]; rfl
  | n + 1, h, k, hk => by
    by_cases e : k = n + 1
    · subst e; exact h
    · have h2 : (dmay A C V n && (decide ((if n = 0 then 0 else A (n - 1)) < A n) && (inB (C n) 0 1000000000000000 && inB (V n) (-100000000000000000) 100000000000000000))) = true := h
      rw [Bool.and_eq_true] at h2
      exact dmay_le n h2.1 k (by omega)
def dOk (A C V : Nat → Int) (k : Nat) : Prop := (if k = 0 then 0 else A (k - 1)) < A k ∧ (0 ≤ C k ∧ C k ≤ 1000000000000000) ∧ (-100000000000000000 ≤ V k ∧ V k ≤ 100000000000000000)
theorem dmay_at {A C V : Nat → Int} {n k : Nat} (h : dmay A C V n = true) (hk : k < n) : dOk A C V k := by
  have h2 : (dmay A C V k && (decide ((if k = 0 then 0 else A (k - 1)) < A k) && (inB (C k) 0 1000000000000000 && inB (V k) (-100000000000000000) 100000000000000000))) = true := dmay_le n h (k + 1) (by omega)
  rw [Bool.and_eq_true, Bool.and_eq_true, Bool.and_eq_true, decide_eq_true_iff] at h2
  exact ⟨h2.2.1, inB_iff.1 h2.2.2.1, inB_iff.1 h2.2.2.2⟩
theorem dmay_no {A C V : Nat → Int} {k : Nat} : ∀ n, k < n → ¬ dOk A C V k → dmay A C V n = false := fun n hk h => by
  rw [Bool.eq_false_iff]; intro ht; exact h (dmay_at ht hk)
theorem dmay_next {A C V : Nat → Int} {k : Nat} (h : dmay A C V k = true) (h2 : dOk A C V k) : dmay A C V (k + 1) = true := by
  show (dmay A C V k && (decide ((if k = 0 then 0 else A (k - 1)) < A k) && (inB (C k) 0 1000000000000000 && inB (V k) (-100000000000000000) 100000000000000000))) = true
  rw [h, decide_eq_true h2.1, inB_iff.2 h2.2.1, inB_iff.2 h2.2.2]; rfl

set_option maxHeartbeats 1000000 in
theorem funds_any (x : Int) (w : World) :
    Calls Try.prog 42 #[.int .i64 x] w fun e w' => e = .returned (.bool (inB x 0 1000000000000000)) ∧ w = w' := by
  by_cases h : 0 ≤ x
  · go_enter Try.func42, Try.ntmps42
    go_wp2
    go_ret
    exact ⟨ret_bool (by simp [inB]; omega), rfl⟩
  · go_enter Try.func42, Try.ntmps42
    go_wp2
    go_ret
    exact ⟨ret_bool (by simp [inB]; omega), rfl⟩

set_option maxRecDepth 100000 in
set_option maxHeartbeats 4000000 in
theorem smay_any (fund : Int) (a : Option Addr) (n cap : Nat) (A C V : Nat → Int) (w : World) (hb : ∀ i, (0 ≤ A i ∧ A i ≤ 4294967295) ∧ F64 (C i) ∧ F64 (V i)) (hA : Dues w a n A C V) (hn : n ≤ 64) :
    Calls Try.prog 25 #[.int .i64 fund, .slice a n cap] w fun e w' => e = .returned (.bool (dmay A C V n && inB fund 0 1000000000000000)) ∧ Below w.heap.size w w' := by
  have HA := Lib.hid hA
  have HB := Lib.hid hb
  clear hA hb
  go_enter Try.func25, Try.ntmps25
  go_wp2
  go_loopg [6, 11] n (fun gh v6 vi wr => ∃ k : Nat, k ≤ n ∧ gh = n - k ∧ vi = .int .i64 k ∧ v6 = .int .u32 (if k = 0 then 0 else A (k - 1)) ∧ dmay A C V k = true ∧ Below w.heap.size w wr)
  case atStart => exact ⟨0, by omega, by omega, rfl, rfl, rfl, Below.refl _ _⟩
  case round =>
    obtain ⟨k, hk, rfl, rfl, rfl, hm, hbw⟩ := hrel
    have HM := Lib.hid hm
    have HW := Lib.hid hbw
    clear hm hbw
    obtain ⟨l, hl⟩ : ∃ l, l = (if k = 0 then 0 else A (k - 1)) := ⟨_, rfl⟩
    rw [← hl]
    by_cases hlt : k < n
    · obtain ⟨g, off, B, t, fr, rfl, hg, hs, he, c0, c1, c2⟩ := (HA.out.kept HW.out).at hlt
      have hki : (k : Int) < n := by omega
      have HBK := Lib.hid (HB.out k)
      have HNO := Lib.hid (fun (h : ¬ (l < A k ∧ (0 ≤ C k ∧ C k ≤ 1000000000000000) ∧ (-100000000000000000 ≤ V k ∧ V k ≤ 100000000000000000))) => dmay_no (A := A) (C := C) (V := V) n hlt (by unfold dOk; rw [← hl]; exact h))
      have HYES := Lib.hid (show l < A k ∧ (0 ≤ C k ∧ C k ≤ 1000000000000000) ∧ (-100000000000000000 ≤ V k ∧ V k ≤ 100000000000000000) → dmay A C V (k + 1) = true from fun h => dmay_next HM.out (by unfold dOk; rw [← hl]; exact h))
      have HNX := Lib.hid (show (if k + 1 = 0 then 0 else A (k + 1 - 1)) = A k from by rw [if_neg (by omega)]; rfl)
      have cw := fun w => within_any (V k) 100000000000000000 w HBK.out.2.2 (by omega) (by omega)
      have cf := fun w => funds_any (C k) w
      generalize A k = x at *
      generalize C k = c at *
      generalize V k = v at *
      have e0 := dA_0 x c v
      have e1 := dA_1 x c v
      have e2 := dA_2 x c v
      clear hl c0 c1 c2
      by_cases h1 : x ≤ l
      · have hf := HNO.out (by omega)
        go_wp2_with (first | ((with_reducible refine at_load 39 ?_); refine wpList_load_part rfl 39 _ rfl (g) (off + k * 3) rfl _ (B) _ _ 3 (hg) Try.underlying39 rfl (by kernel_rfl) (hs) (dA x c v) (he) ?_) | ((with_reducible refine at_alloc 39 ?_); refine wpList_alloc_named rfl 39 rfl (dA 0 0 0) (by kernel_rfl) ?_) | ((with_reducible refine at_store 39 ?_); refine wpList_store_new rfl 39 _ _ rfl (dA x c v) _ _ _ rfl (by simp) rfl (by rw [dA_size _ _ _]; kernel_rfl) (by rw [dA_size _ _ _]; rfl) (dA_all _ _ _) ?_))
        go_ret
        exact ⟨by rw [hf]; rfl, below_alloc HW.out _⟩
      · obtain ⟨b, hb⟩ : ∃ b, b = inB c 0 1000000000000000 := ⟨_, rfl⟩
        rw [← hb] at cf
        cases b
        · have hf := HNO.out (fun h => by have := inB_iff.2 h.2.1; rw [← hb] at this; cases this)
          clear hb cw
          go_wp2_with (first | ((with_reducible refine at_load 39 ?_); refine wpList_load_part rfl 39 _ rfl (g) (off + k * 3) rfl _ (B) _ _ 3 (hg) Try.underlying39 rfl (by kernel_rfl) (hs) (dA x c v) (he) ?_) | ((with_reducible refine at_alloc 39 ?_); refine wpList_alloc_named rfl 39 rfl (dA 0 0 0) (by kernel_rfl) ?_) | ((with_reducible refine at_store 39 ?_); refine wpList_store_new rfl 39 _ _ rfl (dA x c v) _ _ _ rfl (by simp) rfl (by rw [dA_size _ _ _]; kernel_rfl) (by rw [dA_size _ _ _]; rfl) (dA_all _ _ _) ?_) | (go_at_call 42; (with_reducible refine (cf _).mono ?_); rintro e w1 ⟨rfl, rfl⟩))
          go_ret
          exact ⟨by rw [hf]; rfl, below_alloc HW.out _⟩
        · obtain ⟨b2, hb2⟩ : ∃ b, b = inB v (-100000000000000000) 100000000000000000 := ⟨_, rfl⟩
          rw [← hb2] at cw
          cases b2
          · have hf := HNO.out (fun h => by have := inB_iff.2 h.2.2; rw [← hb2] at this; cases this)
            clear hb hb2
            go_wp2_with (first | ((with_reducible refine at_load 39 ?_); refine wpList_load_part rfl 39 _ rfl (g) (off + k * 3) rfl _ (B) _ _ 3 (hg) Try.underlying39 rfl (by kernel_rfl) (hs) (dA x c v) (he) ?_) | ((with_reducible refine at_alloc 39 ?_); refine wpList_alloc_named rfl 39 rfl (dA 0 0 0) (by kernel_rfl) ?_) | ((with_reducible refine at_store 39 ?_); refine wpList_store_new rfl 39 _ _ rfl (dA x c v) _ _ _ rfl (by simp) rfl (by rw [dA_size _ _ _]; kernel_rfl) (by rw [dA_size _ _ _]; rfl) (dA_all _ _ _) ?_) | (go_at_call 42; (with_reducible refine (cf _).mono ?_); rintro e w1 ⟨rfl, rfl⟩) | (go_at_call 19; (with_reducible refine (cw _).mono ?_); rintro e w1 ⟨rfl, rfl⟩))
            go_ret
            exact ⟨by rw [hf]; rfl, below_alloc HW.out _⟩
          · have hy := Lib.hid (HYES.out ⟨by omega, inB_iff.1 hb.symm, inB_iff.1 hb2.symm⟩)
            clear hb hb2
            go_wp2_with (first | ((with_reducible refine at_load 39 ?_); refine wpList_load_part rfl 39 _ rfl (g) (off + k * 3) rfl _ (B) _ _ 3 (hg) Try.underlying39 rfl (by kernel_rfl) (hs) (dA x c v) (he) ?_) | ((with_reducible refine at_alloc 39 ?_); refine wpList_alloc_named rfl 39 rfl (dA 0 0 0) (by kernel_rfl) ?_) | ((with_reducible refine at_store 39 ?_); refine wpList_store_new rfl 39 _ _ rfl (dA x c v) _ _ _ rfl (by simp) rfl (by rw [dA_size _ _ _]; kernel_rfl) (by rw [dA_size _ _ _]; rfl) (dA_all _ _ _) ?_) | (go_at_call 42; (with_reducible refine (cf _).mono ?_); rintro e w1 ⟨rfl, rfl⟩) | (go_at_call 19; (with_reducible refine (cw _).mono ?_); rintro e w1 ⟨rfl, rfl⟩))
            go_roundg (n - (k + 1))
            case measure => omega
            case rel => exact ⟨k + 1, by omega, rfl, by go_num, by rw [HNX.out], hy.out, below_alloc HW.out _⟩
    · obtain rfl : k = n := by omega
      have cf := fun w => funds_any fund w
      clear hl
      go_wp2_with (first | (go_at_call 42; (with_reducible refine (cf _).mono ?_); rintro e w1 ⟨rfl, rfl⟩))
      go_ret
      exact ⟨by rw [HM.out]; rfl, HW.out⟩
end Go.Proofs.Yticdcdahehodkaa
/-! Slices of holders: what comes in; one more appended. No condition. -/
namespace Go.Proofs.Yticdcdahehodkaa
set_option linter.unusedVariables false
set_option linter.unusedSimpArgs false
open Go.RowKit Go.Deep

/-- a holder's two cells -/
def hA (a q : Int) : Array Value := #[.int .u32 a, .int .i64 q]
theorem hA_size (a q : Int) : (hA a q).size = 2 := rfl
theorem hA_all (a q : Int) : (hA a q).all (·.oneCell') = true := by simp [hA, Value.oneCell']
theorem hA_0 (a q : Int) : (hA a q)[0]? = some (.int .u32 a) := rfl
theorem hA_1 (a q : Int) : (hA a q)[1]? = some (.int .i64 q) := rfl
def IsHold (A : Array Value) : Prop := ∃ a q : Int, A = hA a q ∧ 0 ≤ a ∧ a ≤ 4294967295 ∧ F64 q
/-- n holders, by account and quantity -/
def Holds (w : World) (ad : Option Addr) (n : Nat) (A Q : Nat → Int) : Prop := RowsC w 2 ad n (fun i => hA (A i) (Q i))
theorem Holds.kept {w w' : World} {ad : Option Addr} {n : Nat} {A Q : Nat → Int} (h : Holds w ad n A Q) (hb : Below w.heap.size w w') : Holds w' ad n A Q := RowsC.kept h hb
section
variable {H : Type} {enc : TypeId × Value → H} {w : World} {spare : Nat → Bool} {held : Bool}
theorem hold_trod {fuel : Nat} {cs : List Value} {x : DataW H × List MemPlace} (h : DataW.trod enc Try.prog w 0 spare held fuel 32 cs = some x) : IsHold cs.toArray := by
  obtain ⟨hl, n, hf⟩ := fields Try.underlying32 h
  have hc : Try.prog.cellsOf 32 = 2 := by kernel_rfl
  have c2 : Try.prog.cellsOf 2 = 1 := by kernel_rfl
  have c3 : Try.prog.cellsOf 30 = 1 := by kernel_rfl
  obtain ⟨_, y0⟩ := hf 0 _ rfl
  obtain ⟨_, y1⟩ := hf 1 _ rfl
  have l0 : IsN cs.toArray .u32 0 := leaf Try.underlying30 c3 y0
  have l1 : IsN cs.toArray .i64 1 := leaf Try.underlying2 c2 y1
  rw [hc] at hl
  obtain ⟨e0, b0, b0'⟩ := l0
  obtain ⟨e1, b1, b1'⟩ := l1
  refine ⟨N cs.toArray 0, N cs.toArray 1, ?_, b0, b0', b1, b1'⟩
  apply Array.ext_getElem?
  intro i
  unfold hA
  by_cases h0 : i = 0
  · subst h0; rw [e0]; rfl
  · by_cases h1 : i = 1
    · subst h1; rw [e1]; rfl
    · rw [Array.getElem?_eq_none_iff.2 (by simp [hl]; omega), Array.getElem?_eq_none_iff.2 (by simp; omega)]
set_option maxRecDepth 100000 in
theorem holds_of {r : Reach} {b : Nat} {v : Value} {d : DataW H} {p : List MemPlace} (hv : Value.okWide Try.prog w r b 22 v) (h : DataW.Trod enc Try.prog w 0 spare held 22 v d p) :
    ∃ (a : Option Addr) (n cap : Nat) (A Q : Nat → Int), v = .slice a n cap ∧ n ≤ cap ∧ cap ≤ 9223372036854775807 ∧ (∀ i, (0 ≤ A i ∧ A i ≤ 4294967295) ∧ F64 (Q i)) ∧ Holds w a n A Q ∧ (a = none → n = 0 ∧ cap = 0) := by
  obtain ⟨a, n, cap, L, rfl, h1, h2, h3, h4, h5⟩ := rows_of (Is := IsHold) (z := hA 0 0) ⟨0, 0, rfl, by omega, by omega, by unfold F64; omega⟩ Try.underlying22 (c := 2) (by kernel_rfl) (by decide) (fun _ _ _ h => hold_trod h) hv h
  have e : ∀ i, L i = hA (N (L i) 0) (N (L i) 1) := fun i => by
    obtain ⟨x, y, e, _⟩ := h3 i
    rw [e]; rfl
  refine ⟨a, n, cap, fun i => N (L i) 0, fun i => N (L i) 1, rfl, h1, h2, fun i => ?_, RowsC.congr h4 (fun i _ => e i), h5⟩
  obtain ⟨x, y, e, b1, b2, b3⟩ := h3 i
  simp only [e]
  exact ⟨⟨b1, b2⟩, b3⟩
end
/-- the cells of a holder that is read -/
theorem Holds.at {w : World} {ad : Option Addr} {n i : Nat} {A Q : Nat → Int} (h : Holds w ad n A Q) (hi : i < n) : ∃ g off B t fr, ad = some (⟨g, off, none⟩ : Addr) ∧ w.heap[g]? = some (.cells B t fr) ∧ off + i * 2 + 2 ≤ B.size ∧ B.extract (off + i * 2) (off + i * 2 + 2) = hA (A i) (Q i) ∧
    w.cell? ⟨g, off + i * 2, none⟩ = some (.int .u32 (A i)) ∧ w.cell? ⟨g, off + i * 2 + 1, none⟩ = some (.int .i64 (Q i)) := by
  obtain ⟨g, off, B, t, fr, h1, h2, h3, h4⟩ := h i hi
  refine ⟨g, off, B, t, fr, h1, h2, h3, h4, ?_, ?_⟩
  · rw [cellF h2]
    have := congrArg (fun C : Array Value => C[0]?) h4
    simp only [Array.getElem?_extract] at this
    rw [if_pos (by omega)] at this
    exact this
  · rw [cellF h2]
    have := congrArg (fun C : Array Value => C[1]?) h4
    simp only [Array.getElem?_extract] at this
    rw [if_pos (by omega)] at this
    exact this
theorem info_hold : ∃ i z, Try.prog.info? 32 = some i ∧ i.zero = some z ∧ i.size = 2 ∧ i.bytes ≤ 1000 ∧ z.cells.size = 2 := by
  have h : (Try.prog.info? 32).map (fun i => (i.size, decide (i.bytes ≤ 1000), i.zero.map (·.cells.size))) = some (2, true, some 2) := by kernel_rfl
  cases hi : Try.prog.info? 32 with
  | none => simp [hi] at h
  | some i =>
    simp [hi] at h
    obtain ⟨h1, h2, z, h3, h4⟩ := h
    exact ⟨i, z, rfl, h3, h1, h2, h4⟩
end Go.Proofs.Yticdcdahehodkaa
/-! tearup's may and its two closures: what they answer. Condition: the numbers fit their kinds. -/
namespace Go.Proofs.Yticdcdahehodkaa
set_option linter.unusedVariables false
set_option linter.unusedSimpArgs false
open Go.RowKit

/-- holders that may be -/
def hmay (A Q : Nat → Int) : Nat → Bool
  | 0 => true
  | k + 1 => hmay A Q k && (decide ((if k = 0 then 0 else A (k - 1)) < A k) && inB (Q k) (-10000000) 10000000)
theorem hmay_le {A Q : Nat → Int} : ∀ n, hmay A Q n = true → ∀ k, k ≤ n → hmay A Q k = true
  | 0, _, k, hk => by rw [Nat.le_zero.1 hk]; rfl
  | n + 1, h, k, hk => by
    by_cases e : k = n + 1
    · subst e; exact h
    · have h2 : (hmay A Q n && (decide ((if n = 0 then 0 else A (n - 1)) < A n) && inB (Q n) (-10000000) 10000000)) = true := h
      rw [Bool.and_eq_true] at h2
      exact hmay_le n h2.1 k (by omega)
theorem hmay_at {A Q : Nat → Int} {n k : Nat} (h : hmay A Q n = true) (hk : k < n) : (if k = 0 then 0 else A (k - 1)) < A k ∧ -10000000 ≤ Q k ∧ Q k ≤ 10000000 := by
  have h2 : (hmay A Q k && (decide ((if k = 0 then 0 else A (k - 1)) < A k) && inB (Q k) (-10000000) 10000000)) = true := hmay_le n h (k + 1) (by omega)
  rw [Bool.and_eq_true, Bool.and_eq_true, decide_eq_true_iff] at h2
  exact ⟨h2.2.1, inB_iff.1 h2.2.2⟩
theorem hmay_no {A Q : Nat → Int} {k : Nat} : ∀ n, k < n → ¬ ((if k = 0 then 0 else A (k - 1)) < A k ∧ -10000000 ≤ Q k ∧ Q k ≤ 10000000) → hmay A Q n = false := fun n hk h => by
  rw [Bool.eq_false_iff]; intro ht; exact h (hmay_at ht hk)

set_option maxRecDepth 100000 in
set_option maxHeartbeats 2000000 in
theorem tmay_any (a : Option Addr) (n cap : Nat) (A Q : Nat → Int) (w : World) (hb : ∀ i, (0 ≤ A i ∧ A i ≤ 4294967295) ∧ F64 (Q i)) (hA : Holds w a n A Q) (hn : n ≤ 64) :
    Calls Try.prog 20 #[.slice a n cap] w fun e w' => e = .returned (.bool (hmay A Q n)) ∧ Below w.heap.size w w' := by
  have HA := Lib.hid hA
  have HB := Lib.hid hb
  clear hA hb
  go_enter Try.func20, Try.ntmps20
  go_wp2
  go_loopg [3, 8] n (fun gh v3 vi wr => ∃ k : Nat, k ≤ n ∧ gh = n - k ∧ vi = .int .i64 k ∧ v3 = .int .u32 (if k = 0 then 0 else A (k - 1)) ∧ hmay A Q k = true ∧ Below w.heap.size w wr)
  case atStart => exact ⟨0, by omega, by omega, rfl, rfl, rfl, Below.refl _ _⟩
  case round =>
    obtain ⟨k, hk, rfl, rfl, rfl, hm, hbw⟩ := hrel
    have HM := Lib.hid hm
    have HW := Lib.hid hbw
    clear hm hbw
    obtain ⟨l, hl⟩ : ∃ l, l = (if k = 0 then 0 else A (k - 1)) := ⟨_, rfl⟩
    rw [← hl]
    by_cases hlt : k < n
    · obtain ⟨g, off, B, t, fr, rfl, hg, hs, he, c0, c1⟩ := (HA.out.kept HW.out).at hlt
      have hki : (k : Int) < n := by omega
      have HBK := Lib.hid (HB.out k)
      have HNO := Lib.hid (fun (h : ¬ ((if k = 0 then 0 else A (k - 1)) < A k ∧ -10000000 ≤ Q k ∧ Q k ≤ 10000000)) => hmay_no (A := A) (Q := Q) n hlt h)
      have HYES := Lib.hid (show (if k = 0 then 0 else A (k - 1)) < A k ∧ -10000000 ≤ Q k ∧ Q k ≤ 10000000 → hmay A Q (k + 1) = true from fun h => by
        show (hmay A Q k && (decide ((if k = 0 then 0 else A (k - 1)) < A k) && inB (Q k) (-10000000) 10000000)) = true
        rw [HM.out, decide_eq_true h.1, inB_iff.2 h.2]; rfl)
      have HNX := Lib.hid (show (if k + 1 = 0 then 0 else A (k + 1 - 1)) = A k from by rw [if_neg (by omega)]; rfl)
      rw [← hl] at HNO HYES
      have cw := fun w => within_any (Q k) 10000000 w HBK.out.2 (by omega) (by omega)
      generalize A k = x at *
      generalize Q k = q at *
      clear hl
      have e0 := hA_0 x q
      have e1 := hA_1 x q
      by_cases h1 : x ≤ l
      · have hf := HNO.out (by omega)
        go_wp2_with (first | ((with_reducible refine at_load 32 ?_); refine wpList_load_part rfl 32 _ rfl (g) (off + k * 2) rfl _ (B) _ _ 2 (hg) Try.underlying32 rfl (by kernel_rfl) (hs) (hA x q) (he) ?_) | ((with_reducible refine at_alloc 32 ?_); refine wpList_alloc_named rfl 32 rfl (hA 0 0) (by kernel_rfl) ?_) | ((with_reducible refine at_store 32 ?_); refine wpList_store_new rfl 32 _ _ rfl (hA x q) _ _ _ rfl (by simp) rfl (by rw [hA_size _ _]; kernel_rfl) (by rw [hA_size _ _]; rfl) (hA_all _ _) ?_))
        go_ret
        exact ⟨by rw [hf]; rfl, below_alloc HW.out _⟩
      · obtain ⟨b, hb⟩ : ∃ b, b = inB q (-10000000) 10000000 := ⟨_, rfl⟩
        rw [← hb] at cw
        cases b
        · have hf := HNO.out (fun h => by have := inB_iff.2 h.2; rw [← hb] at this; cases this)
          clear hb
          go_wp2_with (first | ((with_reducible refine at_load 32 ?_); refine wpList_load_part rfl 32 _ rfl (g) (off + k * 2) rfl _ (B) _ _ 2 (hg) Try.underlying32 rfl (by kernel_rfl) (hs) (hA x q) (he) ?_) | ((with_reducible refine at_alloc 32 ?_); refine wpList_alloc_named rfl 32 rfl (hA 0 0) (by kernel_rfl) ?_) | ((with_reducible refine at_store 32 ?_); refine wpList_store_new rfl 32 _ _ rfl (hA x q) _ _ _ rfl (by simp) rfl (by rw [hA_size _ _]; kernel_rfl) (by rw [hA_size _ _]; rfl) (hA_all _ _) ?_) | (go_at_call 19; (with_reducible refine (cw _).mono ?_); rintro e w1 ⟨rfl, rfl⟩))
          go_ret
          exact ⟨by rw [hf]; rfl, below_alloc HW.out _⟩
        · have hy := HYES.out ⟨by omega, inB_iff.1 hb.symm⟩
          clear hb
          go_wp2_with (first | ((with_reducible refine at_load 32 ?_); refine wpList_load_part rfl 32 _ rfl (g) (off + k * 2) rfl _ (B) _ _ 2 (hg) Try.underlying32 rfl (by kernel_rfl) (hs) (hA x q) (he) ?_) | ((with_reducible refine at_alloc 32 ?_); refine wpList_alloc_named rfl 32 rfl (hA 0 0) (by kernel_rfl) ?_) | ((with_reducible refine at_store 32 ?_); refine wpList_store_new rfl 32 _ _ rfl (hA x q) _ _ _ rfl (by simp) rfl (by rw [hA_size _ _]; kernel_rfl) (by rw [hA_size _ _]; rfl) (hA_all _ _) ?_) | (go_at_call 19; (with_reducible refine (cw _).mono ?_); rintro e w1 ⟨rfl, rfl⟩))
          go_roundg (n - (k + 1))
          case measure => omega
          case rel => exact ⟨k + 1, by omega, rfl, by go_num, by rw [HNX.out], hy, below_alloc HW.out _⟩
    · obtain rfl : k = n := by omega
      clear hl
      go_wp2
      go_ret
      exact ⟨by rw [HM.out]; rfl, HW.out⟩

/-- a quantity without its sign -/
def absI (q : Int) : Int := if 0 ≤ q then q else -q
/-- what is held on the other side -/
def oppI (q n : Int) : Int := if decide (0 < n) = decide (0 < q) then 0 else absI n
set_option maxHeartbeats 1000000 in
theorem tsize_any (q : Int) (w : World) (hq : -1000000000 ≤ q ∧ q ≤ 1000000000) :
    Calls Try.prog 21 #[.int .i64 q] w fun e w' => e = .returned (.int .i64 (absI q)) ∧ w = w' := by
  have wq : IntKind.i64.wrap (-q) = -q := by rw [IntKind.wrap_i64]; omega
  by_cases h : 0 ≤ q
  · have h2 : -q ≤ q := by omega
    have HA := Lib.hid (show absI q = q from if_pos h)
    go_enter Try.func21, Try.ntmps21
    go_wp2
    go_ret
    exact ⟨by rw [HA.out]; exact ret_int (by omega), rfl⟩
  · have h2 : ¬ -q ≤ q := by omega
    have HA := Lib.hid (show absI q = -q from if_neg h)
    go_enter Try.func21, Try.ntmps21
    go_wp2
    go_ret
    exact ⟨by rw [HA.out]; exact ret_int (by omega), rfl⟩
set_option maxHeartbeats 1000000 in
theorem topp_any (n q : Int) (g g2 : Nat) (t t2 : TypeId) (fr fr2 : Nat × Nat) (w : World) (hn : -1000000000 ≤ n ∧ n ≤ 1000000000) (h1 : w.heap[g]? = some (.cells #[.int .i64 q] t fr)) (h2 : w.heap[g2]? = some (.cells #[.func (.func 21) #[] #[]] t2 fr2)) :
    Calls Try.prog 22 #[.int .i64 n, .pointer (some ⟨g, 0, none⟩), .pointer (some ⟨g2, 0, none⟩)] w fun e w' => e = .returned (.int .i64 (oppI q n)) ∧ w = w' := by
  have c1 := cellF h1
  have c2 := cellF h2
  have ct := fun w => tsize_any n w hn
  obtain ⟨m, hm⟩ : ∃ m, m = absI n := ⟨_, rfl⟩
  rw [← hm] at ct
  by_cases hq : 0 < q
  · by_cases hp : 0 < n
    · have HF := Lib.hid (show oppI q n = 0 from by unfold oppI; rw [decide_eq_true hq, decide_eq_true hp, if_pos rfl])
      clear hm
      go_enter Try.func22, Try.ntmps22
      go_wp2
      go_ret
      exact ⟨by rw [HF.out]; rfl, rfl⟩
    · have HF := Lib.hid (show oppI q n = m from by unfold oppI; rw [decide_eq_true hq, decide_eq_false hp, if_neg (by simp), hm])
      clear hm
      go_enter Try.func22, Try.ntmps22
      go_wp2_with (first | (go_at_call 21; (with_reducible refine (ct _).mono ?_); rintro e w1 ⟨rfl, rfl⟩))
      go_ret
      exact ⟨by rw [HF.out]; rfl, rfl⟩
  · by_cases hp : 0 < n
    · have HF := Lib.hid (show oppI q n = m from by unfold oppI; rw [decide_eq_false hq, decide_eq_true hp, if_neg (by simp), hm])
      clear hm
      go_enter Try.func22, Try.ntmps22
      go_wp2_with (first | (go_at_call 21; (with_reducible refine (ct _).mono ?_); rintro e w1 ⟨rfl, rfl⟩))
      go_ret
      exact ⟨by rw [HF.out]; rfl, rfl⟩
    · have HF := Lib.hid (show oppI q n = 0 from by unfold oppI; rw [decide_eq_false hq, decide_eq_false hp, if_pos rfl])
      clear hm
      go_enter Try.func22, Try.ntmps22
      go_wp2
      go_ret
      exact ⟨by rw [HF.out]; rfl, rfl⟩
end Go.Proofs.Yticdcdahehodkaa
