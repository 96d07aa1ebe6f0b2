/- Texts that Parts14Law stands on, one behind the other, part 4. Conditions: each theorem names its own. -/
import Derived.Test.YticdcdahehodkaaMgParts14Law3
import Derived.Deep.Slices
import Derived.Laws.AppendOwn
import Derived.Laws.AppendOwnNone
import Derived.Maps.AppendAt
import Derived.Deep.LoopGhost
/-! Integers appended to a slice of one's own. No condition. -/
namespace Go.Proofs.Yticdcdahehodkaa
set_option linter.unusedVariables false
set_option linter.unusedSimpArgs false
open Go.RowKit Go.Deep

def zl (Z : Nat → Int) (n : Nat) : List Value := (List.range n).map fun i => .int .i64 (Z i)
theorem zl_len (Z : Nat → Int) (n : Nat) : (zl Z n).length = n := by simp [zl]
theorem zl_at (Z : Nat → Int) {n i : Nat} (h : i < n) : (zl Z n)[i]? = some (.int .i64 (Z i)) := by
  unfold zl; rw [List.getElem?_map, List.getElem?_range h]; rfl
theorem own_ints {w : World} {base n : Nat} {e : TypeId} {v : Value} {Z : Nat → Int} (h : w.ownsRow base e 1 v n (zl Z n)) : ∃ a cap, v = .slice a n cap ∧ Ints w a n Z := by
  obtain ⟨_, ⟨rfl, rfl⟩ | ⟨g, cap, cur, rfl, _, hg, hn, _, hc, ht⟩⟩ := h
  · exact ⟨none, 0, rfl, fun i hi => by omega⟩
  · refine ⟨_, cap, rfl, fun i hi => ⟨g, 0, cur, e, _, rfl, hg, ?_⟩⟩
    rw [Nat.zero_add, ← zl_at Z hi, ← ht, List.getElem?_take, if_pos (by omega), Array.getElem?_toList]
theorem info_i64 : ∃ i z, Try.prog.info? 2 = some i ∧ i.zero = some z ∧ i.size = 1 ∧ i.bytes = 8 ∧ z.cells.size = 1 := by
  have h : (Try.prog.info? 2).map (fun i => (i.size, i.bytes, i.zero.map (·.cells.size))) = some (1, 8, some 1) := by kernel_rfl
  cases hi : Try.prog.info? 2 with
  | none => simp [hi] at h
  | some i =>
    simp [hi] at h
    obtain ⟨h1, h2, z, h3, h4⟩ := h
    exact ⟨i, z, rfl, h3, h1, h2, h4⟩
theorem at_append (T : TypeId) {P : Program} {ops : Array Oper} {Q : Exit → Act → World → Prop} {rest : List Oper} {a : Act} {w : World} {d : Option Tmp} {x y : Operand} {ty : TypeId} {pos : String} {af : Array Edge} {gd : Option (Nat × Bool)}
    (h : wpList P ops Q (⟨d, .call { callee := .builtin .append, args := #[x, y], argTypes := #[T, T] }, ty, pos, af, gd⟩ :: rest) a w) : wpList P ops Q (⟨d, .call { callee := .builtin .append, args := #[x, y], argTypes := #[T, T] }, ty, pos, af, gd⟩ :: rest) a w := h
/-- 'append(own, ints...)' -/
theorem wpList_append_ints {ops : Array Oper} {rest : List Oper} {o : Oper} {a : Act} {w : World} {Q : Exit → Act → World → Prop} (hgd : o.guard = none) (s x : Operand)
    (ho : o.op = .call { callee := .builtin .append, args := #[s, x], argTypes := #[48, 48] })
    (base : Nat) (v : Value) (n : Nat) (xs : List Value) (hs : a.eval s = v) (hown : w.ownsRow base 2 1 v n xs)
    (ad : Option Addr) (m c : Nat) (Z : Nat → Int) (hx : a.eval x = .slice ad m c) (hl : Ints w ad m Z) (hnil : ad = none → m = 0 ∧ c = 0)
    (hbytes : (n + m) * 8 ≤ 140737488355328) (hbase : base ≤ w.heap.size)
    (h : ∀ v' w', w'.ownsRow base 2 1 v' (n + m) (xs ++ zl Z m) → w.grownBy w' v.ownBlock → wpList Try.prog ops Q rest (a.put o.dst v') w') : wpList Try.prog ops Q (o :: rest) a w := by
  obtain ⟨i, z, h1, h2, h3, h4, h5⟩ := info_i64
  cases ad with
  | none =>
    obtain ⟨rfl, rfl⟩ := hnil rfl
    refine wpList_append_own_none hgd s x _ ho base _ i 1 Try.underlying48 h1 v n xs hs hown hx ?_
    exact h v w (by simpa [zl] using hown) ⟨rfl, rfl, rfl, Nat.le_refl _, fun _ _ _ => rfl⟩
  | some ad =>
    refine wpList_append_own w hgd s x _ ho base _ i z 1 8 Try.underlying48 h1 h2 h3 h4 h5 (by omega) v n xs hs hown ad m c (zl Z m) hx (by rw [zl_len]; omega) (fun j u hj => ?_) (fun u hu => ?_) (by unfold maxLen; omega) hbytes hbase ?_
    · have hlt : j < m := by rw [← zl_len Z m]; exact (List.getElem?_eq_some_iff.1 hj).1
      rw [zl_at Z hlt] at hj
      injection hj with hj
      subst hj
      obtain ⟨g, off, A, t, fr, ha, hg, hz⟩ := hl j hlt
      injection ha with ha
      subst ha
      have e : (⟨g, off, none⟩ : Addr).add j = ⟨g, off + j, none⟩ := by unfold Addr.add; split <;> simp_all
      rw [e, cellF hg]
      exact hz
    · unfold zl at hu
      obtain ⟨j, _, rfl⟩ := List.mem_map.1 hu
      rfl
    · exact fun v' w' h6 h7 _ => h v' w' h6 h7
theorem zl_snoc (Z : Nat → Int) (k : Nat) : zl Z k ++ zl (fun _ => Z k) 1 = zl Z (k + 1) := by
  rw [show zl (fun _ => Z k) 1 = [.int .i64 (Z k)] from rfl]
  unfold zl
  rw [List.range_succ, List.map_append]
  rfl
theorem own_empty1 (W : World) (e : TypeId) : (W.alloc (.cells #[] e)).ownsRow W.heap.size e 1 (.slice (some ⟨W.heap.size, 0, none⟩) 0 0) 0 [] :=
  ⟨rfl, .inr ⟨W.heap.size, 0, #[], rfl, Nat.le_refl _, heap_alloc_new _ _, Nat.le_refl _, by unfold maxLen; omega, rfl, rfl⟩⟩

end Go.Proofs.Yticdcdahehodkaa
/-! A slice built of one struct. No condition. -/
namespace Go.Proofs.Yticdcdahehodkaa
set_option linter.unusedVariables false
set_option linter.unusedSimpArgs false
open Go.RowKit

theorem at_slice1 (T : TypeId) {P : Program} {ops : Array Oper} {Q : Exit → Act → World → Prop} {rest : List Oper} {a : Act} {w : World} {d : Option Tmp} {n : Nat} {ps : Array (Nat × Operand)} {ty : TypeId} {pos : String} {af : Array Edge} {gd : Option (Nat × Bool)}
    (h : wpList P ops Q (⟨d, .buildSlice T n ps, ty, pos, af, gd⟩ :: rest) a w) : wpList P ops Q (⟨d, .buildSlice T n ps, ty, pos, af, gd⟩ :: rest) a w := h
theorem wpList_slice1c {P : Program} {ops : Array Oper} {rest : List Oper} {o : Oper} {a : Act} {w : World} {Q : Exit → Act → World → Prop} (hgd : Region.wanted o (yielded ops a.tmps) = true) (t e : TypeId) (x : Operand) (ho : o.op = .buildSlice t 1 #[(0, x)])
    (B : Array Value) (c : Nat) (hx : a.eval x = .agg B) (hB : B.size = c) (ie : TypeInfo) (z : Value) (hu : P.underlying t = some (.slice e)) (hie : P.info? e = some ie) (hz : ie.zero = some z) (h4 : ie.size = c) (hz4 : z.cells.size = c) (hc : 0 < c) (hc2 : c ≤ 1000)
    (h : wpList P ops Q rest (a.put o.dst (.slice (some ⟨w.heap.size, 0, none⟩) 1 1)) (w.alloc (.cells B e))) : wpList P ops Q (o :: rest) a w :=
  wpList_step fun K hK => by
    rw [if_pos hgd]
    exact op_slice1 t e x ho B c hx hB ie z hu hie hz h4 hz4 hc hc2 (hK _ _ h)
/-- one row more behind the own ones -/
theorem wpList_append_row1 {ops : Array Oper} {rest : List Oper} {o : Oper} {a : Act} {w : World} {Q : Exit → Act → World → Prop} {E S : TypeId} {c : Nat} {X : Array Value} (hgd : o.guard = none) (s x : Operand)
    (ho : o.op = .call { callee := .builtin .append, args := #[s, x], argTypes := #[S, S] }) (hS : Try.prog.underlying S = some (.slice E))
    (hi : ∃ i z, Try.prog.info? E = some i ∧ i.zero = some z ∧ i.size = c ∧ i.bytes ≤ 1000 ∧ z.cells.size = c) (hc : 0 < c) (hX : X.size = c) (hXa : X.all (·.oneCell') = true)
    (base : Nat) (v : Value) (n : Nat) (xs : List Value) (hs : a.eval s = v) (hown : w.ownsRow base E c v n xs) (hx : a.eval x = .slice (some ⟨w.heap.size, 0, none⟩) 1 1) (hn : n ≤ 100000000) (hbase : base ≤ w.heap.size)
    (h : ∀ v' w', w'.ownsRow base E c v' (n + 1) (xs ++ X.toList) → (w.alloc (.cells X E)).grownBy w' v.ownBlock → (∀ q, v.ownBlock = some q → base ≤ q) → wpList Try.prog ops Q rest (a.put o.dst v') w') : wpList Try.prog ops Q (o :: rest) a (w.alloc (.cells X E)) := by
  obtain ⟨i, z, h1, h2, h3, h4, h5⟩ := hi
  have hb := Nat.mul_le_mul (show n + 1 ≤ 100000001 by omega) h4
  refine wpList_append_own (w.alloc (.cells X E)) hgd s x _ ho base _ i z c i.bytes hS h1 h2 h3 rfl h5 hc v n xs hs (hown.alloc _) ⟨w.heap.size, 0, none⟩ 1 1 X.toList hx (by simp [hX]) (fun j u hj => ?_) (fun u hu => ?_) (by unfold maxLen; omega) (by omega) (by simp; omega) ?_
  · have e : (⟨w.heap.size, 0, none⟩ : Addr).add j = ⟨w.heap.size, j, none⟩ := by unfold Addr.add; split <;> simp_all
    rw [e, cellF (heap_alloc_new w (.cells X E))]
    simpa using hj
  · rw [Array.all_eq_true'] at hXa
    exact hXa u (by simpa using hu)
  · exact fun v' w' h6 h7 _ => h v' w' h6 h7 (fun q hq => (hown.lt q hq).1)
/-- one row more behind the own ones; where it then lies -/
theorem wpList_append_row1_at {ops : Array Oper} {rest : List Oper} {o : Oper} {a : Act} {w : World} {Q : Exit → Act → World → Prop} {E S : TypeId} {c : Nat} {X : Array Value} (hgd : o.guard = none) (s x : Operand)
    (ho : o.op = .call { callee := .builtin .append, args := #[s, x], argTypes := #[S, S] }) (hS : Try.prog.underlying S = some (.slice E))
    (hi : ∃ i z, Try.prog.info? E = some i ∧ i.zero = some z ∧ i.size = c ∧ i.bytes ≤ 1000 ∧ z.cells.size = c) (hc : 0 < c) (hX : X.size = c) (hXa : X.all (·.oneCell') = true)
    (base : Nat) (v : Value) (n : Nat) (xs : List Value) (hs : a.eval s = v) (hown : w.ownsRow base E c v n xs) (gs : Nat) (hgs : w.heap.size = gs) (hx : a.eval x = .slice (some ⟨gs, 0, none⟩) 1 1) (hn : n ≤ 100000000) (hbase : base ≤ w.heap.size)
    (h : ∀ v' w', w'.ownsRow base E c v' (n + 1) (xs ++ X.toList) → (w.alloc (.cells X E)).grownBy w' v.ownBlock → (∀ q, v.ownBlock = some q → base ≤ q) → (∀ q, v'.ownBlock = some q → v.ownBlock = some q ∨ w.heap.size < q) → wpList Try.prog ops Q rest (a.put o.dst v') w') : wpList Try.prog ops Q (o :: rest) a (w.alloc (.cells X E)) := by
  subst hgs
  obtain ⟨i, z, h1, h2, h3, h4, h5⟩ := hi
  have hb := Nat.mul_le_mul (show n + 1 ≤ 100000001 by omega) h4
  refine wpList_append_own_at (w := w.alloc (.cells X E)) hgd s x _ ho base _ i z c i.bytes hS h1 h2 h3 rfl h5 hc v n xs hs (hown.alloc _) ⟨w.heap.size, 0, none⟩ 1 1 X.toList hx (by simp [hX]) (fun j u hj => ?_) (fun u hu => ?_) (by unfold maxLen; omega) (by omega) (by simp; omega) ?_
  · have e : (⟨w.heap.size, 0, none⟩ : Addr).add j = ⟨w.heap.size, j, none⟩ := by unfold Addr.add; split <;> simp_all
    rw [e, cellF (heap_alloc_new w (.cells X E))]
    simpa using hj
  · rw [Array.all_eq_true'] at hXa
    exact hXa u (by simpa using hu)
  · exact fun v' w' h6 h7 _ h8 => h v' w' h6 h7 (fun q hq => (hown.lt q hq).1) (fun q hq => by
      rcases h8 with h8 | h8
      · exact .inl (h8 ▸ hq)
      · rw [h8] at hq; injection hq with hq; simp at hq; exact .inr (by omega))
theorem op_append_row1 {o : Oper} {a : Act} {w : World} {K : Act → World → Prop} {Q : Exit → Act → World → Prop} {E S : TypeId} {c : Nat} {X : Array Value} (s x : Operand)
    (ho : o.op = .call { callee := .builtin .append, args := #[s, x], argTypes := #[S, S] }) (hS : Try.prog.underlying S = some (.slice E))
    (hi : ∃ i z, Try.prog.info? E = some i ∧ i.zero = some z ∧ i.size = c ∧ i.bytes ≤ 1000 ∧ z.cells.size = c) (hc : 0 < c) (hX : X.size = c) (hXa : X.all (·.oneCell') = true)
    (base : Nat) (v : Value) (n : Nat) (xs : List Value) (hs : a.eval s = v) (hown : w.ownsRow base E c v n xs) (gs : Nat) (hx : a.eval x = .slice (some ⟨gs, 0, none⟩) 1 1) (hg : w.heap[gs]? = some (.cells X E (0, 0))) (hn : n ≤ 100000000) (hbase : base ≤ w.heap.size)
    (h : ∀ v' w', w'.ownsRow base E c v' (n + 1) (xs ++ X.toList) → w.grownBy w' v.ownBlock → (∀ q, v.ownBlock = some q → base ≤ q) → K (a.put o.dst v') w') : o.wp Try.prog a w K Q := by
  obtain ⟨i, z, h1, h2, h3, h4, h5⟩ := hi
  have hb := Nat.mul_le_mul (show n + 1 ≤ 100000001 by omega) h4
  refine wp_append_own w s x _ ho base _ i z c i.bytes hS h1 h2 h3 rfl h5 hc v n xs hs hown ⟨gs, 0, none⟩ 1 1 X.toList hx (by simp [hX]) (fun j u hj => ?_) (fun u hu => ?_) (by unfold maxLen; omega) (by omega) hbase ?_
  · have e : (⟨gs, 0, none⟩ : Addr).add j = ⟨gs, j, none⟩ := by unfold Addr.add; split <;> simp_all
    rw [e, cellF hg]
    simpa using hj
  · rw [Array.all_eq_true'] at hXa
    exact hXa u (by simpa using hu)
  · exact fun v' w' h6 h7 _ => h v' w' h6 h7 (fun q hq => (hown.lt q hq).1)
theorem own_weak {w : World} {b b' n c : Nat} {e : TypeId} {v : Value} {xs : List Value} (h : w.ownsRow b e c v n xs) (hb : b' ≤ b) : w.ownsRow b' e c v n xs := by
  obtain ⟨h1, h2 | ⟨g, cap, cur, h2, h3, h4⟩⟩ := h
  · exact ⟨h1, .inl h2⟩
  · exact ⟨h1, .inr ⟨g, cap, cur, h2, by omega, h4⟩⟩
end Go.Proofs.Yticdcdahehodkaa
/-! Slices of holders: what comes in; one more appended. No condition. -/
namespace Go.Proofs.Yticdcdahehodkaa
set_option linter.unusedVariables false
set_option linter.unusedSimpArgs false
open Go.RowKit Go.Deep

/-- a holder's two cells -/
def hA (a q : Int) : Array Value := #[.int .u32 a, .int .i64 q]
theorem hA_size (a q : Int) : (hA a q).size = 2 := rfl
theorem hA_all (a q : Int) : (hA a q).all (·.oneCell') = true := by simp [hA, Value.oneCell']
theorem hA_0 (a q : Int) : (hA a q)[0]? = some (.int .u32 a) := rfl
theorem hA_1 (a q : Int) : (hA a q)[1]? = some (.int .i64 q) := rfl
def IsHold (A : Array Value) : Prop := ∃ a q : Int, A = hA a q ∧ 0 ≤ a ∧ a ≤ 4294967295 ∧ F64 q
/-- n holders, by account and quantity -/
def Holds (w : World) (ad : Option Addr) (n : Nat) (A Q : Nat → Int) : Prop := RowsC w 2 ad n (fun i => hA (A i) (Q i))
theorem Holds.kept {w w' : World} {ad : Option Addr} {n : Nat} {A Q : Nat → Int} (h : Holds w ad n A Q) (hb : Below w.heap.size w w') : Holds w' ad n A Q := RowsC.kept h hb
section
variable {H : Type} {enc : TypeId × Value → H} {w : World} {spare : Nat → Bool} {held : Bool}
theorem hold_trod {fuel : Nat} {cs : List Value} {x : DataW H × List MemPlace} (h : DataW.trod enc Try.prog w 0 spare held fuel 32 cs = some x) : IsHold cs.toArray := by
  obtain ⟨hl, n, hf⟩ := fields Try.underlying32 h
  have hc : Try.prog.cellsOf 32 = 2 := by kernel_rfl
  have c2 : Try.prog.cellsOf 2 = 1 := by kernel_rfl
  have c3 : Try.prog.cellsOf 30 = 1 := by kernel_rfl
  obtain ⟨_, y0⟩ := hf 0 _ rfl
  obtain ⟨_, y1⟩ := hf 1 _ rfl
  have l0 : IsN cs.toArray .u32 0 := leaf Try.underlying30 c3 y0
  have l1 : IsN cs.toArray .i64 1 := leaf Try.underlying2 c2 y1
  rw [hc] at hl
  obtain ⟨e0, b0, b0'⟩ := l0
  obtain ⟨e1, b1, b1'⟩ := l1
  refine ⟨N cs.toArray 0, N cs.toArray 1, ?_, b0, b0', b1, b1'⟩
  apply Array.ext_getElem?
  intro i
  unfold hA
  by_cases h0 : i = 0
  · subst h0; rw [e0]; rfl
  · by_cases h1 : i = 1
    · subst h1; rw [e1]; rfl
    · rw [Array.getElem?_eq_none_iff.2 (by simp [hl]; omega), Array.getElem?_eq_none_iff.2 (by simp; omega)]
set_option maxRecDepth 100000 in
theorem holds_of {r : Reach} {b : Nat} {v : Value} {d : DataW H} {p : List MemPlace} (hv : Value.okWide Try.prog w r b 22 v) (h : DataW.Trod enc Try.prog w 0 spare held 22 v d p) :
    ∃ (a : Option Addr) (n cap : Nat) (A Q : Nat → Int), v = .slice a n cap ∧ n ≤ cap ∧ cap ≤ 9223372036854775807 ∧ (∀ i, (0 ≤ A i ∧ A i ≤ 4294967295) ∧ F64 (Q i)) ∧ Holds w a n A Q ∧ (a = none → n = 0 ∧ cap = 0) := by
  obtain ⟨a, n, cap, L, rfl, h1, h2, h3, h4, h5⟩ := rows_of (Is := IsHold) (z := hA 0 0) ⟨0, 0, rfl, by omega, by omega, by unfold F64; omega⟩ Try.underlying22 (c := 2) (by kernel_rfl) (by decide) (fun _ _ _ h => hold_trod h) hv h
  have e : ∀ i, L i = hA (N (L i) 0) (N (L i) 1) := fun i => by
    obtain ⟨x, y, e, _⟩ := h3 i
    rw [e]; rfl
  refine ⟨a, n, cap, fun i => N (L i) 0, fun i => N (L i) 1, rfl, h1, h2, fun i => ?_, RowsC.congr h4 (fun i _ => e i), h5⟩
  obtain ⟨x, y, e, b1, b2, b3⟩ := h3 i
  simp only [e]
  exact ⟨⟨b1, b2⟩, b3⟩
end
/-- the cells of a holder that is read -/
theorem Holds.at {w : World} {ad : Option Addr} {n i : Nat} {A Q : Nat → Int} (h : Holds w ad n A Q) (hi : i < n) : ∃ g off B t fr, ad = some (⟨g, off, none⟩ : Addr) ∧ w.heap[g]? = some (.cells B t fr) ∧ off + i * 2 + 2 ≤ B.size ∧ B.extract (off + i * 2) (off + i * 2 + 2) = hA (A i) (Q i) ∧
    w.cell? ⟨g, off + i * 2, none⟩ = some (.int .u32 (A i)) ∧ w.cell? ⟨g, off + i * 2 + 1, none⟩ = some (.int .i64 (Q i)) := by
  obtain ⟨g, off, B, t, fr, h1, h2, h3, h4⟩ := h i hi
  refine ⟨g, off, B, t, fr, h1, h2, h3, h4, ?_, ?_⟩
  · rw [cellF h2]
    have := congrArg (fun C : Array Value => C[0]?) h4
    simp only [Array.getElem?_extract] at this
    rw [if_pos (by omega)] at this
    exact this
  · rw [cellF h2]
    have := congrArg (fun C : Array Value => C[1]?) h4
    simp only [Array.getElem?_extract] at this
    rw [if_pos (by omega)] at this
    exact this
theorem info_hold : ∃ i z, Try.prog.info? 32 = some i ∧ i.zero = some z ∧ i.size = 2 ∧ i.bytes ≤ 1000 ∧ z.cells.size = 2 := by
  have h : (Try.prog.info? 32).map (fun i => (i.size, decide (i.bytes ≤ 1000), i.zero.map (·.cells.size))) = some (2, true, some 2) := by kernel_rfl
  cases hi : Try.prog.info? 32 with
  | none => simp [hi] at h
  | some i =>
    simp [hi] at h
    obtain ⟨h1, h2, z, h3, h4⟩ := h
    exact ⟨i, z, rfl, h3, h1, h2, h4⟩
end Go.Proofs.Yticdcdahehodkaa
/-! Great frames: one function for all slots. No condition. -/
namespace Go.Proofs.Yticdcdahehodkaa
set_option linter.unusedVariables false
set_option linter.unusedSimpArgs false
open Go.RowKit

theorem ex_act {T : Array Value} {ds : List Deferred} {p : (Nat → Value) → Prop} {lit : (Nat → Value) → Array Value} (h1 : p (fun i => T.getD i undef)) (h2 : T = lit (fun i => T.getD i undef)) : ∃ u, p u ∧ (⟨T, ds⟩ : Act) = ⟨lit u, ds⟩ :=
  ⟨_, h1, by rw [← h2]⟩
theorem close_round {J I : Nat → Act → World → Prop} {n : Nat} {a : Act} {w : World} (hJ : ∀ k a w, I k a w → J k a w) (k : Nat) (hk : k < n) (h : I k a w) : Handed J n a w := Handed.intro k hk (hJ _ _ _ h)
/-- the walk stands still here -/
structure Stop (p : Prop) : Prop where
  out : p
theorem stop_at {p : Prop} (h : Stop p) : p := h.out
end Go.Proofs.Yticdcdahehodkaa
/-! tearup's may and its two closures: what they answer. Condition: the numbers fit their kinds. -/
namespace Go.Proofs.Yticdcdahehodkaa
set_option linter.unusedVariables false
set_option linter.unusedSimpArgs false
open Go.RowKit

/-- holders that may be -/
def hmay (A Q : Nat → Int) : Nat → Bool
  | 0 => true
  | k + 1 => hmay A Q k && (decide ((if k = 0 then 0 else A (k - 1)) < A k) && inB (Q k) (-10000000) 10000000)
theorem hmay_le {A Q : Nat → Int} : ∀ n, hmay A Q n = true → ∀ k, k ≤ n → hmay A Q k = true
  | 0, _, k, hk => by rw [Nat.le_zero.1 hk]; rfl
  | n + 1, h, k, hk => by
    by_cases e : k = n + 1
    · subst e; exact h
    · have h2 : (hmay A Q n && (decide ((if n = 0 then 0 else A (n - 1)) < A n) && inB (Q n) (-10000000) 10000000)) = true := h
      rw [Bool.and_eq_true] at h2
      exact hmay_le n h2.1 k (by omega)
theorem hmay_at {A Q : Nat → Int} {n k : Nat} (h : hmay A Q n = true) (hk : k < n) : (if k = 0 then 0 else A (k - 1)) < A k ∧ -10000000 ≤ Q k ∧ Q k ≤ 10000000 := by
  have h2 : (hmay A Q k && (decide ((if k = 0 then 0 else A (k - 1)) < A k) && inB (Q k) (-10000000) 10000000)) = true := hmay_le n h (k + 1) (by omega)
  rw [Bool.and_eq_true, Bool.and_eq_true, decide_eq_true_iff] at h2
  exact ⟨h2.2.1, inB_iff.1 h2.2.2⟩
theorem hmay_no {A Q : Nat → Int} {k : Nat} : ∀ n, k < n → ¬ ((if k = 0 then 0 else A (k - 1)) < A k ∧ -10000000 ≤ Q k ∧ Q k ≤ 10000000) → hmay A Q n = false := fun n hk h => by
  rw [Bool.eq_false_iff]; intro ht; exact h (hmay_at ht hk)

set_option maxRecDepth 100000 in
set_option maxHeartbeats 2000000 in
theorem tmay_any (a : Option Addr) (n cap : Nat) (A Q : Nat → Int) (w : World) (hb : ∀ i, (0 ≤ A i ∧ A i ≤ 4294967295) ∧ F64 (Q i)) (hA : Holds w a n A Q) (hn : n ≤ 64) :
    Calls Try.prog 20 #[.slice a n cap] w fun e w' => e = .returned (.bool (hmay A Q n)) ∧ Below w.heap.size w w' := by
  have HA := Lib.hid hA
  have HB := Lib.hid hb
  clear hA hb
  go_enter Try.func20, Try.ntmps20
  go_wp2
  go_loopg [3, 8] n (fun gh v3 vi wr => ∃ k : Nat, k ≤ n ∧ gh = n - k ∧ vi = .int .i64 k ∧ v3 = .int .u32 (if k = 0 then 0 else A (k - 1)) ∧ hmay A Q k = true ∧ Below w.heap.size w wr)
  case atStart => exact ⟨0, by omega, by omega, rfl, rfl, rfl, Below.refl _ _⟩
  case round =>
    obtain ⟨k, hk, rfl, rfl, rfl, hm, hbw⟩ := hrel
    have HM := Lib.hid hm
    have HW := Lib.hid hbw
    clear hm hbw
    obtain ⟨l, hl⟩ : ∃ l, l = (if k = 0 then 0 else A (k - 1)) := ⟨_, rfl⟩
    rw [← hl]
    by_cases hlt : k < n
    · obtain ⟨g, off, B, t, fr, rfl, hg, hs, he, c0, c1⟩ := (HA.out.kept HW.out).at hlt
      have hki : (k : Int) < n := by omega
      have HBK := Lib.hid (HB.out k)
      have HNO := Lib.hid (fun (h : ¬ ((if k = 0 then 0 else A (k - 1)) < A k ∧ -10000000 ≤ Q k ∧ Q k ≤ 10000000)) => hmay_no (A := A) (Q := Q) n hlt h)
      have HYES := Lib.hid (show (if k = 0 then 0 else A (k - 1)) < A k ∧ -10000000 ≤ Q k ∧ Q k ≤ 10000000 → hmay A Q (k + 1) = true from fun h => by
        show (hmay A Q k && (decide ((if k = 0 then 0 else A (k - 1)) < A k) && inB (Q k) (-10000000) 10000000)) = true
        rw [HM.out, decide_eq_true h.1, inB_iff.2 h.2]; rfl)
      have HNX := Lib.hid (show (if k + 1 = 0 then 0 else A (k + 1 - 1)) = A k from by rw [if_neg (by omega)]; rfl)
      rw [← hl] at HNO HYES
      have cw := fun w => within_any (Q k) 10000000 w HBK.out.2 (by omega) (by omega)
      generalize A k = x at *
      generalize Q k = q at *
      clear hl
      have e0 := hA_0 x q
      have e1 := hA_1 x q
      by_cases h1 : x ≤ l
      · have hf := HNO.out (by omega)
        go_wp2_with (first | ((with_reducible refine at_load 32 ?_); refine wpList_load_part rfl 32 _ rfl (g) (off + k * 2) rfl _ (B) _ _ 2 (hg) Try.underlying32 rfl (by kernel_rfl) (hs) (hA x q) (he) ?_) | ((with_reducible refine at_alloc 32 ?_); refine wpList_alloc_named rfl 32 rfl (hA 0 0) (by kernel_rfl) ?_) | ((with_reducible refine at_store 32 ?_); refine wpList_store_new rfl 32 _ _ rfl (hA x q) _ _ _ rfl (by simp) rfl (by rw [hA_size _ _]; kernel_rfl) (by rw [hA_size _ _]; rfl) (hA_all _ _) ?_))
        go_ret
        exact ⟨by rw [hf]; rfl, below_alloc HW.out _⟩
      · obtain ⟨b, hb⟩ : ∃ b, b = inB q (-10000000) 10000000 := ⟨_, rfl⟩
        rw [← hb] at cw
        cases b
        · have hf := HNO.out (fun h => by have := inB_iff.2 h.2; rw [← hb] at this; cases this)
          clear hb
          go_wp2_with (first | ((with_reducible refine at_load 32 ?_); refine wpList_load_part rfl 32 _ rfl (g) (off + k * 2) rfl _ (B) _ _ 2 (hg) Try.underlying32 rfl (by kernel_rfl) (hs) (hA x q) (he) ?_) | ((with_reducible refine at_alloc 32 ?_); refine wpList_alloc_named rfl 32 rfl (hA 0 0) (by kernel_rfl) ?_) | ((with_reducible refine at_store 32 ?_); refine wpList_store_new rfl 32 _ _ rfl (hA x q) _ _ _ rfl (by simp) rfl (by rw [hA_size _ _]; kernel_rfl) (by rw [hA_size _ _]; rfl) (hA_all _ _) ?_) | (go_at_call 19; (with_reducible refine (cw _).mono ?_); rintro e w1 ⟨rfl, rfl⟩))
          go_ret
          exact ⟨by rw [hf]; rfl, below_alloc HW.out _⟩
        · have hy := HYES.out ⟨by omega, inB_iff.1 hb.symm⟩
          clear hb
          go_wp2_with (first | ((with_reducible refine at_load 32 ?_); refine wpList_load_part rfl 32 _ rfl (g) (off + k * 2) rfl _ (B) _ _ 2 (hg) Try.underlying32 rfl (by kernel_rfl) (hs) (hA x q) (he) ?_) | ((with_reducible refine at_alloc 32 ?_); refine wpList_alloc_named rfl 32 rfl (hA 0 0) (by kernel_rfl) ?_) | ((with_reducible refine at_store 32 ?_); refine wpList_store_new rfl 32 _ _ rfl (hA x q) _ _ _ rfl (by simp) rfl (by rw [hA_size _ _]; kernel_rfl) (by rw [hA_size _ _]; rfl) (hA_all _ _) ?_) | (go_at_call 19; (with_reducible refine (cw _).mono ?_); rintro e w1 ⟨rfl, rfl⟩))
          go_roundg (n - (k + 1))
          case measure => omega
          case rel => exact ⟨k + 1, by omega, rfl, by go_num, by rw [HNX.out], hy, below_alloc HW.out _⟩
    · obtain rfl : k = n := by omega
      clear hl
      go_wp2
      go_ret
      exact ⟨by rw [HM.out]; rfl, HW.out⟩

/-- a quantity without its sign -/
def absI (q : Int) : Int := if 0 ≤ q then q else -q
/-- what is held on the other side -/
def oppI (q n : Int) : Int := if decide (0 < n) = decide (0 < q) then 0 else absI n
set_option maxHeartbeats 1000000 in
theorem tsize_any (q : Int) (w : World) (hq : -1000000000 ≤ q ∧ q ≤ 1000000000) :
    Calls Try.prog 21 #[.int .i64 q] w fun e w' => e = .returned (.int .i64 (absI q)) ∧ w = w' := by
  have wq : IntKind.i64.wrap (-q) = -q := by rw [IntKind.wrap_i64]; omega
  by_cases h : 0 ≤ q
  · have h2 : -q ≤ q := by omega
    have HA := Lib.hid (show absI q = q from if_pos h)
    go_enter Try.func21, Try.ntmps21
    go_wp2
    go_ret
    exact ⟨by rw [HA.out]; exact ret_int (by omega), rfl⟩
  · have h2 : ¬ -q ≤ q := by omega
    have HA := Lib.hid (show absI q = -q from if_neg h)
    go_enter Try.func21, Try.ntmps21
    go_wp2
    go_ret
    exact ⟨by rw [HA.out]; exact ret_int (by omega), rfl⟩
set_option maxHeartbeats 1000000 in
theorem topp_any (n q : Int) (g g2 : Nat) (t t2 : TypeId) (fr fr2 : Nat × Nat) (w : World) (hn : -1000000000 ≤ n ∧ n ≤ 1000000000) (h1 : w.heap[g]? = some (.cells #[.int .i64 q] t fr)) (h2 : w.heap[g2]? = some (.cells #[.func (.func 21) #[] #[]] t2 fr2)) :
    Calls Try.prog 22 #[.int .i64 n, .pointer (some ⟨g, 0, none⟩), .pointer (some ⟨g2, 0, none⟩)] w fun e w' => e = .returned (.int .i64 (oppI q n)) ∧ w = w' := by
  have c1 := cellF h1
  have c2 := cellF h2
  have ct := fun w => tsize_any n w hn
  obtain ⟨m, hm⟩ : ∃ m, m = absI n := ⟨_, rfl⟩
  rw [← hm] at ct
  by_cases hq : 0 < q
  · by_cases hp : 0 < n
    · have HF := Lib.hid (show oppI q n = 0 from by unfold oppI; rw [decide_eq_true hq, decide_eq_true hp, if_pos rfl])
      clear hm
      go_enter Try.func22, Try.ntmps22
      go_wp2
      go_ret
      exact ⟨by rw [HF.out]; rfl, rfl⟩
    · have HF := Lib.hid (show oppI q n = m from by unfold oppI; rw [decide_eq_true hq, decide_eq_false hp, if_neg (by simp), hm])
      clear hm
      go_enter Try.func22, Try.ntmps22
      go_wp2_with (first | (go_at_call 21; (with_reducible refine (ct _).mono ?_); rintro e w1 ⟨rfl, rfl⟩))
      go_ret
      exact ⟨by rw [HF.out]; rfl, rfl⟩
  · by_cases hp : 0 < n
    · have HF := Lib.hid (show oppI q n = m from by unfold oppI; rw [decide_eq_false hq, decide_eq_true hp, if_neg (by simp), hm])
      clear hm
      go_enter Try.func22, Try.ntmps22
      go_wp2_with (first | (go_at_call 21; (with_reducible refine (ct _).mono ?_); rintro e w1 ⟨rfl, rfl⟩))
      go_ret
      exact ⟨by rw [HF.out]; rfl, rfl⟩
    · have HF := Lib.hid (show oppI q n = 0 from by unfold oppI; rw [decide_eq_false hq, decide_eq_false hp, if_pos rfl])
      clear hm
      go_enter Try.func22, Try.ntmps22
      go_wp2
      go_ret
      exact ⟨by rw [HF.out]; rfl, rfl⟩
end Go.Proofs.Yticdcdahehodkaa
/-! A stable sort by merging, plainly: permutations of a stretch, rotations, a merge of two sorted stretches. Nothing of the program is in it. -/
namespace Go.Proofs.Yticdcdahehodkaa
set_option linter.unusedVariables false
set_option linter.unusedSimpArgs false

/-- by the key; where keys tie, by number -/
def ltK (K : Nat → Int) (x y : Nat) : Prop := K x < K y ∨ (K x = K y ∧ x < y)
theorem ltK_trans {K : Nat → Int} {x y z : Nat} (h1 : ltK K x y) (h2 : ltK K y z) : ltK K x z := by unfold ltK at *; omega
theorem ltK_or {K : Nat → Int} {x y : Nat} (h : ¬ ltK K x y) (hne : x ≠ y) : ltK K y x := by unfold ltK at *; omega
theorem ltK_irr {K : Nat → Int} {x y : Nat} (h1 : ltK K x y) (h2 : ltK K y x) : False := by unfold ltK at *; omega
theorem ltK_ne {K : Nat → Int} {x y : Nat} (h1 : ltK K x y) : x ≠ y := by rintro rfl; unfold ltK at *; omega
theorem ltK_yes {K : Nat → Int} {x y : Nat} (h : x < y) (hk : K y < K x) : ltK K y x := .inl hk
theorem ltK_no {K : Nat → Int} {x y : Nat} (h : x < y) (hk : ¬ K y < K x) : ltK K x y := by unfold ltK; omega

def Srt (K : Nat → Int) (a b : Nat) (d : Nat → Nat) : Prop := ∀ i j, a ≤ i → i < j → j < b → ltK K (d i) (d j)
theorem Srt.sub {K : Nat → Int} {a b a' b' : Nat} {d : Nat → Nat} (h : Srt K a b d) (h1 : a ≤ a') (h2 : b' ≤ b) : Srt K a' b' d := fun i j hi hij hj => h i j (by omega) hij (by omega)
theorem Srt.congr {K : Nat → Int} {a b : Nat} {d d' : Nat → Nat} (h : Srt K a b d) (e : ∀ k, a ≤ k → k < b → d' k = d k) : Srt K a b d' := fun i j hi hij hj => by
  rw [e i hi (by omega), e j (by omega) hj]; exact h i j hi hij hj

/-- d' is d with the places from a on to b in another order -/
def PermOn (a b : Nat) (d d' : Nat → Nat) : Prop := ∃ σ τ : Nat → Nat, (∀ k, σ (τ k) = k) ∧ (∀ k, τ (σ k) = k) ∧ (∀ k, ¬ (a ≤ k ∧ k < b) → σ k = k) ∧ ∀ k, d' k = d (σ k)
theorem PermOn.refl (a b : Nat) (d : Nat → Nat) : PermOn a b d d := ⟨id, id, fun _ => rfl, fun _ => rfl, fun _ _ => rfl, fun _ => rfl⟩
theorem PermOn.trans {a b : Nat} {d d' d'' : Nat → Nat} (h1 : PermOn a b d d') (h2 : PermOn a b d' d'') : PermOn a b d d'' := by
  obtain ⟨s1, t1, a1, b1, c1, e1⟩ := h1
  obtain ⟨s2, t2, a2, b2, c2, e2⟩ := h2
  exact ⟨fun k => s1 (s2 k), fun k => t2 (t1 k), fun k => by simp only; rw [a2, a1], fun k => by simp only; rw [b1, b2], fun k hk => by simp only; rw [c2 k hk, c1 k hk], fun k => by rw [e2, e1]⟩
theorem PermOn.mono {a b a' b' : Nat} {d d' : Nat → Nat} (h : PermOn a b d d') (h1 : a' ≤ a) (h2 : b ≤ b') : PermOn a' b' d d' := by
  obtain ⟨s, t, h3, h4, h5, h6⟩ := h
  exact ⟨s, t, h3, h4, fun k hk => h5 k (by omega), h6⟩
theorem PermOn.out {a b k : Nat} {d d' : Nat → Nat} (h : PermOn a b d d') (hk : ¬ (a ≤ k ∧ k < b)) : d' k = d k := by
  obtain ⟨s, t, h3, h4, h5, h6⟩ := h
  rw [h6, h5 k hk]
theorem PermOn.inn {a b k : Nat} {d d' : Nat → Nat} (h : PermOn a b d d') (h1 : a ≤ k) (h2 : k < b) : ∃ i, a ≤ i ∧ i < b ∧ d' k = d i := by
  obtain ⟨s, t, h3, h4, h5, h6⟩ := h
  by_cases e : a ≤ s k ∧ s k < b
  · exact ⟨s k, e.1, e.2, h6 k⟩
  · have e1 := h5 _ e
    have e2 : s k = k := by have := congrArg t e1; rwa [h4, h4] at this
    exact absurd (by omega : a ≤ s k ∧ s k < b) e
theorem PermOn.symm {a b : Nat} {d d' : Nat → Nat} (h : PermOn a b d d') : PermOn a b d' d := by
  obtain ⟨s, t, h3, h4, h5, h6⟩ := h
  exact ⟨t, s, h4, h3, fun k hk => by have := h5 k hk; rw [← this, h4, this], fun k => by rw [h6, h3]⟩
/-- what holds of each from a on, and of a pair across, stays -/
theorem PermOn.all {a b : Nat} {d d' : Nat → Nat} (h : PermOn a b d d') {p : Nat → Prop} (hp : ∀ k, a ≤ k → k < b → p (d k)) : ∀ k, a ≤ k → k < b → p (d' k) := fun k h1 h2 => by
  obtain ⟨i, h3, h4, e⟩ := h.inn h1 h2
  rw [e]; exact hp i h3 h4

def swp (d : Nat → Nat) (i j : Nat) : Nat → Nat := fun k => if k = i then d j else if k = j then d i else d k
/-- what stood from m on to b comes ahead of what stood from a on to m -/
def rot (a m b : Nat) (d : Nat → Nat) : Nat → Nat := fun k => if k < a then d k else if k < a + (b - m) then d (k - a + m) else if k < b then d (k - (b - m)) else d k
theorem rot_perm {a m b : Nat} (d : Nat → Nat) (h1 : a ≤ m) (h2 : m ≤ b) : PermOn a b d (rot a m b d) := by
  refine ⟨rot a m b id, rot a (a + (b - m)) b id, fun k => ?_, fun k => ?_, fun k hk => ?_, fun k => ?_⟩
  · unfold rot; simp only [id]; repeat' split
    all_goals omega
  · unfold rot; simp only [id]; repeat' split
    all_goals omega
  · unfold rot; simp only [id]; repeat' split
    all_goals omega
  · unfold rot; simp only [id]; repeat' split
    all_goals first | rfl | omega
theorem rot_left (a b : Nat) (d : Nat → Nat) : rot a a b d = d := by
  funext k; unfold rot; repeat' split
  all_goals first | rfl | (congr 1; omega)
theorem rot_right (a b : Nat) (d : Nat → Nat) : rot a b b d = d := by
  funext k; unfold rot; repeat' split
  all_goals first | rfl | (exfalso; omega) | (congr 1; omega)
/-- one step down of what stood at i -/
theorem rot_down {i j : Nat} (d : Nat → Nat) (h1 : 0 < j) (h2 : j ≤ i) : swp (rot j i (i + 1) d) j (j - 1) = rot (j - 1) i (i + 1) d := by
  funext k; unfold swp rot; repeat' split
  all_goals first | rfl | (exfalso; omega) | (congr 1; omega)
/-- one step up of what stood at a -/
theorem rot_up {a k : Nat} (d : Nat → Nat) (h1 : a ≤ k) : swp (rot a (a + 1) (k + 1) d) k (k + 1) = rot a (a + 1) (k + 2) d := by
  funext i; unfold swp rot; repeat' split
  all_goals first | rfl | (exfalso; omega) | (congr 1; omega)

/-- two stretches of n change places -/
def swr (d : Nat → Nat) (a b n : Nat) : Nat → Nat := fun k => if k < a then d k else if k < a + n then d (k - a + b) else if k < b then d k else if k < b + n then d (k - b + a) else d k
theorem swr_zero (d : Nat → Nat) (a b : Nat) : swr d a b 0 = d := by
  funext k; unfold swr; repeat' split
  all_goals first | rfl | (exfalso; omega) | (congr 1; omega)
theorem swr_next {d : Nat → Nat} {a b n : Nat} (h : a + n < b) : swp (swr d a b n) (a + n) (b + n) = swr d a b (n + 1) := by
  funext k; unfold swp swr; repeat' split
  all_goals first | rfl | (exfalso; omega) | (congr 1; omega)
theorem rot_more {m i j : Nat} (d : Nat → Nat) (hi : i ≤ m) (h : j < i) : rot (m - i + j) m (m + j) (swr d (m - i) m j) = rot (m - i) m (m + j) d := by
  funext k; unfold rot swr; repeat' split
  all_goals first | rfl | (exfalso; omega) | (congr 1; omega)
theorem rot_less {m i j : Nat} (d : Nat → Nat) (hi : i ≤ m) (h : i < j) : rot (m - i) m (m + (j - i)) (swr d (m - i) (m + j - i) i) = rot (m - i) m (m + j) d := by
  funext k; unfold rot swr; repeat' split
  all_goals first | rfl | (exfalso; omega) | (congr 1; omega)
theorem rot_same {m i : Nat} (d : Nat → Nat) (hi : i ≤ m) : swr d (m - i) m i = rot (m - i) m (m + i) d := by
  funext k; unfold rot swr; repeat' split
  all_goals first | rfl | (exfalso; omega) | (congr 1; omega)

/-- the first one is put in its place -/
theorem merge_lo {K : Nat → Int} {d : Nat → Nat} {a b i : Nat} (hS : Srt K (a + 1) b d) (h1 : a + 1 ≤ i) (h2 : i ≤ b) (hl : ∀ k, a + 1 ≤ k → k < i → ltK K (d k) (d a)) (hr : ∀ k, i ≤ k → k < b → ltK K (d a) (d k)) : Srt K a b (rot a (a + 1) i d) := by
  intro x y hx hxy hy
  have e : ∀ k, a ≤ k → rot a (a + 1) i d k = if k + 1 < i then d (k + 1) else if k + 1 = i then d a else d k := fun k hk => by
    unfold rot; repeat' split
    all_goals first | rfl | (exfalso; omega) | (congr 1; omega)
  rw [e x hx, e y (by omega)]
  by_cases cx : x + 1 < i
  · rw [if_pos cx]
    by_cases cy : y + 1 < i
    · rw [if_pos cy]; exact hS _ _ (by omega) (by omega) (by omega)
    · rw [if_neg cy]
      by_cases cz : y + 1 = i
      · rw [if_pos cz]; exact hl _ (by omega) cx
      · rw [if_neg cz]; exact hS _ _ (by omega) (by omega) (by omega)
  · rw [if_neg cx, if_neg (show ¬ y + 1 < i by omega), if_neg (show ¬ y + 1 = i by omega)]
    by_cases cz : x + 1 = i
    · rw [if_pos cz]; exact hr _ (by omega) (by omega)
    · rw [if_neg cz]; exact hS _ _ (by omega) (by omega) (by omega)
/-- the last one is put in its place -/
theorem merge_hi {K : Nat → Int} {d : Nat → Nat} {a m i : Nat} (hS : Srt K a m d) (h1 : a ≤ i) (h2 : i ≤ m) (hl : ∀ k, a ≤ k → k < i → ltK K (d k) (d m)) (hr : ∀ k, i ≤ k → k < m → ltK K (d m) (d k)) : Srt K a (m + 1) (rot i m (m + 1) d) := by
  intro x y hx hxy hy
  have e : ∀ k, k ≤ m → rot i m (m + 1) d k = if k < i then d k else if k = i then d m else d (k - 1) := fun k hk => by
    unfold rot; repeat' split
    all_goals first | rfl | (exfalso; omega) | (congr 1; omega)
  rw [e x (by omega), e y (by omega)]
  by_cases cx : x < i
  · rw [if_pos cx]
    by_cases cy : y < i
    · rw [if_pos cy]; exact hS _ _ (by omega) (by omega) (by omega)
    · rw [if_neg cy]
      by_cases cz : y = i
      · rw [if_pos cz]; exact hl _ (by omega) cx
      · rw [if_neg cz]; exact hS _ _ (by omega) (by omega) (by omega)
  · rw [if_neg cx, if_neg (show ¬ y < i by omega), if_neg (show ¬ y = i by omega)]
    by_cases cz : x = i
    · rw [if_pos cz]; exact hr _ (by omega) (by omega)
    · rw [if_neg cz]; exact hS _ _ (by omega) (by omega) (by omega)

/-- all numbers from a on to m are below those from m on to b -/
def Low (a m b : Nat) (d : Nat → Nat) : Prop := ∀ x y, a ≤ x → x < m → m ≤ y → y < b → d x < d y
/-- behind the middle turn: both halves are to be merged, and each of the first is ahead of each of the second -/
structure Halves (K : Nat → Int) (a s mid e b : Nat) (d : Nat → Nat) : Prop where
  s1 : Srt K a s d
  s2 : Srt K s mid d
  s3 : Srt K mid e d
  s4 : Srt K e b d
  l1 : Low a s mid d
  l2 : Low mid e b d
  lt : ∀ x y, a ≤ x → x < mid → mid ≤ y → y < b → ltK K (d x) (d y)
theorem halves {K : Nat → Int} {d : Nat → Nat} {a m b s mid e : Nat} (hA : Srt K a m d) (hB : Srt K m b d) (hL : Low a m b d) (h1 : a ≤ s) (h2 : s ≤ m) (h3 : m ≤ e) (h4 : e ≤ b) (he : e + s = mid + m)
    (hp : s = a ∨ e = b ∨ ltK K (d (s - 1)) (d e)) (hq : s = m ∨ e = m ∨ ltK K (d (e - 1)) (d s)) : Halves K a s mid e b (rot s m e d) := by
  have ev : ∀ k, rot s m e d k = if k < s then d k else if k < mid then d (k - s + m) else if k < e then d (k - (e - m)) else d k := fun k => by
    unfold rot; repeat' split
    all_goals first | rfl | (exfalso; omega) | (congr 1; omega)
  have e1 : ∀ k, k < s → rot s m e d k = d k := fun k hk => by rw [ev, if_pos hk]
  have e2 : ∀ k, s ≤ k → k < mid → rot s m e d k = d (k - s + m) := fun k hk h => by rw [ev, if_neg (by omega), if_pos h]
  have e3 : ∀ k, mid ≤ k → k < e → rot s m e d k = d (k - (e - m)) := fun k hk h => by rw [ev, if_neg (by omega), if_neg (by omega), if_pos h]
  have e4 : ∀ k, e ≤ k → rot s m e d k = d k := fun k hk => by rw [ev, if_neg (by omega), if_neg (by omega), if_neg (by omega)]
  clear ev
  have lP : ∀ x y, a ≤ x → x < s → e ≤ y → y < b → ltK K (d x) (d y) := fun x y hx hx' hy hy' => by
    rcases hp with h | h | h
    · omega
    · omega
    · have g1 : x = s - 1 ∨ ltK K (d x) (d (s - 1)) := by
        by_cases c : x = s - 1
        · exact .inl c
        · exact .inr (hA _ _ hx (by omega) (by omega))
      have g2 : y = e ∨ ltK K (d e) (d y) := by
        by_cases c : y = e
        · exact .inl c
        · exact .inr (hB _ _ (by omega) (by omega) hy')
      rcases g1 with rfl | g1 <;> rcases g2 with rfl | g2
      · exact h
      · exact ltK_trans h g2
      · exact ltK_trans g1 h
      · exact ltK_trans g1 (ltK_trans h g2)
  have lQ : ∀ x y, m ≤ x → x < e → s ≤ y → y < m → ltK K (d x) (d y) := fun x y hx hx' hy hy' => by
    rcases hq with h | h | h
    · omega
    · omega
    · have g1 : x = e - 1 ∨ ltK K (d x) (d (e - 1)) := by
        by_cases c : x = e - 1
        · exact .inl c
        · exact .inr (hB _ _ (by omega) (by omega) (by omega))
      have g2 : y = s ∨ ltK K (d s) (d y) := by
        by_cases c : y = s
        · exact .inl c
        · exact .inr (hA _ _ (by omega) (by omega) hy')
      rcases g1 with rfl | g1 <;> rcases g2 with rfl | g2
      · exact h
      · exact ltK_trans h g2
      · exact ltK_trans g1 h
      · exact ltK_trans g1 (ltK_trans h g2)
  refine ⟨?_, ?_, ?_, ?_, ?_, ?_, ?_⟩
  · intro x y hx hxy hy; rw [e1 x (by omega), e1 y hy]; exact hA x y hx hxy (by omega)
  · intro x y hx hxy hy; rw [e2 x hx (by omega), e2 y (by omega) hy]; exact hB _ _ (by omega) (by omega) (by omega)
  · intro x y hx hxy hy; rw [e3 x hx (by omega), e3 y (by omega) hy]; exact hA _ _ (by omega) (by omega) (by omega)
  · intro x y hx hxy hy; rw [e4 x hx, e4 y (by omega)]; exact hB _ _ (by omega) (by omega) (by omega)
  · intro x y hx hx' hy hy'; rw [e1 x hx', e2 y hy hy']; exact hL _ _ (by omega) (by omega) (by omega) (by omega)
  · intro x y hx hx' hy hy'; rw [e3 x hx hx', e4 y hy]; exact hL _ _ (by omega) (by omega) (by omega) (by omega)
  · intro x y hx hx' hy hy'
    by_cases cx : x < s
    · rw [e1 x cx]
      by_cases cy : y < e
      · rw [e3 y hy cy]; exact hA _ _ hx (by omega) (by omega)
      · rw [e4 y (by omega)]; exact lP _ _ hx cx (by omega) hy'
    · rw [e2 x (by omega) hx']
      by_cases cy : y < e
      · rw [e3 y hy cy]; exact lQ _ _ (by omega) (by omega) (by omega) (by omega)
      · rw [e4 y (by omega)]; exact hB _ _ (by omega) (by omega) hy'
/-- both halves merged are the whole merged -/
theorem joined {K : Nat → Int} {d d2 d3 : Nat → Nat} {a mid b : Nat} (hl : ∀ x y, a ≤ x → x < mid → mid ≤ y → y < b → ltK K (d x) (d y)) (p1 : PermOn a mid d d2) (s1 : Srt K a mid d2) (p2 : PermOn mid b d2 d3) (s2 : Srt K mid b d3) : Srt K a b d3 := by
  intro x y hx hxy hy
  by_cases cy : y < mid
  · rw [p2.out (by omega), p2.out (by omega)]; exact s1 x y hx hxy cy
  · by_cases cx : x < mid
    · obtain ⟨i, i1, i2, e1⟩ := p1.inn hx cx
      obtain ⟨j, j1, j2, e2⟩ := p2.inn (show mid ≤ y by omega) hy
      rw [p2.out (by omega), e1, e2, p1.out (by omega)]
      exact hl i j i1 i2 j1 j2
    · exact s2 x y (by omega) hxy hy
theorem Low.perm {a m b : Nat} {d d' : Nat → Nat} (h : Low a m b d) (p1 : PermOn a m d d') : Low a m b d' := fun x y hx hx' hy hy' => by
  obtain ⟨i, i1, i2, e⟩ := p1.inn hx hx'
  rw [e, p1.out (by omega)]
  exact h i y i1 i2 hy hy'

/-- sorted by stretches of c: those below a by stretches of 2c already -/
structure Halfway (K : Nat → Int) (c n t : Nat) (d : Nat → Nat) : Prop where
  done : ∀ r, r < t → Srt K (r * (2 * c)) (r * (2 * c) + 2 * c) d
  left : ∀ r, 2 * t ≤ r → Srt K (r * c) (min (r * c + c) n) d
  fits : ∀ r k, 2 * t ≤ r → r * c ≤ k → k < r * c + c → k < n → r * c ≤ d k ∧ d k < r * c + c
  all : PermOn 0 n id d
  pairs : ∀ r k, r * (2 * c) ≤ k → k < r * (2 * c) + 2 * c → k < n → r * (2 * c) ≤ d k ∧ d k < r * (2 * c) + 2 * c
structure Blocks (K : Nat → Int) (c n : Nat) (d : Nat → Nat) : Prop where
  srt : ∀ r, Srt K (r * c) (min (r * c + c) n) d
  fits : ∀ r k, r * c ≤ k → k < r * c + c → k < n → r * c ≤ d k ∧ d k < r * c + c
  all : PermOn 0 n id d
theorem Blocks.half {K : Nat → Int} {c n : Nat} {d : Nat → Nat} (h : Blocks K c n d) : Halfway K c n 0 d where
  done := fun r hr => by omega
  left := fun r _ => h.srt r
  fits := fun r k _ => h.fits r k
  all := h.all
  pairs := fun r k h1 h2 h3 => by
    have e : r * (2 * c) = (2 * r) * c := by rw [Nat.mul_comm 2 r, Nat.mul_assoc]
    have e' : (2 * r + 1) * c = (2 * r) * c + c := by rw [Nat.add_mul, Nat.one_mul]
    rw [e] at h1 h2 ⊢
    by_cases cc : k < (2 * r) * c + c
    · have := h.fits (2 * r) k h1 cc h3; omega
    · have := h.fits (2 * r + 1) k (by omega) (by omega) h3; omega
theorem two_mul' (t c : Nat) : t * (2 * c) = (2 * t) * c ∧ (2 * t + 1) * c = (2 * t) * c + c ∧ (2 * (t + 1)) * c = (2 * t) * c + 2 * c ∧ (t + 1) * (2 * c) = (2 * t) * c + 2 * c := by
  have e : t * (2 * c) = (2 * t) * c := by rw [Nat.mul_comm 2 t, Nat.mul_assoc]
  have e1 : (2 * t + 1) * c = (2 * t) * c + c := by rw [Nat.add_mul, Nat.one_mul]
  have e2 : (t + 1) * (2 * c) = t * (2 * c) + 2 * c := by rw [Nat.add_mul, Nat.one_mul]
  have e3 : (t + 1) * (2 * c) = (2 * (t + 1)) * c := by rw [Nat.mul_comm 2 (t + 1), Nat.mul_assoc]
  omega
theorem later_mul {c r s : Nat} (h : s ≤ r) : s * c ≤ r * c := Nat.mul_le_mul_right c h
/-- what the next merge may ask -/
theorem Halfway.ask {K : Nat → Int} {c n t : Nat} {d : Nat → Nat} (h : Halfway K c n t d) (b : Nat) (hb : b ≤ n) (h1 : t * (2 * c) + c < b) (h2 : b ≤ t * (2 * c) + 2 * c) (hn : b = t * (2 * c) + 2 * c ∨ b = n) :
    Srt K (t * (2 * c)) (t * (2 * c) + c) d ∧ Srt K (t * (2 * c) + c) b d ∧ Low (t * (2 * c)) (t * (2 * c) + c) b d := by
  obtain ⟨e1, e2, e3, e4⟩ := two_mul' t c
  rw [e1] at h1 h2 hn ⊢
  refine ⟨(h.left (2 * t) (by omega)).sub (Nat.le_refl _) (by omega), ?_, ?_⟩
  · have := h.left (2 * t + 1) (by omega)
    rw [e2] at this
    exact this.sub (Nat.le_refl _) (by omega)
  · intro x y hx hx' hy hy'
    have g1 := h.fits (2 * t) x (by omega) hx hx' (by omega)
    have g2 := h.fits (2 * t + 1) y (by omega) (by omega) (by omega) (by omega)
    omega
theorem Halfway.next {K : Nat → Int} {c n t : Nat} {d d' : Nat → Nat} (h : Halfway K c n t d) (hb : t * (2 * c) + 2 * c ≤ n) (p : PermOn (t * (2 * c)) (t * (2 * c) + 2 * c) d d') (s : Srt K (t * (2 * c)) (t * (2 * c) + 2 * c) d') : Halfway K c n (t + 1) d' := by
  obtain ⟨e1, e2, e3, e4⟩ := two_mul' t c
  refine ⟨fun r hr => ?_, fun r hr => ?_, fun r k hr h1 h2 h3 => ?_, h.all.trans (p.mono (by omega) hb), fun r k h1 h2 h3 => ?_⟩
  · by_cases cr : r = t
    · subst cr; exact s
    · have l1 := later_mul (c := 2 * c) (show r + 1 ≤ t by omega)
      rw [Nat.add_mul, Nat.one_mul] at l1
      exact (h.done r (by omega)).congr (fun k _ hk => p.out (by omega))
  · have l1 := later_mul (c := c) hr
    exact (h.left r (by omega)).congr (fun k hk _ => p.out (by omega))
  · have l1 := later_mul (c := c) hr
    rw [p.out (by omega)]
    exact h.fits r k (by omega) h1 h2 h3
  · by_cases cr : r = t
    · subst cr
      obtain ⟨i, i1, i2, e⟩ := p.inn h1 h2
      rw [e]; exact h.pairs r i i1 i2 (by omega)
    · have l1 : r + 1 ≤ t ∨ t + 1 ≤ r := by omega
      have l2 : k < t * (2 * c) ∨ t * (2 * c) + 2 * c ≤ k := by
        rcases l1 with l1 | l1
        · have := later_mul (c := 2 * c) l1; rw [Nat.add_mul, Nat.one_mul] at this; omega
        · have := later_mul (c := 2 * c) l1; rw [Nat.add_mul, Nat.one_mul] at this; omega
      rw [p.out (by omega)]
      exact h.pairs r k h1 h2 h3
/-- the last stretch: merged, or alone -/
theorem Halfway.close {K : Nat → Int} {c n t : Nat} {d d' : Nat → Nat} (h : Halfway K c n t d) (hb : n < t * (2 * c) + 2 * c) (hp : (n ≤ t * (2 * c) + c ∧ d' = d) ∨ (PermOn (t * (2 * c)) n d d' ∧ Srt K (t * (2 * c)) n d')) : Blocks K (2 * c) n d' := by
  obtain ⟨e1, e2, e3, e4⟩ := two_mul' t c
  have p : PermOn (t * (2 * c)) n d d' := by
    rcases hp with ⟨_, rfl⟩ | ⟨hp, _⟩
    · exact .refl _ _ _
    · exact hp
  have s : Srt K (t * (2 * c)) n d' := by
    rcases hp with ⟨hn, rfl⟩ | ⟨_, hs⟩
    · have := h.left (2 * t) (by omega)
      rw [e1] at hn hb ⊢
      exact this.sub (Nat.le_refl _) (by omega)
    · exact hs
  refine ⟨fun r => ?_, fun r k h1 h2 h3 => ?_, h.all.trans (p.mono (by omega) (Nat.le_refl _))⟩
  · by_cases cr : r < t
    · have l1 := later_mul (c := 2 * c) (show r + 1 ≤ t by omega)
      rw [Nat.add_mul, Nat.one_mul] at l1
      exact ((h.done r cr).congr (fun k _ hk => p.out (by omega))).sub (Nat.le_refl _) (by omega)
    · have l1 := later_mul (c := 2 * c) (show t ≤ r by omega)
      exact s.sub l1 (by omega)
  · by_cases cr : k < t * (2 * c)
    · rw [p.out (by omega)]
      exact h.pairs r k h1 h2 h3
    · obtain ⟨i, i1, i2, e⟩ := p.inn (show t * (2 * c) ≤ k by omega) h3
      rw [e]
      have l0 : r = t := by
        apply Classical.byContradiction
        intro hne
        rcases (show r + 1 ≤ t ∨ t + 1 ≤ r by omega) with l1 | l1
        · have := later_mul (c := 2 * c) l1; rw [Nat.add_mul, Nat.one_mul] at this; omega
        · have := later_mul (c := 2 * c) l1; rw [Nat.add_mul, Nat.one_mul] at this; omega
      subst l0
      exact h.pairs r i i1 (by omega) i2
theorem Blocks.end {K : Nat → Int} {c n : Nat} {d : Nat → Nat} (h : Blocks K c n d) (hn : n ≤ c) : PermOn 0 n id d ∧ Srt K 0 n d :=
  ⟨h.all, by have := h.srt 0; rw [Nat.zero_mul, Nat.zero_add, Nat.min_eq_right hn] at this; exact this⟩

/-- the first a places sorted by stretches of c, the others as they were -/
structure Begun (K : Nat → Int) (c n t : Nat) (d : Nat → Nat) : Prop where
  done : ∀ r, r < t → Srt K (r * c) (r * c + c) d
  fits : ∀ r k, r < t → r * c ≤ k → k < r * c + c → r * c ≤ d k ∧ d k < r * c + c
  left : ∀ k, t * c ≤ k → d k = k
  all : PermOn 0 n id d
theorem begun {K : Nat → Int} (c n : Nat) : Begun K c n 0 id := ⟨fun r h => by omega, fun r k h => by omega, fun _ _ => rfl, .refl _ _ _⟩
theorem Begun.next {K : Nat → Int} {c n t : Nat} {d d' : Nat → Nat} (h : Begun K c n t d) (hb : t * c + c ≤ n) (p : PermOn (t * c) (t * c + c) d d') (s : Srt K (t * c) (t * c + c) d') : Begun K c n (t + 1) d' := by
  refine ⟨fun r hr => ?_, fun r k hr h1 h2 => ?_, fun k hk => ?_, h.all.trans (p.mono (by omega) hb)⟩
  · by_cases cr : r = t
    · subst cr; exact s
    · have l1 := later_mul (c := c) (show r + 1 ≤ t by omega)
      rw [Nat.add_mul, Nat.one_mul] at l1
      exact (h.done r (by omega)).congr (fun k _ hk => p.out (by omega))
  · by_cases cr : r = t
    · subst cr
      obtain ⟨i, i1, i2, e⟩ := p.inn h1 h2
      rw [e, h.left i i1]; exact ⟨i1, i2⟩
    · have l1 := later_mul (c := c) (show r + 1 ≤ t by omega)
      rw [Nat.add_mul, Nat.one_mul] at l1
      rw [p.out (by omega)]
      exact h.fits r k (by omega) h1 h2
  · rw [Nat.add_mul, Nat.one_mul] at hk
    rw [p.out (by omega)]; exact h.left k (by omega)
theorem Begun.close {K : Nat → Int} {c n t : Nat} {d d' : Nat → Nat} (h : Begun K c n t d) (hb : n < t * c + c) (hc : t * c ≤ n) (p : PermOn (t * c) n d d') (s : Srt K (t * c) n d') : Blocks K c n d' := by
  refine ⟨fun r => ?_, fun r k h1 h2 h3 => ?_, h.all.trans (p.mono (by omega) (Nat.le_refl _))⟩
  · by_cases cr : r < t
    · have l1 := later_mul (c := c) (show r + 1 ≤ t by omega)
      rw [Nat.add_mul, Nat.one_mul] at l1
      exact ((h.done r cr).congr (fun k _ hk => p.out (by omega))).sub (Nat.le_refl _) (by omega)
    · exact s.sub (later_mul (by omega)) (by omega)
  · by_cases cr : k < t * c
    · rw [p.out (by omega)]
      have l0 : r < t := by
        apply Classical.byContradiction
        intro hne
        have := later_mul (c := c) (show t ≤ r by omega)
        omega
      exact h.fits r k l0 h1 h2
    · obtain ⟨i, i1, i2, e⟩ := p.inn (show t * c ≤ k by omega) h3
      rw [e, h.left i i1]
      have l0 : r = t := by
        apply Classical.byContradiction
        intro hne
        rcases (show r + 1 ≤ t ∨ t + 1 ≤ r by omega) with l1 | l1
        · have := later_mul (c := c) l1; rw [Nat.add_mul, Nat.one_mul] at this; omega
        · have := later_mul (c := c) l1; rw [Nat.add_mul, Nat.one_mul] at this; omega
      subst l0
      omega
end Go.Proofs.Yticdcdahehodkaa
/-! slices' swapRangeCmpFunc and rotateCmpFunc at ints: what they make of a row in a block of its own. Condition: the places lie within the row. -/
namespace Go.Proofs.Yticdcdahehodkaa
set_option linter.unusedVariables false
set_option linter.unusedSimpArgs false
open Go.RowKit


/-- in w0's block blk stand, in place of the row, the numbers d 0 .. d (n-1); all else of w0 is as it was -/
structure RowI (w0 w : World) (blk n : Nat) (d : Nat → Nat) : Prop where
  fr : w0.grownBy w (some blk)
  row : ∃ A, w.heap[blk]? = some (.cells A 3 (0, 0)) ∧ n ≤ A.size ∧ ∀ k, k < n → A[k]? = some (.int .i64 (d k))
  lt : ∀ k, k < n → d k < n
  sz : n < 1000000000000
theorem RowI.cell {w0 w : World} {blk n : Nat} {d : Nat → Nat} (h : RowI w0 w blk n d) : ∀ k, k < n → w.cell? ⟨blk, k, none⟩ = some (.int .i64 (d k)) ∧ w.frozen? ⟨blk, k, none⟩ = false := fun k hk => by
  obtain ⟨A, h1, h2, h3⟩ := h.row
  obtain ⟨c, f, _⟩ := cells_of h1
  rw [c, f, h3 k hk]; exact ⟨rfl, rfl⟩
theorem RowI.drew {w0 w : World} {blk n : Nat} {d : Nat → Nat} (h : RowI w0 w blk n d) : RowI w0 w.drew blk n d := ⟨⟨h.fr.os, h.fr.tape, h.fr.output, h.fr.size, h.fr.block⟩, h.row, h.lt, h.sz⟩
theorem RowI.below {w0 w w' : World} {blk n : Nat} {d : Nat → Nat} (h : RowI w0 w blk n d) (hb : Below w.heap.size w w') : RowI w0 w' blk n d := by
  obtain ⟨A, h1, h2, h3⟩ := h.row
  exact ⟨h.fr.trans ⟨hb.os, hb.tape, hb.output, hb.size, fun k hk _ => hb.block k hk⟩, ⟨A, Yticdcdahehodkaa.kept hb h1, h2, h3⟩, h.lt, h.sz⟩
theorem RowI.swap {w0 w w' : World} {blk n p q : Nat} {d : Nat → Nat} (h : RowI w0 w blk n d) (hp : p < n) (hq : q < n)
    (hw : w' = (w.setCell ⟨blk, p, none⟩ (.int .i64 (d q))).setCell ⟨blk, q, none⟩ (.int .i64 (d p))) : RowI w0 w' blk n (swp d p q) := by
  subst hw
  obtain ⟨A, h1, h2, h3⟩ := h.row
  refine ⟨h.fr.trans ((set_grown _ _ _ _).trans (set_grown _ _ _ _)), ⟨_, heap_set (heap_set h1), by simpa using h2, fun k hk => ?_⟩, fun k hk => ?_, h.sz⟩
  · unfold swp
    by_cases e : k = q
    · subst e
      rw [Array.getElem?_setIfInBounds_self_of_lt (by simp; omega)]
      by_cases e2 : k = p
      · subst e2; rw [if_pos rfl]
      · rw [if_neg e2, if_pos rfl]
    · rw [Array.getElem?_setIfInBounds_ne (by omega), if_neg e]
      by_cases e2 : k = p
      · subst e2; rw [if_pos rfl, Array.getElem?_setIfInBounds_self_of_lt (by omega)]
      · rw [if_neg e2, Array.getElem?_setIfInBounds_ne (by omega)]; exact h3 k hk
  · unfold swp
    split
    · exact h.lt q hq
    · split
      · exact h.lt p hp
      · exact h.lt k hk
theorem RowI.congr {w0 w : World} {blk n : Nat} {d d' : Nat → Nat} (h : RowI w0 w blk n d) (e : d = d') : RowI w0 w blk n d' := e ▸ h
/-- the cells that an exchange reads and writes -/
theorem RowI.two {w0 w : World} {blk n p q : Nat} {d : Nat → Nat} (h : RowI w0 w blk n d) (hp : p < n) (hq : q < n) (v : Value) :
    (w.cell? ⟨blk, p, none⟩ = some (.int .i64 (d p)) ∧ w.cell? ⟨blk, q, none⟩ = some (.int .i64 (d q))) ∧ (w.frozen? ⟨blk, p, none⟩ = false ∧ w.frozen? ⟨blk, q, none⟩ = false) ∧
    ∃ u, (w.setCell ⟨blk, p, none⟩ v).cell? ⟨blk, q, none⟩ = some u := by
  obtain ⟨A, h1, h2, h3⟩ := h.row
  obtain ⟨c, f, _⟩ := cells_of h1
  obtain ⟨c2, _, _⟩ := cells_of (heap_set (i := p) (v := v) h1)
  refine ⟨⟨(h.cell p hp).1, (h.cell q hq).1⟩, ⟨f _, f _⟩, ?_⟩
  have : q < (A.setIfInBounds p v).size := by simp; omega
  exact ⟨_, (c2 q).trans (Array.getElem?_eq_getElem this)⟩
theorem wrapN {n : Nat} {z : Int} (hz : z = (n : Int)) (h : n < 2000000000000) : IntKind.i64.wrap z = (n : Int) := by rw [IntKind.wrap_i64]; omega

set_option maxHeartbeats 2000000 in
/-- two stretches of k numbers, from a on and from b on, change places -/
theorem swapr_any (blk n cap a b k : Nat) (d : Nat → Nat) (fv : Value) (w0 w : World) (hR : RowI w0 w blk n d) (hab : a + k ≤ b) (hb : b + k ≤ n) :
    Calls Try.prog 54 #[.slice (some ⟨blk, 0, none⟩) n cap, .int .i64 a, .int .i64 b, .int .i64 k, fv] w fun e w' => e = .returned (.tuple #[]) ∧ RowI w0 w' blk n (swr d a b k) := by
  have hsz := hR.sz
  have H0 := Lib.hid hR
  clear hR
  go_enter Try.func54, Try.ntmps54
  go_wp2
  go_loopg [10] k (fun gh vi wr => ∃ i : Nat, i ≤ k ∧ gh = k - i ∧ vi = .int .i64 i ∧ RowI w0 wr blk n (swr d a b i))
  case atStart => exact ⟨0, by omega, by omega, rfl, by rw [swr_zero]; exact H0.out⟩
  case round =>
    obtain ⟨i, hi, rfl, rfl, hRi⟩ := hrel
    by_cases hlt : i < k
    · obtain ⟨p, hp⟩ : ∃ p, p = a + i := ⟨_, rfl⟩
      obtain ⟨q, hq⟩ : ∃ q, q = b + i := ⟨_, rfl⟩
      have wp1 := wrapN (z := (a : Int) + (i : Int)) (n := p) (by omega) (by omega)
      have wq1 := wrapN (z := (b : Int) + (i : Int)) (n := q) (by omega) (by omega)
      have wi1 := wrapN (z := (i : Int) + 1) (n := i + 1) (by omega) (by omega)
      have hpn : (p : Int) < (n : Int) := by omega
      have hqn : (q : Int) < (n : Int) := by omega
      have hik : (i : Int) < (k : Int) := by omega
      obtain ⟨⟨c1, c2⟩, ⟨f1, f2⟩, u, c3⟩ := hRi.two (p := p) (q := q) (by omega) (by omega) (.int .i64 (swr d a b i q))
      have HR := Lib.hid hRi
      clear hRi
      have HS := Lib.hid (show swp (swr d a b i) p q = swr d a b (i + 1) by rw [hp, hq]; exact swr_next (by omega))
      have HPQ := Lib.hid (show p < n ∧ q < n by omega)
      clear hp hq
      generalize hd' : swr d a b i = d' at *
      clear hd'
      go_wp2
      go_region
      go_wp2
      go_roundg (k - (i + 1))
      case measure => omega
      case rel => exact ⟨i + 1, by omega, rfl, by go_num, (HR.out.swap HPQ.out.1 HPQ.out.2 rfl).drew.congr HS.out⟩
    · obtain rfl : i = k := by omega
      have HR := Lib.hid hRi
      clear hRi
      go_wp2
      (try simp only [Exit.inBlock, Exit.then]); first | go_end0 | refine bodyPost_ret (results_none rfl _ _ _) rfl ?_
      exact ⟨rfl, HR.out⟩

theorem swapr_at (blk n cap a b k : Nat) (za zb zk : Int) (d : Nat → Nat) (fv : Value) (w0 w : World) (ea : za = a) (eb : zb = b) (ek : zk = k) (hR : RowI w0 w blk n d) (hab : a + k ≤ b) (hb : b + k ≤ n) :
    Calls Try.prog 54 #[.slice (some ⟨blk, 0, none⟩) n cap, .int .i64 za, .int .i64 zb, .int .i64 zk, fv] w fun e w' => e = .returned (.tuple #[]) ∧ RowI w0 w' blk n (swr d a b k) := by
  subst ea; subst eb; subst ek; exact swapr_any blk n cap a b k d fv w0 w hR hab hb

set_option maxHeartbeats 2000000 in
/-- what stands from m on comes ahead of what stands from a on -/
theorem rotate_any (blk n cap a m b : Nat) (d : Nat → Nat) (fv : Value) (w0 w : World) (hR : RowI w0 w blk n d) (h1 : a < m) (h2 : m < b) (hb : b ≤ n) :
    Calls Try.prog 53 #[.slice (some ⟨blk, 0, none⟩) n cap, .int .i64 a, .int .i64 m, .int .i64 b, fv] w fun e w' => e = .returned (.tuple #[]) ∧ RowI w0 w' blk n (rot a m b d) := by
  have hsz := hR.sz
  have C := Lib.hid (fun (x y k : Nat) (dk : Nat → Nat) (wr : World) (zx zy zk : Int) => swapr_at blk n cap x y k zx zy zk dk fv w0 wr)
  have H0 := Lib.hid hR
  clear hR
  have hw0 := wrapN (z := (m : Int) - (a : Int)) (n := m - a) (by omega) (by omega)
  have hw1 := wrapN (z := (b : Int) - (m : Int)) (n := b - m) (by omega) (by omega)
  have HI := Lib.hid (show 0 < m - a ∧ m - a ≤ m ∧ 0 < b - m ∧ m + (b - m) ≤ n ∧ rot (m - (m - a)) m (m + (b - m)) d = rot a m b d from by
    refine ⟨by omega, by omega, by omega, by omega, ?_⟩
    rw [show m - (m - a) = a by omega, show m + (b - m) = b by omega])
  obtain ⟨i0, hi0⟩ : ∃ i0, i0 = m - a := ⟨_, rfl⟩
  obtain ⟨j0, hj0⟩ : ∃ j0, j0 = b - m := ⟨_, rfl⟩
  rw [← hi0] at hw0
  rw [← hj0] at hw1
  rw [← hi0, ← hj0] at HI
  have hmn : m ≤ n := by omega
  clear hi0 hj0 h1 h2 hb
  go_enter Try.func53, Try.ntmps53
  go_wp2
  go_loopg [10, 11] (i0 + j0) (fun gh vi vj wr => ∃ (i j : Nat) (dk : Nat → Nat), gh = i + j ∧ vi = .int .i64 i ∧ vj = .int .i64 j ∧ 0 < i ∧ i ≤ m ∧ 0 < j ∧ m + j ≤ n ∧ rot (m - i) m (m + j) dk = rot a m b d ∧ RowI w0 wr blk n dk)
  case atStart => obtain ⟨q1, q2, q3, q4, q5⟩ := HI.out; exact ⟨i0, j0, d, rfl, rfl, rfl, q1, q2, q3, q4, q5, H0.out⟩
  case round =>
    obtain ⟨i, j, dk, rfl, rfl, rfl, q1, q2, q3, q4, q5, hRk⟩ := hrel
    have HE := Lib.hid q5
    have HR := Lib.hid hRk
    clear q5 hRk HI H0
    rcases Nat.lt_trichotomy i j with h | rfl | h
    · have d1 : decide ((i : Int) = (j : Int)) = false := by rw [decide_eq_false_iff_not]; omega
      have d2 : decide ((j : Int) < (i : Int)) = false := by rw [decide_eq_false_iff_not]; omega
      have w1 := wrapN (z := (m : Int) - (i : Int)) (n := m - i) (by omega) (by omega)
      have w2 := wrapN (z := (m : Int) + (j : Int)) (n := m + j) (by omega) (by omega)
      have w3 := wrapN (z := ((m + j : Nat) : Int) - (i : Int)) (n := m + j - i) (by omega) (by omega)
      have w4 := wrapN (z := (j : Int) - (i : Int)) (n := j - i) (by omega) (by omega)
      have c := C.out (m - i) (m + j - i) i dk
      go_wp2_with (first | (go_at_call 54; (with_reducible refine (c _ _ _ _ (by omega) (by omega) (by omega) HR.out (by omega) (by omega)).mono ?_); rintro e wx ⟨rfl, hx⟩))
      go_roundg (i + (j - i))
      case measure => omega
      case rel => exact ⟨i, j - i, _, rfl, by go_num, by go_num, q1, q2, by omega, by omega, (rot_less dk q2 h).trans HE.out, hx⟩
    · have d1 : decide ((i : Int) = (i : Int)) = true := by rw [decide_eq_true_iff]
      have c := C.out (m - i) m i dk
      go_wp2_with (first | (go_at_call 54; (with_reducible refine (c _ _ _ _ (by omega) (by omega) (by omega) HR.out (by omega) (by omega)).mono ?_); rintro e wx ⟨rfl, hx⟩))
      (try simp only [Exit.inBlock, Exit.then]); first | go_end0 | refine bodyPost_ret (results_none rfl _ _ _) rfl ?_
      exact ⟨rfl, hx.congr ((rot_same dk q2).trans HE.out)⟩
    · have d1 : decide ((i : Int) = (j : Int)) = false := by rw [decide_eq_false_iff_not]; omega
      have d2 : decide ((j : Int) < (i : Int)) = true := by rw [decide_eq_true_iff]; omega
      have w4 := wrapN (z := (i : Int) - (j : Int)) (n := i - j) (by omega) (by omega)
      have c := C.out (m - i) m j dk
      go_wp2_with (first | (go_at_call 54; (with_reducible refine (c _ _ _ _ (by omega) (by omega) (by omega) HR.out (by omega) (by omega)).mono ?_); rintro e wx ⟨rfl, hx⟩))
      go_roundg (i - j + j)
      case measure => omega
      case rel =>
        have e := rot_more dk q2 h
        rw [show m - i + j = m - (i - j) by omega] at e
        exact ⟨i - j, j, _, rfl, by go_num, by go_num, by omega, by omega, q3, q4, e.trans HE.out, hx⟩
end Go.Proofs.Yticdcdahehodkaa
