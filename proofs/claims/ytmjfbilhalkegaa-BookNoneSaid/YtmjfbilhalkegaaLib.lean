/- General laws of these proofs: whole aggregates loaded from and stored into a block, kept behind one name; what a world keeps behind a call. No condition. -/
import Derived.Test.YtmjfbilhalkegaaRows
import Derived.WalkKit
import Derived.WalkSpells
import Derived.WalkLawsBesides
import Derived.Lib.Hide
namespace Go.Proofs.Ytmjfbilhalkegaa
set_option linter.unusedVariables false
set_option linter.unusedSimpArgs false
open Go.RowKit

/-- Cell i as a number. -/
def N (A : Array Value) (i : Nat) : Int := match A[i]? with | some (.int _ n) => n | _ => 0
/-- Cell i as a bool. -/
def Bo (A : Array Value) (i : Nat) : Bool := match A[i]? with | some (.bool b) => b | _ => false
/-- Cell i is a number of that kind, within its bounds. -/
def IsN (A : Array Value) (k : IntKind) (i : Nat) : Prop := A[i]? = some (.int k (N A i)) ∧ k.min ≤ N A i ∧ N A i ≤ k.max
def IsB (A : Array Value) (i : Nat) : Prop := A[i]? = some (.bool (Bo A i))

theorem N_of {A : Array Value} {i : Nat} {k : IntKind} {n : Int} (h : A[i]? = some (.int k n)) : N A i = n := by simp [N, h]
theorem Bo_of {A : Array Value} {i : Nat} {b : Bool} (h : A[i]? = some (.bool b)) : Bo A i = b := by simp [Bo, h]
theorem IsN_of {A : Array Value} {i : Nat} {k : IntKind} {n : Int} (h : A[i]? = some (.int k n)) (h1 : k.min ≤ n ∧ n ≤ k.max) : IsN A k i := by
  unfold IsN; rw [N_of h]; exact ⟨h, h1⟩
theorem IsB_of {A : Array Value} {i : Nat} {b : Bool} (h : A[i]? = some (.bool b)) : IsB A i := by
  unfold IsB; rw [Bo_of h]; exact h

theorem ret_bool {a b : Bool} (h : a = true ↔ b = true) : Ending.returned (.bool a) = .returned (.bool b) := by rw [Bool.eq_iff_iff.2 h]
theorem ret_beq {a b : Bool} (h : a = b) : Ending.returned (.bool a) = .returned (.bool b) := by rw [h]
theorem ret_int {k : IntKind} {a b : Int} (h : a = b) : Ending.returned (.int k a) = .returned (.int k b) := by rw [h]
theorem ret_ii {k k' : IntKind} {a b c d : Int} (h : a = b) (h' : c = d) : Ending.returned (.tuple #[.int k a, .int k' c]) = .returned (.tuple #[.int k b, .int k' d]) := by rw [h, h']

theorem IsN.i64 {A : Array Value} {i : Nat} (h : IsN A .i64 i) : A[i]? = some (.int .i64 (N A i)) ∧ -9223372036854775808 ≤ N A i ∧ N A i ≤ 9223372036854775807 := h
theorem IsN.u32 {A : Array Value} {i : Nat} (h : IsN A .u32 i) : A[i]? = some (.int .u32 (N A i)) ∧ 0 ≤ N A i ∧ N A i ≤ 4294967295 := h
theorem IsN.u8 {A : Array Value} {i : Nat} (h : IsN A .u8 i) : A[i]? = some (.int .u8 (N A i)) ∧ 0 ≤ N A i ∧ N A i ≤ 255 := h

/-- What stood in a block stands there behind a call that leaves old memory alone. -/
theorem kept {W w1 : World} (hb : Below W.heap.size W w1) {g : Nat} {o : Obj} (h : W.heap[g]? = some o) : w1.heap[g]? = some o :=
  (hb.block g (Array.getElem?_eq_some_iff.1 h).1).trans h
theorem cells_of {w : World} {g : Nat} {A : Array Value} {t : TypeId} (h : w.heap[g]? = some (.cells A t (0, 0))) : (∀ j, w.cell? ⟨g, j, none⟩ = A[j]?) ∧ (∀ j, w.frozen? ⟨g, j, none⟩ = false) ∧ g < w.heap.size :=
  ⟨fun j => cell_of_row w g j A t (0, 0) h, fun j => frozen_of_row w g j A t h, (Array.getElem?_eq_some_iff.1 h).1⟩
theorem N_extract {A : Array Value} {a b i : Nat} (h : b ≤ A.size) (hi : a + i < b) : N (A.extract a b) i = N A (a + i) := by
  unfold N; rw [Array.getElem?_extract, if_pos (by omega)]

theorem all_one {S : Array Value} (h : ∀ (i : Nat) (v : Value), S[i]? = some v → v.oneCell' = true) : S.all (·.oneCell') = true := by
  rw [Array.all_eq_true]
  intro i hi
  exact h i S[i] (Array.getElem?_eq_getElem hi)
theorem IsN.one {A : Array Value} {k : IntKind} {i : Nat} {v : Value} (h : IsN A k i) (hv : A[i]? = some v) : v.oneCell' = true := by
  rw [h.1] at hv; injection hv with hv; subst hv; rfl
theorem IsB.one {A : Array Value} {i : Nat} {v : Value} (h : IsB A i) (hv : A[i]? = some v) : v.oneCell' = true := by
  unfold IsB at h; rw [h] at hv; injection hv with hv; subst hv; rfl

theorem below_then {w W w1 : World} (h : Below w.heap.size w W) (hb : Below W.heap.size W w1) : Below w.heap.size w w1 := h.trans (hb.mono h.size)
theorem below_new (w : World) (o : Obj) : Below w.heap.size w (w.alloc o) := (Below.refl _ _).alloc (Nat.le_refl _) _
theorem below_alloc {w W : World} (h : Below w.heap.size w W) (o : Obj) : Below w.heap.size w (W.alloc o) := h.alloc h.size o

theorem bcell {W w1 : World} (hb : Below W.heap.size W w1) : (∀ b o, b < W.heap.size → w1.cell? ⟨b, o, none⟩ = W.cell? ⟨b, o, none⟩) ∧ (∀ b o, b < W.heap.size → w1.frozen? ⟨b, o, none⟩ = W.frozen? ⟨b, o, none⟩) :=
  ⟨fun b o h => hb.cell (p := ⟨b, o, none⟩) h, fun b o h => hb.frozen (p := ⟨b, o, none⟩) h⟩

section
variable {P : Program}

/-- Guards: the operation is a load, a store, of that type. -/
theorem at_load (T : TypeId) {ops : Array Oper} {Q : Exit → Act → World → Prop} {rest : List Oper} {a : Act} {w : World} {d : Option Tmp} {x : Operand} {ty : TypeId} {pos : String} {af : Array Edge} {gd : Option (Nat × Bool)}
    (h : wpList P ops Q (⟨d, .load T x, ty, pos, af, gd⟩ :: rest) a w) : wpList P ops Q (⟨d, .load T x, ty, pos, af, gd⟩ :: rest) a w := h
theorem at_store (T : TypeId) {ops : Array Oper} {Q : Exit → Act → World → Prop} {rest : List Oper} {a : Act} {w : World} {d : Option Tmp} {x y : Operand} {ty : TypeId} {pos : String} {af : Array Edge} {gd : Option (Nat × Bool)}
    (h : wpList P ops Q (⟨d, .store T x y, ty, pos, af, gd⟩ :: rest) a w) : wpList P ops Q (⟨d, .store T x y, ty, pos, af, gd⟩ :: rest) a w := h

/-- A whole aggregate is loaded out of a block, at a place. -/
theorem run_loadVar_part (w : World) (g off : Nat) (t ty : TypeId) (cs : Array Value) (fr : Nat × Nat) (d : TypeDesc) (n : Nat) (hg : w.heap[g]? = some (.cells cs t fr))
    (hu : P.underlying ty = some d) (hd : (match d with | .struct _ | .array _ _ => true | _ => false) = true) (hi : (P.info? ty).map (·.size) = some n) (hn : off + n ≤ cs.size) :
    (loadVar ty ⟨g, off, none⟩).run P w = .ok (.agg (cs.extract off (off + n))) w := by
  have hlen : (cs.extract off (off + n)).toList.length = n := by simp; omega
  have hl : (loadCells ⟨g, off, none⟩ (cs.extract off (off + n)).toList.length).run P w = .ok (cs.extract off (off + n)).toList.toArray w :=
    run_loadCells_list (P := P) w ⟨g, off, none⟩ (cs.extract off (off + n)).toList (fun j v hv => by
      have hadd : (⟨g, off, none⟩ : Addr).add j = ⟨g, off + j, none⟩ := by unfold Addr.add; split <;> simp_all
      rw [hadd, cell_of_row w g _ cs t fr hg]
      have hv' : (cs.extract off (off + n))[j]? = some v := by rw [← Array.getElem?_toList]; exact hv
      rw [Array.getElem?_extract] at hv'
      split at hv' <;> simp_all)
  rw [hlen] at hl
  cases hq : P.info? ty with
  | none => simp [hq] at hi
  | some i =>
    have hs : i.size = n := by simpa [hq] using hi
    have hagg : (isAgg ty).run P w = .ok true w := by
      unfold isAgg
      rw [Sem.run_bind, run_underlying hu w]
      cases d <;> simp_all
    simp only [Array.toArray_toList] at hl
    simp [loadVar, Sem.run_bind, hagg, sizeOf, typeInfo, hq, hs, hl]

theorem wp_load_part {o : Oper} {a : Act} {w : World} {K : Act → World → Prop} {Q : Exit → Act → World → Prop} (ty : TypeId) (x : Operand) (ho : o.op = .load ty x)
    (g off : Nat) (hx : a.eval x = .pointer (some ⟨g, off, none⟩)) (t : TypeId) (cs : Array Value) (fr : Nat × Nat) (d : TypeDesc) (n : Nat) (hg : w.heap[g]? = some (.cells cs t fr))
    (hu : P.underlying ty = some d) (hd : (match d with | .struct _ | .array _ _ => true | _ => false) = true) (hi : (P.info? ty).map (·.size) = some n) (hn : off + n ≤ cs.size)
    (h : K (a.put o.dst (.agg (cs.extract off (off + n)))) w) : o.wp P a w K Q := by
  unfold Oper.wp execOp
  simp only [ho, hx, Instr.loadAt, Instr.sureAddr, Sem.run_bind, Sem.run_pure, Result.andThen_ok, run_loadVar_part w g off t ty cs fr d n hg hu hd hi hn]
  exact h

/-- The law at the operation: what is loaded is named by the caller (B). -/
theorem wpList_load_part {ops : Array Oper} {rest : List Oper} {o : Oper} {a : Act} {w : World} {Q : Exit → Act → World → Prop} (hgd : Region.wanted o (yielded ops a.tmps) = true) (ty : TypeId) (x : Operand) (ho : o.op = .load ty x)
    (g off : Nat) (hx : a.eval x = .pointer (some ⟨g, off, none⟩)) (t : TypeId) (cs : Array Value) (fr : Nat × Nat) (d : TypeDesc) (n : Nat) (hg : w.heap[g]? = some (.cells cs t fr))
    (hu : P.underlying ty = some d) (hd : (match d with | .struct _ | .array _ _ => true | _ => false) = true) (hi : (P.info? ty).map (·.size) = some n) (hn : off + n ≤ cs.size)
    (B : Array Value) (hB : cs.extract off (off + n) = B)
    (h : wpList P ops Q rest (a.put o.dst (.agg B)) w) : wpList P ops Q (o :: rest) a w :=
  wpList_step fun K hK => by
    rw [if_pos hgd]
    exact wp_load_part ty x ho g off hx t cs fr d n hg hu hd hi hn (hK _ _ (by rw [hB]; exact h))

theorem setRow_alloc (W : World) (Z S : Array Value) (t : TypeId) : (W.alloc (.cells Z t)).setRow W.heap.size S = W.alloc (.cells S t) := by
  unfold World.setRow World.alloc
  simp only [World.mk.injEq, and_true, true_and]
  apply Array.ext
  · simp
  · intro i h1 h2
    simp only [Array.getElem_modify, Array.getElem_push]
    by_cases e : W.heap.size = i
    · subst e; simp
    · have : i < W.heap.size := by simp at h2; omega
      simp [e, this]

/-- A whole aggregate is stored into the newest block. -/
theorem wpList_store_new {ops : Array Oper} {rest : List Oper} {o : Oper} {a : Act} {W : World} {Q : Exit → Act → World → Prop} (hgd : Region.wanted o (yielded ops a.tmps) = true) (ty : TypeId) (x y : Operand) (ho : o.op = .store ty x y)
    (S Z : Array Value) (t : TypeId) (gn : Nat) (hx : a.eval x = .pointer (some ⟨gn, 0, none⟩)) (hgn : gn = W.heap.size) (hy : a.eval y = .agg S) (hi : (P.info? ty).map (·.size) = some S.size)
    (hold : Z.size = S.size) (h1 : S.all (·.oneCell') = true)
    (h : wpList P ops Q rest (a.put o.dst undef) (W.alloc (.cells S t))) : wpList P ops Q (o :: rest) a (W.alloc (.cells Z t)) :=
  wpList_step fun K hK => by
    rw [if_pos hgd]
    subst hgn
    exact wp_store_row ty x y ho W.heap.size S hx hy t Z (heap_alloc_new _ _) hi hold h1 (hK _ _ (by rw [setRow_alloc]; exact h))

theorem at_alloc (T : TypeId) {ops : Array Oper} {Q : Exit → Act → World → Prop} {rest : List Oper} {a : Act} {w : World} {d : Option Tmp} {ty : TypeId} {pos : String} {af : Array Edge} {gd : Option (Nat × Bool)}
    (h : wpList P ops Q (⟨d, .alloc T, ty, pos, af, gd⟩ :: rest) a w) : wpList P ops Q (⟨d, .alloc T, ty, pos, af, gd⟩ :: rest) a w := h
theorem at_build (T : TypeId) {ops : Array Oper} {Q : Exit → Act → World → Prop} {rest : List Oper} {a : Act} {w : World} {d : Option Tmp} {ps : Array (Nat × Operand)} {ty : TypeId} {pos : String} {af : Array Edge} {gd : Option (Nat × Bool)}
    (h : wpList P ops Q (⟨d, .build T ps, ty, pos, af, gd⟩ :: rest) a w) : wpList P ops Q (⟨d, .build T ps, ty, pos, af, gd⟩ :: rest) a w := h

/-- A new variable of zero cells, the cells behind a name. -/
theorem wpList_alloc_named {ops : Array Oper} {rest : List Oper} {o : Oper} {a : Act} {w : World} {Q : Exit → Act → World → Prop} (hgd : Region.wanted o (yielded ops a.tmps) = true) (T : TypeId) (ho : o.op = .alloc T)
    (Z : Array Value) (hz : ((P.info? T).bind (·.zero)).map Value.cells = some Z)
    (h : wpList P ops Q rest (a.put o.dst (.pointer (some ⟨w.heap.size, 0, none⟩))) (w.alloc (.cells Z T))) : wpList P ops Q (o :: rest) a w :=
  wpList_step fun K hK => by
    rw [if_pos hgd]
    cases hq : P.info? T with
    | none => simp [hq] at hz
    | some i =>
      cases hq2 : i.zero with
      | none => simp [hq, hq2] at hz
      | some z =>
        simp [hq, hq2] at hz
        subst hz
        unfold Oper.wp execOp
        simp only [ho, Instr.alloc, zeroValue, typeInfo, newVar, newRow, Sem.run_bind, Sem.run_pure, run_program, Result.andThen_ok, run_newObj_alloc, hq, hq2]
        exact hK _ _ h

/-- A struct or an array that is built, its cells behind a name. -/
theorem wpList_build_named {ops : Array Oper} {rest : List Oper} {o : Oper} {a : Act} {w : World} {Q : Exit → Act → World → Prop} (hgd : Region.wanted o (yielded ops a.tmps) = true) (t : TypeId) (parts : Array (Nat × Operand)) (ho : o.op = .build t parts)
    (B : Array Value) (hf : P.built t (parts.map fun (i, x) => (i, a.eval x)).toList = some B)
    (h : wpList P ops Q rest (a.put o.dst (.agg B)) w) : wpList P ops Q (o :: rest) a w :=
  wpList_step fun K hK => by
    rw [if_pos hgd]
    exact wp_build t parts ho (by rw [hf]; rfl) (hK _ _ (by rw [hf]; exact h))

/-- A whole aggregate is stored over a block of its size. -/
theorem wpList_store_over {ops : Array Oper} {rest : List Oper} {o : Oper} {a : Act} {w : World} {Q : Exit → Act → World → Prop} (hgd : Region.wanted o (yielded ops a.tmps) = true) (ty : TypeId) (x y : Operand) (ho : o.op = .store ty x y)
    (g : Nat) (S : Array Value) (hx : a.eval x = .pointer (some ⟨g, 0, none⟩)) (hy : a.eval y = .agg S)
    (t : TypeId) (old : Array Value) (hg : w.heap[g]? = some (.cells old t (0, 0))) (hi : (P.info? ty).map (·.size) = some S.size)
    (hold : old.size = S.size) (h1 : S.all (·.oneCell') = true)
    (h : ∀ w1 : World, w1.heap[g]? = some (.cells S t (0, 0)) → w1.heap.size = w.heap.size → (∀ k, k ≠ g → w1.heap[k]? = w.heap[k]?) → (∀ B, B ≤ g → Below B w w1) → wpList P ops Q rest (a.put o.dst undef) w1) : wpList P ops Q (o :: rest) a w :=
  wpList_step fun K hK => by
    rw [if_pos hgd]
    exact wp_store_row ty x y ho g S hx hy t old hg hi hold h1 (hK _ _ (h _ (setRow_heap w g old S t _ hg) (setRow_size _ _ _) (fun k hk => setRow_other w g k S hk)
      (fun B hB => ⟨rfl, rfl, rfl, Nat.le_of_eq (setRow_size _ _ _).symm, fun k hk => setRow_other w g k S (by omega)⟩)))

/-- Cell k of an array of one-cell elements, the array a value. -/
theorem run_index_arr (w : World) (T E n : Nat) (cs : Array Value) (k : Nat) (v : Value) (hu : P.underlying T = some (.array n E)) (hE : (isAgg E).run P w = .ok false w) (hsz : (P.info? E).map (·.size) = some 1)
    (hk : k < n) (hc : cs[k]? = some v) : (Instr.index T (.agg cs) (.int .i64 (k : Int))).run P w = .ok v w := by
  have hs : (sizeOf E).run P w = .ok 1 w := by
    cases hq : P.info? E with
    | none => simp [hq] at hsz
    | some i => simp [hq] at hsz; simp [sizeOf, typeInfo, hq, hsz]
  have h1 : (0 : Int) ≤ (k : Int) ∧ (k : Int) < (n : Int) := by omega
  simp [Instr.index, asIntOf, Sem.run_bind, run_underlying hu w, hs, part, hE, hc]
  intro hno
  omega
end
end Go.Proofs.Ytmjfbilhalkegaa
