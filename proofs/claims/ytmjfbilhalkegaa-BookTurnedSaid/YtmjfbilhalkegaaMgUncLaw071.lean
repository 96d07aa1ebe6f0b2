/- Texts that UncLaw07 stands on, one behind the other, part 1. Conditions: each theorem names its own. -/
import Derived.Test.YtmjfbilhalkegaaRows
import Derived.WalkKit
import Derived.WalkSpells
import Derived.WalkLawsBesides
import Derived.Lib.Hide
import Derived.ProofKit
import Derived.Deep.Quiet
/-! General laws of these proofs: whole aggregates loaded from and stored into a block, kept behind one name; what a world keeps behind a call. No condition. -/
namespace Go.Proofs.Ytmjfbilhalkegaa
set_option linter.unusedVariables false
set_option linter.unusedSimpArgs false
open Go.RowKit

/-- Cell i as a number. -/
def N (A : Array Value) (i : Nat) : Int := match A[i]? with | some (.int _ n) => n | _ => 0
/-- Cell i as a bool. -/
def Bo (A : Array Value) (i : Nat) : Bool := match A[i]? with | some (.bool b) => b | _ => false
/-- Cell i is a number of that kind, within its bounds. -/
def IsN (A : Array Value) (k : IntKind) (i : Nat) : Prop := A[i]? = some (.int k (N A i)) ∧ k.min ≤ N A i ∧ N A i ≤ k.max
def IsB (A : Array Value) (i : Nat) : Prop := A[i]? = some (.bool (Bo A i))

theorem N_of {A : Array Value} {i : Nat} {k : IntKind} {n : Int} (h : A[i]? = some (.int k n)) : N A i = n := by simp [N, h]
theorem Bo_of {A : Array Value} {i : Nat} {b : Bool} (h : A[i]? = some (.bool b)) : Bo A i = b := by simp [Bo, h]
theorem IsN_of {A : Array Value} {i : Nat} {k : IntKind} {n : Int} (h : A[i]? = some (.int k n)) (h1 : k.min ≤ n ∧ n ≤ k.max) : IsN A k i := by
  unfold IsN; rw [N_of h]; exact ⟨h, h1⟩
theorem IsB_of {A : Array Value} {i : Nat} {b : Bool} (h : A[i]? = some (.bool b)) : IsB A i := by
  unfold IsB; rw [Bo_of h]; exact h

theorem ret_bool {a b : Bool} (h : a = true ↔ b = true) : Ending.returned (.bool a) = .returned (.bool b) := by rw [Bool.eq_iff_iff.2 h]
theorem ret_beq {a b : Bool} (h : a = b) : Ending.returned (.bool a) = .returned (.bool b) := by rw [h]
theorem ret_int {k : IntKind} {a b : Int} (h : a = b) : Ending.returned (.int k a) = .returned (.int k b) := by rw [h]
theorem ret_ii {k k' : IntKind} {a b c d : Int} (h : a = b) (h' : c = d) : Ending.returned (.tuple #[.int k a, .int k' c]) = .returned (.tuple #[.int k b, .int k' d]) := by rw [h, h']

theorem IsN.i64 {A : Array Value} {i : Nat} (h : IsN A .i64 i) : A[i]? = some (.int .i64 (N A i)) ∧ -9223372036854775808 ≤ N A i ∧ N A i ≤ 9223372036854775807 := h
theorem IsN.u32 {A : Array Value} {i : Nat} (h : IsN A .u32 i) : A[i]? = some (.int .u32 (N A i)) ∧ 0 ≤ N A i ∧ N A i ≤ 4294967295 := h
theorem IsN.u8 {A : Array Value} {i : Nat} (h : IsN A .u8 i) : A[i]? = some (.int .u8 (N A i)) ∧ 0 ≤ N A i ∧ N A i ≤ 255 := h

/-- What stood in a block stands there behind a call that leaves old memory alone. -/
theorem kept {W w1 : World} (hb : Below W.heap.size W w1) {g : Nat} {o : Obj} (h : W.heap[g]? = some o) : w1.heap[g]? = some o :=
  (hb.block g (Array.getElem?_eq_some_iff.1 h).1).trans h
theorem cells_of {w : World} {g : Nat} {A : Array Value} {t : TypeId} (h : w.heap[g]? = some (.cells A t (0, 0))) : (∀ j, w.cell? ⟨g, j, none⟩ = A[j]?) ∧ (∀ j, w.frozen? ⟨g, j, none⟩ = false) ∧ g < w.heap.size :=
  ⟨fun j => cell_of_row w g j A t (0, 0) h, fun j => frozen_of_row w g j A t h, (Array.getElem?_eq_some_iff.1 h).1⟩
theorem N_extract {A : Array Value} {a b i : Nat} (h : b ≤ A.size) (hi : a + i < b) : N (A.extract a b) i = N A (a + i) := by
  unfold N; rw [Array.getElem?_extract, if_pos (by omega)]

theorem all_one {S : Array Value} (h : ∀ (i : Nat) (v : Value), S[i]? = some v → v.oneCell' = true) : S.all (·.oneCell') = true := by
  rw [Array.all_eq_true]
  intro i hi
  exact h i S[i] (Array.getElem?_eq_getElem hi)
theorem IsN.one {A : Array Value} {k : IntKind} {i : Nat} {v : Value} (h : IsN A k i) (hv : A[i]? = some v) : v.oneCell' = true := by
  rw [h.1] at hv; injection hv with hv; subst hv; rfl
theorem IsB.one {A : Array Value} {i : Nat} {v : Value} (h : IsB A i) (hv : A[i]? = some v) : v.oneCell' = true := by
  unfold IsB at h; rw [h] at hv; injection hv with hv; subst hv; rfl

theorem below_then {w W w1 : World} (h : Below w.heap.size w W) (hb : Below W.heap.size W w1) : Below w.heap.size w w1 := h.trans (hb.mono h.size)
theorem below_new (w : World) (o : Obj) : Below w.heap.size w (w.alloc o) := (Below.refl _ _).alloc (Nat.le_refl _) _
theorem below_alloc {w W : World} (h : Below w.heap.size w W) (o : Obj) : Below w.heap.size w (W.alloc o) := h.alloc h.size o

theorem bcell {W w1 : World} (hb : Below W.heap.size W w1) : (∀ b o, b < W.heap.size → w1.cell? ⟨b, o, none⟩ = W.cell? ⟨b, o, none⟩) ∧ (∀ b o, b < W.heap.size → w1.frozen? ⟨b, o, none⟩ = W.frozen? ⟨b, o, none⟩) :=
  ⟨fun b o h => hb.cell (p := ⟨b, o, none⟩) h, fun b o h => hb.frozen (p := ⟨b, o, none⟩) h⟩

section
variable {P : Program}

/-- Guards: the operation is a load, a store, of that type. -/
theorem at_load (T : TypeId) {ops : Array Oper} {Q : Exit → Act → World → Prop} {rest : List Oper} {a : Act} {w : World} {d : Option Tmp} {x : Operand} {ty : TypeId} {pos : String} {af : Array Edge} {gd : Option (Nat × Bool)}
    (h : wpList P ops Q (⟨d, .load T x, ty, pos, af, gd⟩ :: rest) a w) : wpList P ops Q (⟨d, .load T x, ty, pos, af, gd⟩ :: rest) a w := h
theorem at_store (T : TypeId) {ops : Array Oper} {Q : Exit → Act → World → Prop} {rest : List Oper} {a : Act} {w : World} {d : Option Tmp} {x y : Operand} {ty : TypeId} {pos : String} {af : Array Edge} {gd : Option (Nat × Bool)}
    (h : wpList P ops Q (⟨d, .store T x y, ty, pos, af, gd⟩ :: rest) a w) : wpList P ops Q (⟨d, .store T x y, ty, pos, af, gd⟩ :: rest) a w := h

/-- A whole aggregate is loaded out of a block, at a place. -/
theorem run_loadVar_part (w : World) (g off : Nat) (t ty : TypeId) (cs : Array Value) (fr : Nat × Nat) (d : TypeDesc) (n : Nat) (hg : w.heap[g]? = some (.cells cs t fr))
    (hu : P.underlying ty = some d) (hd : (match d with | .struct _ | .array _ _ => true | _ => false) = true) (hi : (P.info? ty).map (·.size) = some n) (hn : off + n ≤ cs.size) :
    (loadVar ty ⟨g, off, none⟩).run P w = .ok (.agg (cs.extract off (off + n))) w := by
  have hlen : (cs.extract off (off + n)).toList.length = n := by simp; omega
  have hl : (loadCells ⟨g, off, none⟩ (cs.extract off (off + n)).toList.length).run P w = .ok (cs.extract off (off + n)).toList.toArray w :=
    run_loadCells_list (P := P) w ⟨g, off, none⟩ (cs.extract off (off + n)).toList (fun j v hv => by
      have hadd : (⟨g, off, none⟩ : Addr).add j = ⟨g, off + j, none⟩ := by unfold Addr.add; split <;> simp_all
      rw [hadd, cell_of_row w g _ cs t fr hg]
      have hv' : (cs.extract off (off + n))[j]? = some v := by rw [← Array.getElem?_toList]; exact hv
      rw [Array.getElem?_extract] at hv'
      split at hv' <;> simp_all)
  rw [hlen] at hl
  cases hq : P.info? ty with
  | none => simp [hq] at hi
  | some i =>
    have hs : i.size = n := by simpa [hq] using hi
    have hagg : (isAgg ty).run P w = .ok true w := by
      unfold isAgg
      rw [Sem.run_bind, run_underlying hu w]
      cases d <;> simp_all
    simp only [Array.toArray_toList] at hl
    simp [loadVar, Sem.run_bind, hagg, sizeOf, typeInfo, hq, hs, hl]

theorem wp_load_part {o : Oper} {a : Act} {w : World} {K : Act → World → Prop} {Q : Exit → Act → World → Prop} (ty : TypeId) (x : Operand) (ho : o.op = .load ty x)
    (g off : Nat) (hx : a.eval x = .pointer (some ⟨g, off, none⟩)) (t : TypeId) (cs : Array Value) (fr : Nat × Nat) (d : TypeDesc) (n : Nat) (hg : w.heap[g]? = some (.cells cs t fr))
    (hu : P.underlying ty = some d) (hd : (match d with | .struct _ | .array _ _ => true | _ => false) = true) (hi : (P.info? ty).map (·.size) = some n) (hn : off + n ≤ cs.size)
    (h : K (a.put o.dst (.agg (cs.extract off (off + n)))) w) : o.wp P a w K Q := by
  unfold Oper.wp execOp
  simp only [ho, hx, Instr.loadAt, Instr.sureAddr, Sem.run_bind, Sem.run_pure, Result.andThen_ok, run_loadVar_part w g off t ty cs fr d n hg hu hd hi hn]
  exact h

/-- The law at the operation: what is loaded is named by the caller (B). -/
theorem wpList_load_part {ops : Array Oper} {rest : List Oper} {o : Oper} {a : Act} {w : World} {Q : Exit → Act → World → Prop} (hgd : Region.wanted o (yielded ops a.tmps) = true) (ty : TypeId) (x : Operand) (ho : o.op = .load ty x)
    (g off : Nat) (hx : a.eval x = .pointer (some ⟨g, off, none⟩)) (t : TypeId) (cs : Array Value) (fr : Nat × Nat) (d : TypeDesc) (n : Nat) (hg : w.heap[g]? = some (.cells cs t fr))
    (hu : P.underlying ty = some d) (hd : (match d with | .struct _ | .array _ _ => true | _ => false) = true) (hi : (P.info? ty).map (·.size) = some n) (hn : off + n ≤ cs.size)
    (B : Array Value) (hB : cs.extract off (off + n) = B)
    (h : wpList P ops Q rest (a.put o.dst (.agg B)) w) : wpList P ops Q (o :: rest) a w :=
  wpList_step fun K hK => by
    rw [if_pos hgd]
    exact wp_load_part ty x ho g off hx t cs fr d n hg hu hd hi hn (hK _ _ (by rw [hB]; exact h))

theorem setRow_alloc (W : World) (Z S : Array Value) (t : TypeId) : (W.alloc (.cells Z t)).setRow W.heap.size S = W.alloc (.cells S t) := by
  unfold World.setRow World.alloc
  simp only [World.mk.injEq, and_true, true_and]
  apply Array.ext
  · simp
  · intro i h1 h2
    simp only [Array.getElem_modify, Array.getElem_push]
    by_cases e : W.heap.size = i
    · subst e; simp
    · have : i < W.heap.size := by simp at h2; omega
      simp [e, this]

/-- A whole aggregate is stored into the newest block. -/
theorem wpList_store_new {ops : Array Oper} {rest : List Oper} {o : Oper} {a : Act} {W : World} {Q : Exit → Act → World → Prop} (hgd : Region.wanted o (yielded ops a.tmps) = true) (ty : TypeId) (x y : Operand) (ho : o.op = .store ty x y)
    (S Z : Array Value) (t : TypeId) (gn : Nat) (hx : a.eval x = .pointer (some ⟨gn, 0, none⟩)) (hgn : gn = W.heap.size) (hy : a.eval y = .agg S) (hi : (P.info? ty).map (·.size) = some S.size)
    (hold : Z.size = S.size) (h1 : S.all (·.oneCell') = true)
    (h : wpList P ops Q rest (a.put o.dst undef) (W.alloc (.cells S t))) : wpList P ops Q (o :: rest) a (W.alloc (.cells Z t)) :=
  wpList_step fun K hK => by
    rw [if_pos hgd]
    subst hgn
    exact wp_store_row ty x y ho W.heap.size S hx hy t Z (heap_alloc_new _ _) hi hold h1 (hK _ _ (by rw [setRow_alloc]; exact h))

theorem at_alloc (T : TypeId) {ops : Array Oper} {Q : Exit → Act → World → Prop} {rest : List Oper} {a : Act} {w : World} {d : Option Tmp} {ty : TypeId} {pos : String} {af : Array Edge} {gd : Option (Nat × Bool)}
    (h : wpList P ops Q (⟨d, .alloc T, ty, pos, af, gd⟩ :: rest) a w) : wpList P ops Q (⟨d, .alloc T, ty, pos, af, gd⟩ :: rest) a w := h
theorem at_build (T : TypeId) {ops : Array Oper} {Q : Exit → Act → World → Prop} {rest : List Oper} {a : Act} {w : World} {d : Option Tmp} {ps : Array (Nat × Operand)} {ty : TypeId} {pos : String} {af : Array Edge} {gd : Option (Nat × Bool)}
    (h : wpList P ops Q (⟨d, .build T ps, ty, pos, af, gd⟩ :: rest) a w) : wpList P ops Q (⟨d, .build T ps, ty, pos, af, gd⟩ :: rest) a w := h

/-- A new variable of zero cells, the cells behind a name. -/
theorem wpList_alloc_named {ops : Array Oper} {rest : List Oper} {o : Oper} {a : Act} {w : World} {Q : Exit → Act → World → Prop} (hgd : Region.wanted o (yielded ops a.tmps) = true) (T : TypeId) (ho : o.op = .alloc T)
    (Z : Array Value) (hz : ((P.info? T).bind (·.zero)).map Value.cells = some Z)
    (h : wpList P ops Q rest (a.put o.dst (.pointer (some ⟨w.heap.size, 0, none⟩))) (w.alloc (.cells Z T))) : wpList P ops Q (o :: rest) a w :=
  wpList_step fun K hK => by
    rw [if_pos hgd]
    cases hq : P.info? T with
    | none => simp [hq] at hz
    | some i =>
      cases hq2 : i.zero with
      | none => simp [hq, hq2] at hz
      | some z =>
        simp [hq, hq2] at hz
        subst hz
        unfold Oper.wp execOp
        simp only [ho, Instr.alloc, zeroValue, typeInfo, newVar, newRow, Sem.run_bind, Sem.run_pure, run_program, Result.andThen_ok, run_newObj_alloc, hq, hq2]
        exact hK _ _ h

/-- A struct or an array that is built, its cells behind a name. -/
theorem wpList_build_named {ops : Array Oper} {rest : List Oper} {o : Oper} {a : Act} {w : World} {Q : Exit → Act → World → Prop} (hgd : Region.wanted o (yielded ops a.tmps) = true) (t : TypeId) (parts : Array (Nat × Operand)) (ho : o.op = .build t parts)
    (B : Array Value) (hf : P.built t (parts.map fun (i, x) => (i, a.eval x)).toList = some B)
    (h : wpList P ops Q rest (a.put o.dst (.agg B)) w) : wpList P ops Q (o :: rest) a w :=
  wpList_step fun K hK => by
    rw [if_pos hgd]
    exact wp_build t parts ho (by rw [hf]; rfl) (hK _ _ (by rw [hf]; exact h))

/-- A whole aggregate is stored over a block of its size. -/
theorem wpList_store_over {ops : Array Oper} {rest : List Oper} {o : Oper} {a : Act} {w : World} {Q : Exit → Act → World → Prop} (hgd : Region.wanted o (yielded ops a.tmps) = true) (ty : TypeId) (x y : Operand) (ho : o.op = .store ty x y)
    (g : Nat) (S : Array Value) (hx : a.eval x = .pointer (some ⟨g, 0, none⟩)) (hy : a.eval y = .agg S)
    (t : TypeId) (old : Array Value) (hg : w.heap[g]? = some (.cells old t (0, 0))) (hi : (P.info? ty).map (·.size) = some S.size)
    (hold : old.size = S.size) (h1 : S.all (·.oneCell') = true)
    (h : ∀ w1 : World, w1.heap[g]? = some (.cells S t (0, 0)) → w1.heap.size = w.heap.size → (∀ k, k ≠ g → w1.heap[k]? = w.heap[k]?) → (∀ B, B ≤ g → Below B w w1) → wpList P ops Q rest (a.put o.dst undef) w1) : wpList P ops Q (o :: rest) a w :=
  wpList_step fun K hK => by
    rw [if_pos hgd]
    exact wp_store_row ty x y ho g S hx hy t old hg hi hold h1 (hK _ _ (h _ (setRow_heap w g old S t _ hg) (setRow_size _ _ _) (fun k hk => setRow_other w g k S hk)
      (fun B hB => ⟨rfl, rfl, rfl, Nat.le_of_eq (setRow_size _ _ _).symm, fun k hk => setRow_other w g k S (by omega)⟩)))

/-- Cell k of an array of one-cell elements, the array a value. -/
theorem run_index_arr (w : World) (T E n : Nat) (cs : Array Value) (k : Nat) (v : Value) (hu : P.underlying T = some (.array n E)) (hE : (isAgg E).run P w = .ok false w) (hsz : (P.info? E).map (·.size) = some 1)
    (hk : k < n) (hc : cs[k]? = some v) : (Instr.index T (.agg cs) (.int .i64 (k : Int))).run P w = .ok v w := by
  have hs : (sizeOf E).run P w = .ok 1 w := by
    cases hq : P.info? E with
    | none => simp [hq] at hsz
    | some i => simp [hq] at hsz; simp [sizeOf, typeInfo, hq, hsz]
  have h1 : (0 : Int) ≤ (k : Int) ∧ (k : Int) < (n : Int) := by omega
  simp [Instr.index, asIntOf, Sem.run_bind, run_underlying hu w, hs, part, hE, hc]
  intro hno
  omega
end
end Go.Proofs.Ytmjfbilhalkegaa
/-! A row of integers and bools as a value: what fits its types, cell by cell; how it comes out of an argument that came in. No condition. -/
namespace Go.Proofs.Ytmjfbilhalkegaa
set_option linter.unusedVariables false
set_option linter.unusedSimpArgs false
open Go.RowKit

theorem cellF {w : World} {g : Nat} {A : Array Value} {t : TypeId} {fr : Nat × Nat} (h : w.heap[g]? = some (.cells A t fr)) : ∀ j, w.cell? ⟨g, j, none⟩ = A[j]? := fun j => cell_of_row w g j A t fr h
theorem at_world {P : Program} {C : Code} {Q : Exit → Act → World → Prop} {a : Act} {W : World} (h : ∀ w3, w3 = W → C.wp P Q a w3) : C.wp P Q a W := h W rfl
theorem below_drawn {w w1 : World} {B n : Nat} (h : Below B w w1) : Below B w { w1 with drawn := n } := ⟨h.1, h.2, h.3, h.size, h.block⟩
theorem set_grown (w : World) (g i : Nat) (v : Value) : w.grownBy (w.setCell ⟨g, i, none⟩ v) (some g) :=
  ⟨rfl, rfl, rfl, by simp [World.setCell], fun k _ hk => by rw [heap_setCell_other w ⟨g, i, none⟩ k v (fun e => hk (by rw [e]))]⟩

/-- The value fits: an integer of that kind within its bounds; or a bool. -/
def fitsK : Option IntKind → Value → Prop
  | some k, v => ∃ n : Int, v = .int k n ∧ k.min ≤ n ∧ n ≤ k.max
  | none, v => ∃ b : Bool, v = .bool b
def Rowk (ks : List (Option IntKind)) (A : Array Value) : Prop := A.size = ks.length ∧ ∀ (i : Nat) (k : Option IntKind), ks[i]? = some k → ∃ v : Value, A[i]? = some v ∧ fitsK k v

theorem Rowk.isN {ks : List (Option IntKind)} {A : Array Value} (h : Rowk ks A) {i : Nat} {k : IntKind} (hi : ks[i]? = some (some k)) : IsN A k i := by
  obtain ⟨v, hv, n, rfl, h1⟩ := h.2 i _ hi
  exact IsN_of hv h1
theorem Rowk.isB {ks : List (Option IntKind)} {A : Array Value} (h : Rowk ks A) {i : Nat} (hi : ks[i]? = some none) : IsB A i := by
  obtain ⟨v, hv, b, rfl⟩ := h.2 i _ hi
  exact IsB_of hv
theorem Rowk.set {ks : List (Option IntKind)} {A : Array Value} (h : Rowk ks A) {i : Nat} {k : Option IntKind} {v : Value} (hi : ks[i]? = some k) (hv : fitsK k v) : Rowk ks (A.setIfInBounds i v) := by
  refine ⟨by simp [h.1], fun j k' hj => ?_⟩
  have hlt : i < A.size := by rw [h.1]; exact (List.getElem?_eq_some_iff.1 hi).1
  by_cases e : i = j
  · subst e
    rw [hi] at hj
    injection hj with hj
    subst hj
    exact ⟨v, by simp [hlt], hv⟩
  · obtain ⟨u, hu, hf⟩ := h.2 j k' hj
    exact ⟨u, by rw [Array.getElem?_setIfInBounds_ne e]; exact hu, hf⟩
theorem Rowk.extract {ks : List (Option IntKind)} {A : Array Value} (h : Rowk ks A) (a b : Nat) (hb : b ≤ ks.length) : Rowk ((ks.take b).drop a) (A.extract a b) := by
  refine ⟨by simp [h.1], fun i k hi => ?_⟩
  rw [List.getElem?_drop, List.getElem?_take] at hi
  split at hi
  · rename_i hlt
    obtain ⟨v, hv, hf⟩ := h.2 _ _ hi
    exact ⟨v, by rw [Array.getElem?_extract, if_pos (by rw [h.1]; omega)]; exact hv, hf⟩
  · simp at hi
theorem Rowk.one {ks : List (Option IntKind)} {A : Array Value} (h : Rowk ks A) : A.all (·.oneCell') = true := by
  refine all_one fun i v hv => ?_
  have hlt : i < ks.length := by rw [← h.1]; exact (Array.getElem?_eq_some_iff.1 hv).1
  obtain ⟨u, hu, hf⟩ := h.2 i _ (List.getElem?_eq_getElem hlt)
  rw [hv] at hu
  injection hu with hu
  subst hu
  cases hk : ks[i] with
  | none => rw [hk] at hf; obtain ⟨b, rfl⟩ := hf; rfl
  | some k => rw [hk] at hf; obtain ⟨n, rfl, _⟩ := hf; rfl

theorem N_set {A : Array Value} {i j : Nat} {v : Value} (hi : i < A.size) : N (A.setIfInBounds i v) j = if i = j then (match v with | .int _ n => n | _ => 0) else N A j := by
  unfold N
  by_cases e : i = j
  · subst e; simp [hi]; cases v <;> rfl
  · rw [Array.getElem?_setIfInBounds_ne e, if_neg e]
theorem Bo_set {A : Array Value} {i j : Nat} {v : Value} (hi : i < A.size) : Bo (A.setIfInBounds i v) j = if i = j then (match v with | .bool b => b | _ => false) else Bo A j := by
  unfold Bo
  by_cases e : i = j
  · subst e; simp [hi]; cases v <;> rfl
  · rw [Array.getElem?_setIfInBounds_ne e, if_neg e]
theorem extract_set_out {A : Array Value} {a b i : Nat} {v : Value} (h : i < a ∨ b ≤ i) : (A.setIfInBounds i v).extract a b = A.extract a b := by
  apply Array.ext_getElem?
  intro j
  rw [Array.getElem?_extract, Array.getElem?_extract]
  simp only [Array.size_setIfInBounds]
  split
  · rw [Array.getElem?_setIfInBounds_ne (by omega)]
  · rfl
theorem extract_set_in {A : Array Value} {a b i : Nat} {v : Value} (h1 : a ≤ i) (h2 : i < b) (hb : b ≤ A.size) : (A.setIfInBounds i v).extract a b = (A.extract a b).setIfInBounds (i - a) v := by
  apply Array.ext_getElem?
  intro j
  rw [Array.getElem?_extract]
  simp only [Array.size_setIfInBounds]
  by_cases e : i - a = j
  · subst e
    rw [if_pos (by omega), show a + (i - a) = i by omega, Array.getElem?_setIfInBounds_self_of_lt (by omega), Array.getElem?_setIfInBounds_self_of_lt (by simp; omega)]
  · rw [Array.getElem?_setIfInBounds_ne e, Array.getElem?_extract]
    split
    · rw [Array.getElem?_setIfInBounds_ne (by omega)]
    · rfl

/-- A row with a part of it written over. -/
def splice (A : Array Value) (off : Nat) (S : Array Value) : Array Value := (A.toList.take off ++ S.toList ++ A.toList.drop (off + S.size)).toArray
theorem splice_get {A S : Array Value} {off i : Nat} (h : off + S.size ≤ A.size) : (splice A off S)[i]? = if off ≤ i ∧ i < off + S.size then S[i - off]? else A[i]? := by
  unfold splice
  rw [List.getElem?_toArray, List.append_assoc, List.getElem?_append, List.getElem?_append]
  simp only [List.length_take, Array.length_toList, Nat.min_eq_left (show off ≤ A.size by omega)]
  by_cases h1 : i < off
  · rw [if_pos h1, if_neg (by omega), List.getElem?_take, if_pos h1, Array.getElem?_toList]
  · rw [if_neg h1]
    by_cases h2 : i < off + S.size
    · rw [if_pos (by omega), if_pos ⟨by omega, h2⟩, Array.getElem?_toList]
    · rw [if_neg (by omega), if_neg (by omega), List.getElem?_drop, Array.getElem?_toList, show off + S.size + (i - off - S.size) = i by omega]
theorem splice_size {A S : Array Value} {off : Nat} (h : off + S.size ≤ A.size) : (splice A off S).size = A.size := by
  unfold splice; simp; omega
theorem Rowk.splice {ks ls : List (Option IntKind)} {A S : Array Value} (h : Rowk ks A) (hs : Rowk ls S) {off : Nat} (hl : (ks.drop off).take ls.length = ls) (ho : off + ls.length ≤ ks.length) : Rowk ks (splice A off S) := by
  have hle : off + S.size ≤ A.size := by rw [h.1, hs.1]; exact ho
  refine ⟨by rw [splice_size hle, h.1], fun i k hi => ?_⟩
  rw [splice_get hle]
  split
  · rename_i hh
    rw [hs.1] at hh
    refine hs.2 _ _ ?_
    rw [← hl, List.getElem?_take, if_pos (by omega), List.getElem?_drop, show off + (i - off) = i by omega]
    exact hi
  · exact h.2 _ _ hi

section
variable {P : Program}
theorem heap_new {W : World} {o : Obj} {i : Nat} (h : i = W.heap.size) : (W.alloc o).heap[i]? = some o := by subst h; exact heap_alloc_new _ _
theorem heap_up {W : World} {o x : Obj} {i : Nat} (h : W.heap[i]? = some x) : (W.alloc o).heap[i]? = some x := by
  have hlt := (Array.getElem?_eq_some_iff.1 h).1
  show (W.heap.push o)[i]? = _
  rw [Array.getElem?_push, if_neg (by omega)]
  exact h
theorem heap_set {w : World} {g i : Nat} {cs : Array Value} {t : TypeId} {v : Value} (h : w.heap[g]? = some (.cells cs t (0, 0))) : (w.setCell ⟨g, i, none⟩ v).heap[g]? = some (.cells (cs.setIfInBounds i v) t (0, 0)) := heap_setCell_same w g i cs t v h
theorem heap_set_other {w : World} {g i k : Nat} {o : Obj} {v : Value} (h : w.heap[k]? = some o) (hne : k ≠ g) : (w.setCell ⟨g, i, none⟩ v).heap[k]? = some o := by
  rw [heap_setCell_other w ⟨g, i, none⟩ k v hne]; exact h
theorem extract_all {A : Array Value} {n : Nat} (h : A.size = n) : A.extract 0 n = A := by rw [← h]; simp

theorem run_storeVar_part (w : World) (g off : Nat) (t ty : TypeId) (cs S : Array Value) (hg : w.heap[g]? = some (.cells cs t (0, 0))) (hi : (P.info? ty).map (·.size) = some S.size)
    (hn : off + S.size ≤ cs.size) (h1 : S.all (·.oneCell') = true) : (storeVar ty ⟨g, off, none⟩ (.agg S)).run P w = .ok () (w.setRow g (splice cs off S)) := by
  have := run_storeCells_at P g off t S.toList 0 cs w hg (by simpa using hn) (fun v hv => (Array.all_eq_true_iff_forall_mem.1 h1) v (by simpa using hv))
  cases hq : P.info? ty with
  | none => simp [hq] at hi
  | some i =>
    have hs : S.size = i.size := by simp [hq] at hi; omega
    simp only [Nat.add_zero, Array.length_toList] at this
    simp [storeVar, sizeOf, typeInfo, hq, Value.cells, hs, this, splice]

/-- A whole aggregate is stored into a block, at a place: what is known of the world behind it. -/
theorem wpList_store_part {ops : Array Oper} {rest : List Oper} {o : Oper} {a : Act} {w : World} {Q : Exit → Act → World → Prop} (hgd : Region.wanted o (yielded ops a.tmps) = true) (ty : TypeId) (x y : Operand) (ho : o.op = .store ty x y)
    (g off : Nat) (S : Array Value) (hx : a.eval x = .pointer (some ⟨g, off, none⟩)) (hy : a.eval y = .agg S)
    (t : TypeId) (cs : Array Value) (hg : w.heap[g]? = some (.cells cs t (0, 0))) (hi : (P.info? ty).map (·.size) = some S.size)
    (hn : off + S.size ≤ cs.size) (h1 : S.all (·.oneCell') = true)
    (h : ∀ w1 : World, w1.heap[g]? = some (.cells (splice cs off S) t (0, 0)) → w1.heap.size = w.heap.size → (∀ k, k ≠ g → w1.heap[k]? = w.heap[k]?) → (∀ B, B ≤ g → Below B w w1) → wpList P ops Q rest (a.put o.dst undef) w1) : wpList P ops Q (o :: rest) a w :=
  wpList_step fun K hK => by
    rw [if_pos hgd]
    unfold Oper.wp execOp
    simp only [ho, hx, hy, Instr.storeAt, Instr.sureAddr, Sem.run_bind, Sem.run_pure, Result.andThen_ok, run_storeVar_part w g off t ty cs S hg hi hn h1]
    exact hK _ _ (h _ (setRow_heap w g cs _ t _ hg) (setRow_size _ _ _) (fun k hk => setRow_other w g k _ hk)
      (fun B hB => ⟨rfl, rfl, rfl, Nat.le_of_eq (setRow_size _ _ _).symm, fun k hk => setRow_other w g k _ (by omega)⟩))
end

/-- The kind of a cell's type. -/
def kindOf (P : Program) (t : TypeId) : Option (Option IntKind) := match P.underlying t with | some (.int k) => some (some k) | some .bool => some none | _ => none
theorem fits_cell {P : Program} {w : World} {r : Reach} {b : Nat} {t : TypeId} {v : Value} {k : Option IntKind} (hk : kindOf P t = some k) (h : Cell.okWide P w r b t v) : fitsK k v := by
  unfold kindOf at hk
  unfold Cell.okWide Cell.ok at h
  split at hk
  · rename_i k' hu
    injection hk with hk
    subst hk
    simp only [hu] at h
    cases v <;> simp_all
    obtain ⟨rfl, hh⟩ := h
    exact ⟨_, rfl, hh⟩
  · rename_i hu
    injection hk with hk
    subst hk
    simp only [hu] at h
    cases v <;> simp_all
    exact ⟨_, rfl⟩
  · simp at hk
theorem int_of_ok {P : Program} {w : World} {r : Reach} {b : Nat} {t : TypeId} {v : Value} {k : IntKind} (hu : P.underlying t = some (.int k)) (h : Value.okWide P w r b t v) : ∃ n : Int, v = .int k n ∧ k.min ≤ n ∧ n ≤ k.max := by
  have h' : Cell.okWide P w r b t v := by unfold Value.okWide at h; rw [hu] at h; exact h
  exact fits_cell (k := some k) (by simp [kindOf, hu]) h'
theorem bool_of_ok {P : Program} {w : World} {r : Reach} {b : Nat} {t : TypeId} {v : Value} (hu : P.underlying t = some .bool) (h : Value.okWide P w r b t v) : ∃ c : Bool, v = .bool c := by
  have h' : Cell.okWide P w r b t v := by unfold Value.okWide at h; rw [hu] at h; exact h
  exact fits_cell (k := none) (by simp [kindOf, hu]) h'
/-- An argument that is a struct or an array of integers and bools. -/
theorem row_of_ok {P : Program} {w : World} {r : Reach} {b : Nat} {t : TypeId} {v : Value} {d : TypeDesc} {ks : List (Option IntKind)} (hu : P.underlying t = some d) (hd : (match d with | .struct _ | .array _ _ => true | _ => false) = true)
    (hkk : (P.cellTypes P.depth t).map (·.map (kindOf P)) = some (ks.map some)) (hcc : P.cellsOf t = ks.length) (h : Value.okWide P w r b t v) : ∃ A, v = .agg A ∧ Rowk ks A := by
  obtain ⟨ts, hts, hk⟩ : ∃ ts, P.cellTypes P.depth t = some ts ∧ ts.map (kindOf P) = ks.map some := by
    cases hq : P.cellTypes P.depth t with
    | none => simp [hq] at hkk
    | some ts => exact ⟨ts, rfl, by simpa [hq] using hkk⟩
  have hl : ts.length = ks.length := by have := congrArg List.length hk; simpa using this
  have hc : P.cellsOf t = ts.length := by rw [hcc, hl]
  have h' : ∃ cs, v = .agg cs ∧ cs.size = P.cellsOf t ∧ Row.okWide P w r b t cs := by
    unfold Value.okWide at h
    rw [hu] at h
    cases d <;> simp_all
  obtain ⟨cs, rfl, hs, ts', hts', _, hcell⟩ := h'
  rw [hts] at hts'
  injection hts' with hts'
  subst hts'
  refine ⟨cs, rfl, by rw [hs, hc, hl], fun i k hi => ?_⟩
  have hlt : i < ts.length := by rw [hl]; exact (List.getElem?_eq_some_iff.1 hi).1
  have hlt2 : i < cs.size := by rw [hs, hc]; exact hlt
  obtain ⟨u, hu', hok⟩ := hcell i cs[i] (Array.getElem?_eq_getElem hlt2)
  rw [Nat.mod_eq_of_lt hlt] at hu'
  have hki : kindOf P u = some k := by
    have e := congrArg (fun l : List (Option (Option IntKind)) => l[i]?) hk
    simp [hu', hi] at e
    exact e
  exact ⟨_, Array.getElem?_eq_getElem hlt2, fits_cell hki hok⟩
end Go.Proofs.Ytmjfbilhalkegaa
/-! A region that draws its order, whose operations leave old memory alone: one walk in the text's order serves every order. No condition. -/
namespace Go.Proofs.Ytmjfbilhalkegaa
set_option linter.unusedVariables false
set_option linter.unusedSimpArgs false
open Go.RowKit

/-- 'wpQuiet' behind a name that is never laid open. -/
structure WQ (P : Program) (ops : Array Oper) (C : World → Prop) (Q : Act → Prop) (l : List Oper) (a : Act) : Prop where
  out : wpQuiet P ops C Q l a

section
variable {P : Program} {ops : Array Oper} {C : World → Prop} {Q : Act → Prop} {o : Oper} {rest : List Oper} {a : Act}

theorem wp_region_below {id : Nat} {Q : Exit → Act → World → Prop} {a : Act} {w : World} {l : List Oper} (hm : P.follows .mixedOrders = true) (hB : Region.lexB .any l.toArray = true)
    (h : WQ P l.toArray (fun w' => Below w.heap.size w w') (fun a' => ∀ w', Below w.heap.size w w' → Q .normal a' w') l a) : (Code.region id l.toArray true).wp P Q a w :=
  wp_region_quiet (C := fun w' => Below w.heap.size w w') hm hB (Below.drew (Below.refl _ _)) (by simpa using h.out)

theorem q_nil (h : Q a) : WQ P ops C Q [] a := ⟨h⟩
theorem q_skip (hw : Region.wanted o (yielded ops a.tmps) = false) (h : WQ P ops C Q rest (a.put o.dst undef)) : WQ P ops C Q (o :: rest) a := by
  constructor
  unfold wpQuiet
  rw [hw]
  exact h.out
theorem q_val (v : Value) (hw : Region.wanted o (yielded ops a.tmps) = true) (hv : ∀ w, C w → (execOp a.eval o).run P w = .ok (.value v) w) (h : WQ P ops C Q rest (a.put o.dst v)) : WQ P ops C Q (o :: rest) a := by
  constructor
  unfold wpQuiet
  rw [if_pos hw]
  exact ⟨v, fun w hc => by unfold Oper.quietAt; rw [hv w hc]; exact ⟨rfl, rfl⟩, h.out⟩
theorem q_call (v : Value) (f : FuncId) (args : Array Value) (hw : Region.wanted o (yielded ops a.tmps) = true) (he : ∀ w, C w → (execOp a.eval o).run P w = .ok (.enter f args) w)
    (hc : ∀ w, C w → Calls P f args w fun e w'' => e = .returned v ∧ C w'') (h : WQ P ops C Q rest (a.put o.dst v)) : WQ P ops C Q (o :: rest) a := by
  constructor
  unfold wpQuiet
  rw [if_pos hw]
  exact ⟨v, fun w hw => by unfold Oper.quietAt; rw [he w hw]; exact ⟨rfl, hc w hw⟩, h.out⟩
/-- A call whose contract says: this value, old memory as it was. -/
theorem q_call_below {W : World} (v : Value) (f : FuncId) (args : Array Value) (hw : Region.wanted o (yielded ops a.tmps) = true) (hc : ∀ w, Calls P f args w fun e w'' => e = .returned v ∧ Below w.heap.size w w'')
    (he : ∀ w, Below W.heap.size W w → (execOp a.eval o).run P w = .ok (.enter f args) w)
    (h : WQ P ops (fun w' => Below W.heap.size W w') Q rest (a.put o.dst v)) : WQ P ops (fun w' => Below W.heap.size W w') Q (o :: rest) a :=
  q_call v f args hw he (fun w hw => (hc w).mono fun _ _ ⟨h1, h2⟩ => ⟨h1, below_then hw h2⟩) h
/-- .. that says: this value, the very world. -/
theorem q_call_same {W : World} (v : Value) (f : FuncId) (args : Array Value) (hw : Region.wanted o (yielded ops a.tmps) = true) (hc : ∀ w, Calls P f args w fun e w'' => e = .returned v ∧ w = w'')
    (he : ∀ w, Below W.heap.size W w → (execOp a.eval o).run P w = .ok (.enter f args) w)
    (h : WQ P ops (fun w' => Below W.heap.size W w') Q rest (a.put o.dst v)) : WQ P ops (fun w' => Below W.heap.size W w') Q (o :: rest) a :=
  q_call v f args hw he (fun w hw => (hc w).mono fun _ _ ⟨h1, h2⟩ => ⟨h1, h2 ▸ hw⟩) h
/-- A whole aggregate is loaded. -/
theorem q_load_part {W : World} (hw : Region.wanted o (yielded ops a.tmps) = true) (ty : TypeId) (x : Operand) (ho : o.op = .load ty x)
    (g off : Nat) (hx : a.eval x = .pointer (some ⟨g, off, none⟩)) (t : TypeId) (cs : Array Value) (d : TypeDesc) (n : Nat) (hg : W.heap[g]? = some (.cells cs t (0, 0)))
    (hu : P.underlying ty = some d) (hd : (match d with | .struct _ | .array _ _ => true | _ => false) = true) (hi : (P.info? ty).map (·.size) = some n) (hn : off + n ≤ cs.size)
    (B : Array Value) (hB : cs.extract off (off + n) = B)
    (h : WQ P ops (fun w' => Below W.heap.size W w') Q rest (a.put o.dst (.agg B))) : WQ P ops (fun w' => Below W.heap.size W w') Q (o :: rest) a :=
  q_val (.agg B) hw (fun w hC => by
    unfold execOp
    simp only [ho, hx, Instr.loadAt, Instr.sureAddr, Sem.run_bind, Sem.run_pure, Result.andThen_ok, run_loadVar_part w g off t ty cs (0, 0) d n (kept hC hg) hu hd hi hn, hB]) h
theorem at_qload (T : TypeId) {d : Option Tmp} {x : Operand} {ty : TypeId} {pos : String} {af : Array Edge} {gd : Option (Nat × Bool)}
    (h : WQ P ops C Q (⟨d, .load T x, ty, pos, af, gd⟩ :: rest) a) : WQ P ops C Q (⟨d, .load T x, ty, pos, af, gd⟩ :: rest) a := h
theorem at_qcall (f : FuncId) {d : Option Tmp} {ags : Array Operand} {ts : Array TypeId} {ty : TypeId} {pos : String} {af : Array Edge} {gd : Option (Nat × Bool)}
    (h : WQ P ops C Q (⟨d, .call { callee := .value (.func f), args := ags, argTypes := ts }, ty, pos, af, gd⟩ :: rest) a) : WQ P ops C Q (⟨d, .call { callee := .value (.func f), args := ags, argTypes := ts }, ty, pos, af, gd⟩ :: rest) a := h
end
end Go.Proofs.Ytmjfbilhalkegaa
/-! A region that draws its order and ends in one operation that waits for all the others (a store): one walk in the text's order serves every order. No condition. -/
namespace Go.Proofs.Ytmjfbilhalkegaa
set_option linter.unusedVariables false
set_option linter.unusedSimpArgs false
open Go.RowKit

/-- The last operation, made idle. -/
def idle (st : Oper) : Oper := { st with op := .move (.const undef) }
/-- Does the last operation wait for each of the first n? -/
def waitsAll (l : List Oper) (n : Nat) (st : Oper) : Bool := (List.range n).all fun i => st.after.any fun e => Region.binds .any e && (e.on == i || (match l[e.on]? with | some o => o.after.any (fun d => Region.binds .any d && d.on == i) | none => false))
/-- Does every operation wait for earlier ones alone? -/
def backB (ops : Array Oper) : Bool := (List.range ops.size).all fun k => match ops[k]? with | some o => o.after.all fun e => decide (e.on < k) | none => true

section
variable {P : Program} {C : World → Prop} {Q' : Exit → Act → World → Prop} {l : List Oper} {st : Oper}

theorem get_head {i : Nat} (h : i < l.length) (x : Oper) : (l ++ [x]).toArray[i]? = l[i]? := by
  rw [List.getElem?_toArray, List.getElem?_append_left h]
theorem get_last (x : Oper) : (l ++ [x]).toArray[l.length]? = some x := by
  rw [List.getElem?_toArray, List.getElem?_append_right (Nat.le_refl _)]
  simp
theorem get_none {i : Nat} (h : l.length < i) (x : Oper) : (l ++ [x]).toArray[i]? = none := by
  rw [List.getElem?_toArray]
  simp
  omega

theorem get_cases (i : Nat) (x y : Oper) : (i < l.length ∧ (l ++ [x]).toArray[i]? = (l ++ [y]).toArray[i]?) ∨ (i = l.length) ∨ (l.length < i) := by
  rcases Nat.lt_trichotomy i l.length with h | h | h
  · exact .inl ⟨h, by rw [get_head h, get_head h]⟩
  · exact .inr (.inl h)
  · exact .inr (.inr h)

theorem yielded_idle (t : Array Value) : yielded (l ++ [st]).toArray t = yielded (l ++ [idle st]).toArray t := by
  funext j
  unfold yielded
  rcases get_cases (l := l) j st (idle st) with ⟨_, h⟩ | h | h
  · rw [h]
  · subst h; rw [get_last, get_last]; rfl
  · rw [get_none h, get_none h]

theorem ready_idle (listed : Array Bool) : Region.ready .any (l ++ [st]).toArray listed = Region.ready .any (l ++ [idle st]).toArray listed := by
  unfold Region.ready
  have hs : (l ++ [st]).toArray.size = (l ++ [idle st]).toArray.size := by simp
  rw [hs]
  congr 1
  funext i
  rcases get_cases (l := l) i st (idle st) with ⟨_, h⟩ | h | h
  · rw [h]
  · subst h; rw [get_last, get_last]; rfl
  · rw [get_none h, get_none h]

/-- While something is left, something may come up. -/
theorem some_ready {ops : Array Oper} (hb : backB ops = true) {listed : Array Bool} (hsz : listed.size = ops.size) : ∀ (i : Nat), i < ops.size → listed.getD i true = false → Region.ready .any ops listed ≠ [] := by
  intro i
  induction i using Nat.strongRecOn with
  | _ i ih =>
    intro hi hun hr
    by_cases hex : ∃ j, j < i ∧ listed.getD j true = false
    · obtain ⟨j, hj, hju⟩ := hex
      exact ih j hj (by omega) hju hr
    · have hmem : i ∈ Region.ready .any ops listed := by
        rw [mem_ready]
        refine ⟨hun, ops[i], Array.getElem?_eq_getElem hi, fun e he _ => ?_⟩
        have h1 := List.all_eq_true.1 hb i (List.mem_range.2 hi)
        rw [Array.getElem?_eq_getElem hi] at h1
        simp only at h1
        have h2 := Array.all_eq_true_iff_forall_mem.1 h1 e he
        have hlt : e.on < i := by simpa using h2
        have h3 : ¬ listed.getD e.on true = false := fun h => hex ⟨e.on, hlt, h⟩
        have hls : e.on < listed.size := by omega
        simp only [Array.getD, hls, dif_pos] at h3 ⊢
        simpa using h3
      rw [hr] at hmem
      cases hmem

theorem set_getD {listed : Array Bool} {i j : Nat} (h : i ≠ j) (d : Bool) : (listed.setIfInBounds i true).getD j d = listed.getD j d := by
  simp only [Array.getD_eq_getD_getElem?, Array.getElem?_setIfInBounds_ne h]

/-- What is listed has its own listed. -/
def closedIn (ops : Array Oper) (listed : Array Bool) : Prop := ∀ (j : Nat) (o : Oper), listed.getD j false = true → ops[j]? = some o → ∀ e ∈ o.after, Region.binds .any e = true → listed.getD e.on false = true
theorem closedIn_set {ops : Array Oper} {listed : Array Bool} {i : Nat} {o : Oper} (h : closedIn ops listed) (ho : ops[i]? = some o) (hall : ∀ e ∈ o.after, Region.binds .any e = true → listed.getD e.on false = true) : closedIn ops (listed.setIfInBounds i true) := by
  have hup : ∀ j, listed.getD j false = true → (listed.setIfInBounds i true).getD j false = true := fun j hj => by
    by_cases e : i = j
    · subst e
      have hlt : i < listed.size := by
        rcases Nat.lt_or_ge i listed.size with h' | h'
        · exact h'
        · simp [Array.getD_eq_getD_getElem?, Array.getElem?_eq_none h'] at hj
      simp [Array.getD_eq_getD_getElem?, hlt]
    · rw [set_getD e]; exact hj
  intro j x hj hx e he hb
  by_cases e1 : i = j
  · subst e1
    rw [ho] at hx
    injection hx with hx
    subst hx
    exact hup _ (hall e he hb)
  · rw [set_getD e1] at hj
    exact hup _ (h j x hj hx e he hb)

theorem any_of_tail (hgd : st.guard = none) (hwa : waitsAll l l.length st = true) (hb : backB (l ++ [st]).toArray = true) :
    ∀ (f : Nat) (listed : Array Bool) (a : Act) (w : World), C w → listed.size = l.length + 1 → listed.getD l.length true = false →
      wpAnyQ P .any (l ++ [idle st]).toArray C (fun a' => ∀ w', C w' → st.wp P a' w' (fun a w => Q' .normal a w) Q') f listed a →
      st.dst = none → closedIn (l ++ [st]).toArray listed → wpAny P .any (l ++ [st]).toArray Q' f listed a w := by
  intro f
  induction f with
  | zero =>
    intro listed a w _ hsz hun h _ _
    exact absurd (by rw [ready_idle]; exact h.1) (some_ready hb (by simp [hsz]) l.length (by simp) hun)
  | succ f ih =>
    intro listed a w hC hsz hun h hd hcl
    refine ⟨fun h0 => absurd h0 (some_ready hb (by simp [hsz]) l.length (by simp) hun), fun i hi => ?_⟩
    have hq := h.2 i (by rw [← ready_idle]; exact hi)
    by_cases hin : i = l.length
    · subst hin
      -- all the others have come up
      obtain ⟨_, o, ho, hall⟩ := mem_ready.1 hi
      rw [get_last] at ho
      injection ho with ho
      subst ho
      have hlist : ∀ j, j < l.length → listed.getD j false = true := fun j hj => by
        have h1 := List.all_eq_true.1 hwa j (List.mem_range.2 hj)
        obtain ⟨e, he, hb'⟩ := Array.any_eq_true'.1 h1
        simp only [Bool.and_eq_true, Bool.or_eq_true, beq_iff_eq] at hb'
        rcases hb'.2 with h2 | h2
        · rw [← h2]
          exact hall e he hb'.1
        · cases hx : l[e.on]? with
          | none => rw [hx] at h2; cases h2
          | some x =>
            rw [hx] at h2
            obtain ⟨d, hdm, hdb⟩ := Array.any_eq_true'.1 h2
            simp only [Bool.and_eq_true, beq_iff_eq] at hdb
            rw [← hdb.2]
            have hlt : e.on < l.length := (List.getElem?_eq_some_iff.1 hx).1
            exact hcl e.on x (hall e he hb'.1) (by rw [get_head hlt]; exact hx) d hdm hdb.1
      have hrn : Region.ready .any (l ++ [st]).toArray (listed.setIfInBounds l.length true) = [] := by
        rw [List.eq_nil_iff_forall_not_mem]
        intro k hk
        obtain ⟨hku, ok, hok, _⟩ := mem_ready.1 hk
        rcases Nat.lt_trichotomy k l.length with h' | h' | h'
        · rw [set_getD (by omega)] at hku
          have := hlist k h'
          have hks : k < listed.size := by omega
          simp only [Array.getD, hks, dif_pos] at hku this
          rw [hku] at this
          cases this
        · subst h'
          have : l.length < listed.size := by omega
          simp [Array.getD_eq_getD_getElem?, this] at hku
        · rw [get_none h'] at hok
          cases hok
      have hQT : ∀ w', C w' → st.wp P a w' (fun a w => Q' .normal a w) Q' := by
        unfold qOp at hq
        rw [get_last] at hq
        simp only [Region.wanted, idle, hgd, if_true] at hq
        obtain ⟨v, _, hq'⟩ := hq
        have hput : a.put none v = a := rfl
        dsimp only at hq'
        rw [hd, hput] at hq'
        rw [ready_idle] at hrn
        cases f with
        | zero => exact hq'.2
        | succ f =>
          have hid : idle st = { dst := none, op := Op.move (Operand.const undef), type := st.type, pos := st.pos, after := st.after, guard := none } := by
            unfold idle
            rw [hd, hgd]
          rw [hid] at hrn
          exact hq'.1 hrn
      unfold wpOp
      rw [get_last]
      simp only [Region.wanted, hgd, if_true]
      refine .inl (Oper.wp_mono (fun a' w' hn => ?_) (hQT w hC))
      cases f with
      | zero => exact ⟨hrn, hn⟩
      | succ f => exact ⟨fun _ => hn, fun j hj => by rw [hrn] at hj; cases hj⟩
    · have hil : i < l.length := by
        obtain ⟨_, o, ho, _⟩ := mem_ready.1 hi
        rcases Nat.lt_trichotomy i l.length with h' | h' | h'
        · exact h'
        · exact absurd h' hin
        · rw [get_none h'] at ho; cases ho
      have hq2 : qOp P (l ++ [st]).toArray C i (wpAnyQ P .any (l ++ [idle st]).toArray C (fun a' => ∀ w', C w' → st.wp P a' w' (fun a w => Q' .normal a w) Q') f (listed.setIfInBounds i true)) a := by
        unfold qOp at hq ⊢
        rw [get_head hil] at hq ⊢
        rw [yielded_idle]
        exact hq
      exact wpOp_of_qOp hC (fun a' w' hw' hh => ih _ a' w' hw' (by simp [hsz]) (by rw [set_getD hin]; exact hun) hh hd (by
        obtain ⟨_, o, ho, hall⟩ := mem_ready.1 hi
        exact closedIn_set hcl ho hall)) hq2

theorem wpQuiet_snoc {ops : Array Oper} {Q : Act → Prop} {o : Oper} : ∀ (l : List Oper) (a : Act), wpQuiet P ops C (wpQuiet P ops C Q [o]) l a → wpQuiet P ops C Q (l ++ [o]) a
  | [], _, h => h
  | x :: l, a, h => by
    show wpQuiet P ops C Q (x :: (l ++ [o])) a
    unfold wpQuiet at h ⊢
    split
    · rename_i hw
      rw [if_pos hw] at h
      obtain ⟨v, h1, h2⟩ := h
      exact ⟨v, h1, wpQuiet_snoc l _ h2⟩
    · rename_i hw
      rw [if_neg hw] at h
      exact wpQuiet_snoc l _ h

theorem wp_region_tail {id : Nat} {a : Act} {w : World} {L : List Oper} (n : Nat) (hL : L = L.take n ++ [L.getD n default]) (hn : (L.take n).length = n) (hm : P.follows .mixedOrders = true)
    (hB : Region.lexB .any (L.take n ++ [idle (L.getD n default)]).toArray = true) (hgd : (L.getD n default).guard = none) (hd : (L.getD n default).dst = none) (hwa : waitsAll (L.take n) n (L.getD n default) = true) (hb : backB L.toArray = true)
    (h : WQ P (L.take n ++ [idle (L.getD n default)]).toArray (fun w' => Below w.heap.size w w') (fun a' => ∀ w', Below w.heap.size w w' → (L.getD n default).wp P a' w' (fun a w => Q' .normal a w) Q') (L.take n) a) : (Code.region id L.toArray true).wp P Q' a w := by
  generalize L.take n = l at *
  generalize L.getD n default = st at *
  subst hL
  subst hn
  refine wp_region_any hm ?_
  simp only [Region.lexB, Bool.and_eq_true] at hB
  have hq : wpQuiet P (l ++ [idle st]).toArray (fun w' => Below w.heap.size w w') (fun a' => ∀ w', Below w.heap.size w w' → st.wp P a' w' (fun a w => Q' .normal a w) Q') (l ++ [idle st]) a := by
    refine wpQuiet_snoc l a ?_
    have hstep : ∀ (l' : List Oper) (a' : Act), wpQuiet P (l ++ [idle st]).toArray (fun w' => Below w.heap.size w w') (fun a' => ∀ w', Below w.heap.size w w' → st.wp P a' w' (fun a w => Q' .normal a w) Q') l' a' →
        wpQuiet P (l ++ [idle st]).toArray (fun w' => Below w.heap.size w w') (wpQuiet P (l ++ [idle st]).toArray (fun w' => Below w.heap.size w w') (fun a' => ∀ w', Below w.heap.size w w' → st.wp P a' w' (fun a w => Q' .normal a w) Q') [idle st]) l' a' := by
      intro l'
      induction l' with
      | nil =>
        intro a' h'
        show (if Region.wanted (idle st) (yielded (l ++ [idle st]).toArray a'.tmps) = true then _ else _)
        have hw : Region.wanted (idle st) (yielded (l ++ [idle st]).toArray a'.tmps) = true := by simp [Region.wanted, idle, hgd]
        rw [if_pos hw]
        refine ⟨undef, fun w' _ => ⟨rfl, rfl⟩, ?_⟩
        show (∀ w', Below w.heap.size w w' → st.wp P (a'.put st.dst undef) w' (fun a w => Q' .normal a w) Q')
        rw [hd]
        exact h'
      | cons x l' ihl =>
        intro a' h'
        unfold wpQuiet at h' ⊢
        split
        · rename_i hw
          rw [if_pos hw] at h'
          obtain ⟨v, h1, h2⟩ := h'
          exact ⟨v, h1, ihl _ h2⟩
        · rename_i hw
          rw [if_neg hw] at h'
          exact ihl _ h'
    exact hstep l a h.out
  have hlex := wpAnyQ_lex (P := P) (C := fun w' => Below w.heap.size w w') (md := .any) hB.1 (l ++ [idle st]) 0 (Array.replicate (l ++ [idle st]).toArray.size false) a (by simp) (by simpa using hB.2) hq
  have hsz : (l ++ [st]).toArray.size = (l ++ [idle st]).length := by simp
  rw [hsz]
  refine any_of_tail (C := fun w' => Below w.heap.size w w') hgd hwa hb _ _ a _ (Below.drew (Below.refl _ _)) (by simp) ?_ (by simpa using hlex) hd (fun j o hj => by
    exfalso
    rw [Array.getD_eq_getD_getElem?, Array.getElem?_replicate] at hj
    split at hj <;> cases hj)
  simp [Array.getD_eq_getD_getElem?]
end
end Go.Proofs.Ytmjfbilhalkegaa
/-! As the text on the end of a region that draws its order: here the last operation may wait for the others through several between. No condition. -/
namespace Go.Proofs.Ytmjfbilhalkegaa
set_option linter.unusedVariables false
set_option linter.unusedSimpArgs false
open Go.RowKit

/-- Does operation k wait for i, through at most f others? -/
def reachB (l : List Oper) : Nat → Nat → Nat → Bool
  | 0, k, i => k == i
  | f + 1, k, i => k == i || (match l[k]? with | some o => o.after.any (fun d => Region.binds .any d && reachB l f d.on i) | none => false)
def waitsDeep (l : List Oper) (n : Nat) (st : Oper) : Bool := (List.range n).all fun i => st.after.any fun e => Region.binds .any e && reachB l 8 e.on i

section
variable {P : Program} {C : World → Prop} {Q' : Exit → Act → World → Prop} {l : List Oper} {st : Oper}
theorem reach_listed {listed : Array Bool} (hcl : closedIn (l ++ [st]).toArray listed) : ∀ (f k i : Nat), listed.getD k false = true → reachB l f k i = true → listed.getD i false = true
  | 0, k, i, h, hr => by
    have : k = i := by simpa [reachB] using hr
    exact this ▸ h
  | f + 1, k, i, h, hr => by
    unfold reachB at hr
    rw [Bool.or_eq_true] at hr
    rcases hr with h2 | h2
    · have : k = i := by simpa using h2
      exact this ▸ h
    · cases hx : l[k]? with
      | none => rw [hx] at h2; cases h2
      | some x =>
        rw [hx] at h2
        obtain ⟨d, hdm, hdb⟩ := Array.any_eq_true'.1 h2
        rw [Bool.and_eq_true] at hdb
        have hlt : k < l.length := (List.getElem?_eq_some_iff.1 hx).1
        exact reach_listed hcl f d.on i (hcl k x h (by rw [get_head hlt]; exact hx) d hdm hdb.1) hdb.2

theorem any_of_tail2 (hgd : st.guard = none) (hwa : waitsDeep l l.length st = true) (hb : backB (l ++ [st]).toArray = true) :
    ∀ (f : Nat) (listed : Array Bool) (a : Act) (w : World), C w → listed.size = l.length + 1 → listed.getD l.length true = false →
      wpAnyQ P .any (l ++ [idle st]).toArray C (fun a' => ∀ w', C w' → st.wp P a' w' (fun a w => Q' .normal a w) Q') f listed a →
      st.dst = none → closedIn (l ++ [st]).toArray listed → wpAny P .any (l ++ [st]).toArray Q' f listed a w := by
  intro f
  induction f with
  | zero =>
    intro listed a w _ hsz hun h _ _
    exact absurd (by rw [ready_idle]; exact h.1) (some_ready hb (by simp [hsz]) l.length (by simp) hun)
  | succ f ih =>
    intro listed a w hC hsz hun h hd hcl
    refine ⟨fun h0 => absurd h0 (some_ready hb (by simp [hsz]) l.length (by simp) hun), fun i hi => ?_⟩
    have hq := h.2 i (by rw [← ready_idle]; exact hi)
    by_cases hin : i = l.length
    · subst hin
      -- all the others have come up
      obtain ⟨_, o, ho, hall⟩ := mem_ready.1 hi
      rw [get_last] at ho
      injection ho with ho
      subst ho
      have hlist : ∀ j, j < l.length → listed.getD j false = true := fun j hj => by
        have h1 := List.all_eq_true.1 hwa j (List.mem_range.2 hj)
        obtain ⟨e, he, hb'⟩ := Array.any_eq_true'.1 h1
        simp only [Bool.and_eq_true] at hb'
        exact reach_listed hcl 8 e.on j (hall e he hb'.1) hb'.2
      have hrn : Region.ready .any (l ++ [st]).toArray (listed.setIfInBounds l.length true) = [] := by
        rw [List.eq_nil_iff_forall_not_mem]
        intro k hk
        obtain ⟨hku, ok, hok, _⟩ := mem_ready.1 hk
        rcases Nat.lt_trichotomy k l.length with h' | h' | h'
        · rw [set_getD (by omega)] at hku
          have := hlist k h'
          have hks : k < listed.size := by omega
          simp only [Array.getD, hks, dif_pos] at hku this
          rw [hku] at this
          cases this
        · subst h'
          have : l.length < listed.size := by omega
          simp [Array.getD_eq_getD_getElem?, this] at hku
        · rw [get_none h'] at hok
          cases hok
      have hQT : ∀ w', C w' → st.wp P a w' (fun a w => Q' .normal a w) Q' := by
        unfold qOp at hq
        rw [get_last] at hq
        simp only [Region.wanted, idle, hgd, if_true] at hq
        obtain ⟨v, _, hq'⟩ := hq
        have hput : a.put none v = a := rfl
        dsimp only at hq'
        rw [hd, hput] at hq'
        rw [ready_idle] at hrn
        cases f with
        | zero => exact hq'.2
        | succ f =>
          have hid : idle st = { dst := none, op := Op.move (Operand.const undef), type := st.type, pos := st.pos, after := st.after, guard := none } := by
            unfold idle
            rw [hd, hgd]
          rw [hid] at hrn
          exact hq'.1 hrn
      unfold wpOp
      rw [get_last]
      simp only [Region.wanted, hgd, if_true]
      refine .inl (Oper.wp_mono (fun a' w' hn => ?_) (hQT w hC))
      cases f with
      | zero => exact ⟨hrn, hn⟩
      | succ f => exact ⟨fun _ => hn, fun j hj => by rw [hrn] at hj; cases hj⟩
    · have hil : i < l.length := by
        obtain ⟨_, o, ho, _⟩ := mem_ready.1 hi
        rcases Nat.lt_trichotomy i l.length with h' | h' | h'
        · exact h'
        · exact absurd h' hin
        · rw [get_none h'] at ho; cases ho
      have hq2 : qOp P (l ++ [st]).toArray C i (wpAnyQ P .any (l ++ [idle st]).toArray C (fun a' => ∀ w', C w' → st.wp P a' w' (fun a w => Q' .normal a w) Q') f (listed.setIfInBounds i true)) a := by
        unfold qOp at hq ⊢
        rw [get_head hil] at hq ⊢
        rw [yielded_idle]
        exact hq
      exact wpOp_of_qOp hC (fun a' w' hw' hh => ih _ a' w' hw' (by simp [hsz]) (by rw [set_getD hin]; exact hun) hh hd (by
        obtain ⟨_, o, ho, hall⟩ := mem_ready.1 hi
        exact closedIn_set hcl ho hall)) hq2

theorem wp_region_tail2 {id : Nat} {a : Act} {w : World} {L : List Oper} (n : Nat) (hL : L = L.take n ++ [L.getD n default]) (hn : (L.take n).length = n) (hm : P.follows .mixedOrders = true)
    (hB : Region.lexB .any (L.take n ++ [idle (L.getD n default)]).toArray = true) (hgd : (L.getD n default).guard = none) (hd : (L.getD n default).dst = none) (hwa : waitsDeep (L.take n) n (L.getD n default) = true) (hb : backB L.toArray = true)
    (h : WQ P (L.take n ++ [idle (L.getD n default)]).toArray (fun w' => Below w.heap.size w w') (fun a' => ∀ w', Below w.heap.size w w' → (L.getD n default).wp P a' w' (fun a w => Q' .normal a w) Q') (L.take n) a) : (Code.region id L.toArray true).wp P Q' a w := by
  generalize L.take n = l at *
  generalize L.getD n default = st at *
  subst hL
  subst hn
  refine wp_region_any hm ?_
  simp only [Region.lexB, Bool.and_eq_true] at hB
  have hq : wpQuiet P (l ++ [idle st]).toArray (fun w' => Below w.heap.size w w') (fun a' => ∀ w', Below w.heap.size w w' → st.wp P a' w' (fun a w => Q' .normal a w) Q') (l ++ [idle st]) a := by
    refine wpQuiet_snoc l a ?_
    have hstep : ∀ (l' : List Oper) (a' : Act), wpQuiet P (l ++ [idle st]).toArray (fun w' => Below w.heap.size w w') (fun a' => ∀ w', Below w.heap.size w w' → st.wp P a' w' (fun a w => Q' .normal a w) Q') l' a' →
        wpQuiet P (l ++ [idle st]).toArray (fun w' => Below w.heap.size w w') (wpQuiet P (l ++ [idle st]).toArray (fun w' => Below w.heap.size w w') (fun a' => ∀ w', Below w.heap.size w w' → st.wp P a' w' (fun a w => Q' .normal a w) Q') [idle st]) l' a' := by
      intro l'
      induction l' with
      | nil =>
        intro a' h'
        show (if Region.wanted (idle st) (yielded (l ++ [idle st]).toArray a'.tmps) = true then _ else _)
        have hw : Region.wanted (idle st) (yielded (l ++ [idle st]).toArray a'.tmps) = true := by simp [Region.wanted, idle, hgd]
        rw [if_pos hw]
        refine ⟨undef, fun w' _ => ⟨rfl, rfl⟩, ?_⟩
        show (∀ w', Below w.heap.size w w' → st.wp P (a'.put st.dst undef) w' (fun a w => Q' .normal a w) Q')
        rw [hd]
        exact h'
      | cons x l' ihl =>
        intro a' h'
        unfold wpQuiet at h' ⊢
        split
        · rename_i hw
          rw [if_pos hw] at h'
          obtain ⟨v, h1, h2⟩ := h'
          exact ⟨v, h1, ihl _ h2⟩
        · rename_i hw
          rw [if_neg hw] at h'
          exact ihl _ h'
    exact hstep l a h.out
  have hlex := wpAnyQ_lex (P := P) (C := fun w' => Below w.heap.size w w') (md := .any) hB.1 (l ++ [idle st]) 0 (Array.replicate (l ++ [idle st]).toArray.size false) a (by simp) (by simpa using hB.2) hq
  have hsz : (l ++ [st]).toArray.size = (l ++ [idle st]).length := by simp
  rw [hsz]
  refine any_of_tail2 (C := fun w' => Below w.heap.size w w') hgd hwa hb _ _ a _ (Below.drew (Below.refl _ _)) (by simp) ?_ (by simpa using hlex) hd (fun j o hj => by
    exfalso
    rw [Array.getD_eq_getD_getElem?, Array.getElem?_replicate] at hj
    split at hj <;> cases hj)
  simp [Array.getD_eq_getD_getElem?]
end
end Go.Proofs.Ytmjfbilhalkegaa
