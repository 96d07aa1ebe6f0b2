/- A row of integers and bools as a value: what fits its types, cell by cell; how it comes out of an argument that came in. No condition. -/
import Derived.Test.YtmjfbilhalkegaaLib
import Derived.ProofKit
namespace Go.Proofs.Ytmjfbilhalkegaa
set_option linter.unusedVariables false
set_option linter.unusedSimpArgs false
open Go.RowKit

theorem cellF {w : World} {g : Nat} {A : Array Value} {t : TypeId} {fr : Nat × Nat} (h : w.heap[g]? = some (.cells A t fr)) : ∀ j, w.cell? ⟨g, j, none⟩ = A[j]? := fun j => cell_of_row w g j A t fr h
theorem at_world {P : Program} {C : Code} {Q : Exit → Act → World → Prop} {a : Act} {W : World} (h : ∀ w3, w3 = W → C.wp P Q a w3) : C.wp P Q a W := h W rfl
theorem below_drawn {w w1 : World} {B n : Nat} (h : Below B w w1) : Below B w { w1 with drawn := n } := ⟨h.1, h.2, h.3, h.size, h.block⟩
theorem set_grown (w : World) (g i : Nat) (v : Value) : w.grownBy (w.setCell ⟨g, i, none⟩ v) (some g) :=
  ⟨rfl, rfl, rfl, by simp [World.setCell], fun k _ hk => by rw [heap_setCell_other w ⟨g, i, none⟩ k v (fun e => hk (by rw [e]))]⟩

/-- The value fits: an integer of that kind within its bounds; or a bool. -/
def fitsK : Option IntKind → Value → Prop
  | some k, v => ∃ n : Int, v = .int k n ∧ k.min ≤ n ∧ n ≤ k.max
  | none, v => ∃ b : Bool, v = .bool b
def Rowk (ks : List (Option IntKind)) (A : Array Value) : Prop := A.size = ks.length ∧ ∀ (i : Nat) (k : Option IntKind), ks[i]? = some k → ∃ v : Value, A[i]? = some v ∧ fitsK k v

theorem Rowk.isN {ks : List (Option IntKind)} {A : Array Value} (h : Rowk ks A) {i : Nat} {k : IntKind} (hi : ks[i]? = some (some k)) : IsN A k i := by
  obtain ⟨v, hv, n, rfl, h1⟩ := h.2 i _ hi
  exact IsN_of hv h1
theorem Rowk.isB {ks : List (Option IntKind)} {A : Array Value} (h : Rowk ks A) {i : Nat} (hi : ks[i]? = some none) : IsB A i := by
  obtain ⟨v, hv, b, rfl⟩ := h.2 i _ hi
  exact IsB_of hv
theorem Rowk.set {ks : List (Option IntKind)} {A : Array Value} (h : Rowk ks A) {i : Nat} {k : Option IntKind} {v : Value} (hi : ks[i]? = some k) (hv : fitsK k v) : Rowk ks (A.setIfInBounds i v) := by
  refine ⟨by simp [h.1], fun j k' hj => ?_⟩
  have hlt : i < A.size := by rw [h.1]; exact (List.getElem?_eq_some_iff.1 hi).1
  by_cases e : i = j
  · subst e
    rw [hi] at hj
    injection hj with hj
    subst hj
    exact ⟨v, by simp [hlt], hv⟩
  · obtain ⟨u, hu, hf⟩ := h.2 j k' hj
    exact ⟨u, by rw [Array.getElem?_setIfInBounds_ne e]; exact hu, hf⟩
theorem Rowk.extract {ks : List (Option IntKind)} {A : Array Value} (h : Rowk ks A) (a b : Nat) (hb : b ≤ ks.length) : Rowk ((ks.take b).drop a) (A.extract a b) := by
  refine ⟨by simp [h.1], fun i k hi => ?_⟩
  rw [List.getElem?_drop, List.getElem?_take] at hi
  split at hi
  · rename_i hlt
    obtain ⟨v, hv, hf⟩ := h.2 _ _ hi
    exact ⟨v, by rw [Array.getElem?_extract, if_pos (by rw [h.1]; omega)]; exact hv, hf⟩
  · simp at hi
theorem Rowk.one {ks : List (Option IntKind)} {A : Array Value} (h : Rowk ks A) : A.all (·.oneCell') = true := by
  refine all_one fun i v hv => ?_
  have hlt : i < ks.length := by rw [← h.1]; exact (Array.getElem?_eq_some_iff.1 hv).1
  obtain ⟨u, hu, hf⟩ := h.2 i _ (List.getElem?_eq_getElem hlt)
  rw [hv] at hu
  injection hu with hu
  subst hu
  cases hk : ks[i] with
  | none => rw [hk] at hf; obtain ⟨b, rfl⟩ := hf; rfl
  | some k => rw [hk] at hf; obtain ⟨n, rfl, _⟩ := hf; rfl

theorem N_set {A : Array Value} {i j : Nat} {v : Value} (hi : i < A.size) : N (A.setIfInBounds i v) j = if i = j then (match v with | .int _ n => n | _ => 0) else N A j := by
  unfold N
  by_cases e : i = j
  · subst e; simp [hi]; cases v <;> rfl
  · rw [Array.getElem?_setIfInBounds_ne e, if_neg e]
theorem Bo_set {A : Array Value} {i j : Nat} {v : Value} (hi : i < A.size) : Bo (A.setIfInBounds i v) j = if i = j then (match v with | .bool b => b | _ => false) else Bo A j := by
  unfold Bo
  by_cases e : i = j
  · subst e; simp [hi]; cases v <;> rfl
  · rw [Array.getElem?_setIfInBounds_ne e, if_neg e]
theorem extract_set_out {A : Array Value} {a b i : Nat} {v : Value} (h : i < a ∨ b ≤ i) : (A.setIfInBounds i v).extract a b = A.extract a b := by
  apply Array.ext_getElem?
  intro j
  rw [Array.getElem?_extract, Array.getElem?_extract]
  simp only [Array.size_setIfInBounds]
  split
  · rw [Array.getElem?_setIfInBounds_ne (by omega)]
  · rfl
theorem extract_set_in {A : Array Value} {a b i : Nat} {v : Value} (h1 : a ≤ i) (h2 : i < b) (hb : b ≤ A.size) : (A.setIfInBounds i v).extract a b = (A.extract a b).setIfInBounds (i - a) v := by
  apply Array.ext_getElem?
  intro j
  rw [Array.getElem?_extract]
  simp only [Array.size_setIfInBounds]
  by_cases e : i - a = j
  · subst e
    rw [if_pos (by omega), show a + (i - a) = i by omega, Array.getElem?_setIfInBounds_self_of_lt (by omega), Array.getElem?_setIfInBounds_self_of_lt (by simp; omega)]
  · rw [Array.getElem?_setIfInBounds_ne e, Array.getElem?_extract]
    split
    · rw [Array.getElem?_setIfInBounds_ne (by omega)]
    · rfl

/-- A row with a part of it written over. -/
def splice (A : Array Value) (off : Nat) (S : Array Value) : Array Value := (A.toList.take off ++ S.toList ++ A.toList.drop (off + S.size)).toArray
theorem splice_get {A S : Array Value} {off i : Nat} (h : off + S.size ≤ A.size) : (splice A off S)[i]? = if off ≤ i ∧ i < off + S.size then S[i - off]? else A[i]? := by
  unfold splice
  rw [List.getElem?_toArray, List.append_assoc, List.getElem?_append, List.getElem?_append]
  simp only [List.length_take, Array.length_toList, Nat.min_eq_left (show off ≤ A.size by omega)]
  by_cases h1 : i < off
  · rw [if_pos h1, if_neg (by omega), List.getElem?_take, if_pos h1, Array.getElem?_toList]
  · rw [if_neg h1]
    by_cases h2 : i < off + S.size
    · rw [if_pos (by omega), if_pos ⟨by omega, h2⟩, Array.getElem?_toList]
    · rw [if_neg (by omega), if_neg (by omega), List.getElem?_drop, Array.getElem?_toList, show off + S.size + (i - off - S.size) = i by omega]
theorem splice_size {A S : Array Value} {off : Nat} (h : off + S.size ≤ A.size) : (splice A off S).size = A.size := by
  unfold splice; simp; omega
theorem Rowk.splice {ks ls : List (Option IntKind)} {A S : Array Value} (h : Rowk ks A) (hs : Rowk ls S) {off : Nat} (hl : (ks.drop off).take ls.length = ls) (ho : off + ls.length ≤ ks.length) : Rowk ks (splice A off S) := by
  have hle : off + S.size ≤ A.size := by rw [h.1, hs.1]; exact ho
  refine ⟨by rw [splice_size hle, h.1], fun i k hi => ?_⟩
  rw [splice_get hle]
  split
  · rename_i hh
    rw [hs.1] at hh
    refine hs.2 _ _ ?_
    rw [← hl, List.getElem?_take, if_pos (by omega), List.getElem?_drop, show off + (i - off) = i by omega]
    exact hi
  · exact h.2 _ _ hi

section
variable {P : Program}
theorem heap_new {W : World} {o : Obj} {i : Nat} (h : i = W.heap.size) : (W.alloc o).heap[i]? = some o := by subst h; exact heap_alloc_new _ _
theorem heap_up {W : World} {o x : Obj} {i : Nat} (h : W.heap[i]? = some x) : (W.alloc o).heap[i]? = some x := by
  have hlt := (Array.getElem?_eq_some_iff.1 h).1
  show (W.heap.push o)[i]? = _
  rw [Array.getElem?_push, if_neg (by omega)]
  exact h
theorem heap_set {w : World} {g i : Nat} {cs : Array Value} {t : TypeId} {v : Value} (h : w.heap[g]? = some (.cells cs t (0, 0))) : (w.setCell ⟨g, i, none⟩ v).heap[g]? = some (.cells (cs.setIfInBounds i v) t (0, 0)) := heap_setCell_same w g i cs t v h
theorem heap_set_other {w : World} {g i k : Nat} {o : Obj} {v : Value} (h : w.heap[k]? = some o) (hne : k ≠ g) : (w.setCell ⟨g, i, none⟩ v).heap[k]? = some o := by
  rw [heap_setCell_other w ⟨g, i, none⟩ k v hne]; exact h
theorem extract_all {A : Array Value} {n : Nat} (h : A.size = n) : A.extract 0 n = A := by rw [← h]; simp

theorem run_storeVar_part (w : World) (g off : Nat) (t ty : TypeId) (cs S : Array Value) (hg : w.heap[g]? = some (.cells cs t (0, 0))) (hi : (P.info? ty).map (·.size) = some S.size)
    (hn : off + S.size ≤ cs.size) (h1 : S.all (·.oneCell') = true) : (storeVar ty ⟨g, off, none⟩ (.agg S)).run P w = .ok () (w.setRow g (splice cs off S)) := by
  have := run_storeCells_at P g off t S.toList 0 cs w hg (by simpa using hn) (fun v hv => (Array.all_eq_true_iff_forall_mem.1 h1) v (by simpa using hv))
  cases hq : P.info? ty with
  | none => simp [hq] at hi
  | some i =>
    have hs : S.size = i.size := by simp [hq] at hi; omega
    simp only [Nat.add_zero, Array.length_toList] at this
    simp [storeVar, sizeOf, typeInfo, hq, Value.cells, hs, this, splice]

/-- A whole aggregate is stored into a block, at a place: what is known of the world behind it. -/
theorem wpList_store_part {ops : Array Oper} {rest : List Oper} {o : Oper} {a : Act} {w : World} {Q : Exit → Act → World → Prop} (hgd : Region.wanted o (yielded ops a.tmps) = true) (ty : TypeId) (x y : Operand) (ho : o.op = .store ty x y)
    (g off : Nat) (S : Array Value) (hx : a.eval x = .pointer (some ⟨g, off, none⟩)) (hy : a.eval y = .agg S)
    (t : TypeId) (cs : Array Value) (hg : w.heap[g]? = some (.cells cs t (0, 0))) (hi : (P.info? ty).map (·.size) = some S.size)
    (hn : off + S.size ≤ cs.size) (h1 : S.all (·.oneCell') = true)
    (h : ∀ w1 : World, w1.heap[g]? = some (.cells (splice cs off S) t (0, 0)) → w1.heap.size = w.heap.size → (∀ k, k ≠ g → w1.heap[k]? = w.heap[k]?) → (∀ B, B ≤ g → Below B w w1) → wpList P ops Q rest (a.put o.dst undef) w1) : wpList P ops Q (o :: rest) a w :=
  wpList_step fun K hK => by
    rw [if_pos hgd]
    unfold Oper.wp execOp
    simp only [ho, hx, hy, Instr.storeAt, Instr.sureAddr, Sem.run_bind, Sem.run_pure, Result.andThen_ok, run_storeVar_part w g off t ty cs S hg hi hn h1]
    exact hK _ _ (h _ (setRow_heap w g cs _ t _ hg) (setRow_size _ _ _) (fun k hk => setRow_other w g k _ hk)
      (fun B hB => ⟨rfl, rfl, rfl, Nat.le_of_eq (setRow_size _ _ _).symm, fun k hk => setRow_other w g k _ (by omega)⟩))
end

/-- The kind of a cell's type. -/
def kindOf (P : Program) (t : TypeId) : Option (Option IntKind) := match P.underlying t with | some (.int k) => some (some k) | some .bool => some none | _ => none
theorem fits_cell {P : Program} {w : World} {r : Reach} {b : Nat} {t : TypeId} {v : Value} {k : Option IntKind} (hk : kindOf P t = some k) (h : Cell.okWide P w r b t v) : fitsK k v := by
  unfold kindOf at hk
  unfold Cell.okWide Cell.ok at h
  split at hk
  · rename_i k' hu
    injection hk with hk
    subst hk
    simp only [hu] at h
    cases v <;> simp_all
    obtain ⟨rfl, hh⟩ := h
    exact ⟨_, rfl, hh⟩
  · rename_i hu
    injection hk with hk
    subst hk
    simp only [hu] at h
    cases v <;> simp_all
    exact ⟨_, rfl⟩
  · simp at hk
theorem int_of_ok {P : Program} {w : World} {r : Reach} {b : Nat} {t : TypeId} {v : Value} {k : IntKind} (hu : P.underlying t = some (.int k)) (h : Value.okWide P w r b t v) : ∃ n : Int, v = .int k n ∧ k.min ≤ n ∧ n ≤ k.max := by
  have h' : Cell.okWide P w r b t v := by unfold Value.okWide at h; rw [hu] at h; exact h
  exact fits_cell (k := some k) (by simp [kindOf, hu]) h'
theorem bool_of_ok {P : Program} {w : World} {r : Reach} {b : Nat} {t : TypeId} {v : Value} (hu : P.underlying t = some .bool) (h : Value.okWide P w r b t v) : ∃ c : Bool, v = .bool c := by
  have h' : Cell.okWide P w r b t v := by unfold Value.okWide at h; rw [hu] at h; exact h
  exact fits_cell (k := none) (by simp [kindOf, hu]) h'
/-- An argument that is a struct or an array of integers and bools. -/
theorem row_of_ok {P : Program} {w : World} {r : Reach} {b : Nat} {t : TypeId} {v : Value} {d : TypeDesc} {ks : List (Option IntKind)} (hu : P.underlying t = some d) (hd : (match d with | .struct _ | .array _ _ => true | _ => false) = true)
    (hkk : (P.cellTypes P.depth t).map (·.map (kindOf P)) = some (ks.map some)) (hcc : P.cellsOf t = ks.length) (h : Value.okWide P w r b t v) : ∃ A, v = .agg A ∧ Rowk ks A := by
  obtain ⟨ts, hts, hk⟩ : ∃ ts, P.cellTypes P.depth t = some ts ∧ ts.map (kindOf P) = ks.map some := by
    cases hq : P.cellTypes P.depth t with
    | none => simp [hq] at hkk
    | some ts => exact ⟨ts, rfl, by simpa [hq] using hkk⟩
  have hl : ts.length = ks.length := by have := congrArg List.length hk; simpa using this
  have hc : P.cellsOf t = ts.length := by rw [hcc, hl]
  have h' : ∃ cs, v = .agg cs ∧ cs.size = P.cellsOf t ∧ Row.okWide P w r b t cs := by
    unfold Value.okWide at h
    rw [hu] at h
    cases d <;> simp_all
  obtain ⟨cs, rfl, hs, ts', hts', _, hcell⟩ := h'
  rw [hts] at hts'
  injection hts' with hts'
  subst hts'
  refine ⟨cs, rfl, by rw [hs, hc, hl], fun i k hi => ?_⟩
  have hlt : i < ts.length := by rw [hl]; exact (List.getElem?_eq_some_iff.1 hi).1
  have hlt2 : i < cs.size := by rw [hs, hc]; exact hlt
  obtain ⟨u, hu', hok⟩ := hcell i cs[i] (Array.getElem?_eq_getElem hlt2)
  rw [Nat.mod_eq_of_lt hlt] at hu'
  have hki : kindOf P u = some k := by
    have e := congrArg (fun l : List (Option (Option IntKind)) => l[i]?) hk
    simp [hu', hi] at e
    exact e
  exact ⟨_, Array.getElem?_eq_getElem hlt2, fits_cell hki hok⟩
end Go.Proofs.Ytmjfbilhalkegaa
