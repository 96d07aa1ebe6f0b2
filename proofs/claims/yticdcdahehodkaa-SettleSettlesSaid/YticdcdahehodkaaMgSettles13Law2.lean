/- Texts that Settles13Law stands on, one behind the other, part 2. Conditions: each theorem names its own. -/
import Derived.Test.YticdcdahehodkaaMgSettles13Law1
import Derived.Maps.Own
import Derived.Deep.CutRange
import Derived.Deep.LoopGhost
import Derived.Deep.Slices
import Derived.OpenShut
import Derived.Laws.AppendOwn
import Derived.Laws.AppendOwnNone
import Derived.Great.BuildSlice
import Derived.Deep.RegionHeld3
/-! Rows of cells of any width that a call makes by append: where they lie, what keeps them. No condition. -/
namespace Go.Proofs.Yticdcdahehodkaa
set_option linter.unusedVariables false
set_option linter.unusedSimpArgs false
open Go.RowKit Go.Deep

theorem below_set {w w1 : World} {B g i : Nat} {v : Value} (h : Below B w w1) (hg : B ≤ g) : Below B w (w1.setCell ⟨g, i, none⟩ v) := by
  have hsz : (w1.setCell ⟨g, i, none⟩ v).heap.size = w1.heap.size := by simp [World.setCell]
  exact ⟨h.1, h.2, h.3, by rw [hsz]; exact h.size, fun k hk => by rw [heap_setCell_other w1 ⟨g, i, none⟩ k v (by simp; omega)]; exact h.block k hk⟩
theorem own_below {w w1 : World} {base n size : Nat} {e : TypeId} {v : Value} {xs : List Value} (hb : Below w.heap.size w w1) (h : w.ownsRow base e size v n xs) : w1.ownsRow base e size v n xs :=
  h.kept (row := none) ⟨hb.1, hb.2, hb.3, hb.size, fun k hk _ => hb.block k hk⟩ (by cases v.ownBlock <;> simp)
/-- the first n rows' cells, one behind the other -/
def flat (L : Nat → Array Value) : Nat → List Value
  | 0 => []
  | n + 1 => flat L n ++ (L n).toList
theorem flat_congr {L L' : Nat → Array Value} : ∀ n, (∀ i, i < n → L i = L' i) → flat L n = flat L' n
  | 0, _ => rfl
  | n + 1, h => by rw [flat, flat, flat_congr n (fun i hi => h i (by omega)), h n (by omega)]
/-- a row behind the first n -/
def snoc (F : Nat → Array Value) (n : Nat) (x : Array Value) : Nat → Array Value := fun i => if i = n then x else F i
theorem snoc_lt (F : Nat → Array Value) (n : Nat) (x : Array Value) : ∀ i, i < n → snoc F n x i = F i := fun i hi => by simp [snoc]; omega
theorem snoc_at (F : Nat → Array Value) (n : Nat) (x : Array Value) : snoc F n x n = x := by simp [snoc]
theorem flat_snoc (F : Nat → Array Value) (n : Nat) (x : Array Value) : flat (snoc F n x) (n + 1) = flat F n ++ x.toList := by
  rw [flat, flat_congr n (snoc_lt F n x), snoc_at]
theorem mul_in {n c i j : Nat} (hi : i < n) (hj : j < c) : i * c + j < n * c := by
  have h := Nat.mul_le_mul_right c (show i + 1 ≤ n by omega)
  rw [Nat.add_mul] at h
  omega
theorem flatc_len {L : Nat → Array Value} {c : Nat} (hL : ∀ i, (L i).size = c) : ∀ n, (flat L n).length = n * c
  | 0 => by simp [flat]
  | n + 1 => by rw [flat, List.length_append, flatc_len hL n, Array.length_toList, hL n, Nat.add_mul]; omega
theorem flatc_at {L : Nat → Array Value} {c : Nat} (hL : ∀ i, (L i).size = c) : ∀ n i j : Nat, i < n → j < c → (flat L n)[i * c + j]? = (L i)[j]?
  | 0, i, j, hi, _ => by omega
  | n + 1, i, j, hi, hj => by
    have hl := flatc_len hL n
    rw [flat]
    by_cases e : i = n
    · subst e
      rw [List.getElem?_append_right (by omega), hl, show i * c + j - i * c = j by omega, Array.getElem?_toList]
    · rw [List.getElem?_append_left (by rw [hl]; exact mul_in (by omega) hj)]
      exact flatc_at hL n i j (by omega) hj
theorem flatc_one {L : Nat → Array Value} (hL : ∀ i, (L i).all (·.oneCell') = true) : ∀ n, ∀ v ∈ flat L n, v.oneCell' = true
  | 0, v, h => by simp [flat] at h
  | n + 1, v, h => by
    rw [flat, List.mem_append] at h
    rcases h with h | h
    · exact flatc_one hL n v h
    · have h1 := hL n
      rw [Array.all_eq_true'] at h1
      exact h1 v (by simpa using h)
/-- rows of c cells that lie one behind the other in a block of that type -/
def RowsT (w : World) (t : TypeId) (c : Nat) (a : Option Addr) (n : Nat) (L : Nat → Array Value) : Prop :=
  ∀ i, i < n → ∃ g off A fr, a = some ⟨g, off, none⟩ ∧ w.heap[g]? = some (.cells A t fr) ∧ off + i * c + c ≤ A.size ∧ A.extract (off + i * c) (off + i * c + c) = L i
theorem own_rows {w : World} {base n c : Nat} {e : TypeId} {v : Value} {L : Nat → Array Value} (hL : ∀ i, (L i).size = c) (h : w.ownsRow base e c v n (flat L n)) :
    ∃ a cap, v = .slice a n cap ∧ RowsT w e c a n L ∧ n ≤ cap ∧ cap ≤ 9223372036854775807 ∧ (a = none → n = 0 ∧ cap = 0) := by
  obtain ⟨_, ⟨rfl, rfl⟩ | ⟨g, cap, cur, rfl, _, hg, hn, hm, hc, ht⟩⟩ := h
  · exact ⟨none, 0, rfl, fun i hi => by omega, by omega, by omega, fun _ => ⟨rfl, rfl⟩⟩
  · refine ⟨_, cap, rfl, fun i hi => ⟨g, 0, cur, _, rfl, hg, ?_, ?_⟩, hn, by unfold maxLen at hm; omega, fun h => by cases h⟩
    · have h1 := Nat.mul_le_mul_right c (show i + 1 ≤ cap by omega)
      rw [Nat.add_mul] at h1
      omega
    · apply Array.ext_getElem?
      intro j
      rw [Array.getElem?_extract]
      by_cases hj : j < c
      · have h1 := Nat.mul_le_mul_right c (show i + 1 ≤ cap by omega)
        rw [Nat.add_mul] at h1
        rw [if_pos (by omega), ← flatc_at hL n i j hi hj, ← ht, List.getElem?_take, if_pos (mul_in hi hj), Array.getElem?_toList]
        simp
      · rw [if_neg (by omega)]
        symm
        rw [Array.getElem?_eq_none_iff, hL i]; omega
theorem rowsT_grown {w w' : World} {t t2 : TypeId} {c n : Nat} {a : Option Addr} {L : Nat → Array Value} {row : Option Nat} (h : RowsT w t c a n L) (hg : w.grownBy w' row) (hr : ∀ g, row = some g → ∃ A fr, w.heap[g]? = some (.cells A t2 fr)) (hne : t ≠ t2) : RowsT w' t c a n L := fun i hi => by
  obtain ⟨g, off, A, fr, h1, h2, h3⟩ := h i hi
  refine ⟨g, off, A, fr, h1, ?_, h3⟩
  rw [hg.block g (Array.getElem?_eq_some_iff.1 h2).1 (fun e => ?_)]
  · exact h2
  · obtain ⟨A2, fr2, h4⟩ := hr g e.symm
    rw [h4] at h2
    injection h2 with h2
    injection h2 with _ h5
    exact hne h5.symm
theorem rowsT_kept {w w' : World} {t : TypeId} {c n : Nat} {a : Option Addr} {L : Nat → Array Value} (h : RowsT w t c a n L) (hb : Below w.heap.size w w') : RowsT w' t c a n L := fun i hi => by
  obtain ⟨g, off, A, fr, h1, h2, h3⟩ := h i hi
  exact ⟨g, off, A, fr, h1, kept hb h2, h3⟩
theorem own_tag {w : World} {base n c : Nat} {e : TypeId} {v : Value} {xs : List Value} (h : w.ownsRow base e c v n xs) : ∀ g, v.ownBlock = some g → ∃ A fr, w.heap[g]? = some (.cells A e fr) := by
  obtain ⟨_, ⟨rfl, rfl⟩ | ⟨g, cap, cur, rfl, _, hg, _⟩⟩ := h
  · intro g h; cases h
  · intro g' h
    injection h with h
    subst h
    exact ⟨cur, _, hg⟩
theorem rows_at {w : World} {ad : Addr} {n c : Nat} {L : Nat → Array Value} (hc : 0 < c) (hL : ∀ i, (L i).size = c)
    (h : ∀ i, i < n → ∃ g off A t fr, some ad = some (⟨g, off, none⟩ : Addr) ∧ w.heap[g]? = some (.cells A t fr) ∧ off + i * c + c ≤ A.size ∧ A.extract (off + i * c) (off + i * c + c) = L i) (j : Nat) (u : Value) (hj : (flat L n)[j]? = some u) : w.cell? (ad.add j) = some u := by
  have hlt : j < n * c := by rw [← flatc_len hL n]; exact (List.getElem?_eq_some_iff.1 hj).1
  have hq : j / c < n := (Nat.div_lt_iff_lt_mul hc).2 hlt
  have hr : j % c < c := Nat.mod_lt _ hc
  have hjj : j / c * c + j % c = j := by rw [Nat.mul_comm]; exact Nat.div_add_mod j c
  obtain ⟨g, off, A, t, fr, ha, hg, hs, he⟩ := h (j / c) hq
  injection ha with ha
  subst ha
  have h1 := flatc_at hL n (j / c) (j % c) hq hr
  rw [hjj, hj] at h1
  have h2 : (⟨g, off, none⟩ : Addr).add j = ⟨g, off + j, none⟩ := by unfold Addr.add; split <;> simp_all
  rw [h2, cellF hg]
  have h3 : A[off + j / c * c + j % c]? = (L (j / c))[j % c]? := by
    rw [← he, Array.getElem?_extract, if_pos (by omega)]
  rw [show off + j / c * c + j % c = off + j by omega] at h3
  rw [h3, ← h1]


theorem op_load_all {P : Program} {o : Oper} {a : Act} {w : World} {K : Act → World → Prop} {Q : Exit → Act → World → Prop} (ty : TypeId) (x : Operand) (ho : o.op = .load ty x)
    (g off : Nat) (hx : a.eval x = .pointer (some ⟨g, off, none⟩)) (t : TypeId) (cs : Array Value) (fr : Nat × Nat) (d : TypeDesc) (n : Nat) (hg : w.heap[g]? = some (.cells cs t fr))
    (hu : P.underlying ty = some d) (hd : (match d with | .struct _ | .array _ _ => true | _ => false) = true) (hi : (P.info? ty).map (·.size) = some n) (hn : off + n ≤ cs.size) (B : Array Value) (hB : cs.extract off (off + n) = B)
    (h : K (a.put o.dst (.agg B)) w) : o.wp P a w K Q :=
  wp_load_part ty x ho g off hx t cs fr d n hg hu hd hi hn (by rw [hB]; exact h)
theorem op_store_over' {P : Program} {o : Oper} {a : Act} {w : World} {K : Act → World → Prop} {Q : Exit → Act → World → Prop} (ty : TypeId) (x y : Operand) (ho : o.op = .store ty x y)
    (g : Nat) (S : Array Value) (hx : a.eval x = .pointer (some ⟨g, 0, none⟩)) (hy : a.eval y = .agg S)
    (t : TypeId) (old : Array Value) (hg : w.heap[g]? = some (.cells old t (0, 0))) (hi : (P.info? ty).map (·.size) = some S.size)
    (hold : old.size = S.size) (h1 : S.all (·.oneCell') = true)
    (h : ∀ w1 : World, w1.heap[g]? = some (.cells S t (0, 0)) → (∀ k, k ≠ g → w1.heap[k]? = w.heap[k]?) → (∀ B, B ≤ g → Below B w w1) → K (a.put o.dst undef) w1) : o.wp P a w K Q :=
  wp_store_row ty x y ho g S hx hy t old hg hi hold h1 (h _ (setRow_heap w g old S t _ hg) (fun k hk => setRow_other w g k S hk)
    (fun B hB => ⟨rfl, rfl, rfl, Nat.le_of_eq (setRow_size _ _ _).symm, fun k hk => setRow_other w g k S (by omega)⟩))
end Go.Proofs.Yticdcdahehodkaa
/-! A function's results of which the first lies in a block. No condition. -/
namespace Go.Proofs.Yticdcdahehodkaa
set_option linter.unusedVariables false
set_option linter.unusedSimpArgs false
open Go.RowKit

theorem post_cell_tmp {fn : Func} {P : Program} {p q : Tmp} {ty : TypeId} {R : Ending → World → Prop} {a : Act} {w : World} {g : Nat} {t : TypeId} {cs : Array Value} {d : TypeDesc} {v : Value} (h : fn.results = #[.cell p ty, .tmp q])
    (hd0 : a.defers = []) (hp : a.tmps.getD p undef = .pointer (some ⟨g, 0, none⟩)) (hv : a.tmps.getD q undef = v) (hg : w.heap[g]? = some (.cells cs t (0, 0)))
    (hu : P.underlying ty = some d) (hd : (match d with | .struct _ | .array _ _ => true | _ => false) = true) (hi : (P.info? ty).map (·.size) = some cs.size) (hR : R (.returned (.tuple #[.agg cs, v])) w) : bodyPost P fn R .ret a w := by
  refine bodyPost_ret (v := .tuple #[.agg cs, v]) ?_ hd0 hR
  have hp' : a.tmps[p]?.getD undef = .pointer (some ⟨g, 0, none⟩) := by simpa using hp
  have hv' : a.tmps[q]?.getD undef = v := by simpa using hv
  simp [results, h, hp', hv', asAddr, run_loadVar_row w g t ty cs (0, 0) d hg hu hd hi]
end Go.Proofs.Yticdcdahehodkaa
/-! What a struct that came in holds, cell by cell. No condition. -/
namespace Go.Proofs.Yticdcdahehodkaa
set_option linter.unusedVariables false
set_option linter.unusedSimpArgs false
open Go.RowKit Go.Deep

section
variable {H : Type} {enc : TypeId × Value → H} {w : World} {base : Nat} {spare : Nat → Bool} {held : Bool}

theorem leaf {fuel o : Nat} {t : TypeId} {k : IntKind} {cs : List Value} {x : DataW H × List MemPlace} (hu : Try.prog.underlying t = some (.int k)) (hc : Try.prog.cellsOf t = 1)
    (h : DataW.trod enc Try.prog w base spare held fuel t ((cs.drop o).take (Try.prog.cellsOf t)) = some x) : IsN cs.toArray k o := by
  obtain ⟨n, h1, _, hw⟩ := DataW.trod_int hu h
  rw [hc] at h1
  have h2 := congrArg (fun l => l[0]?) h1
  simp [List.getElem?_take, List.getElem?_drop] at h2
  exact IsN_of (by simpa using h2) (by simpa [Lit.wf] using hw)
theorem fields {fuel : Nat} {t : TypeId} {fs : Array Field} {cs : List Value} {x : DataW H × List MemPlace} (ht : Try.prog.underlying t = some (.struct fs)) (h : DataW.trod enc Try.prog w base spare held fuel t cs = some x) :
    cs.length = Try.prog.cellsOf t ∧ ∃ n, ∀ (i : Nat) (f : Field), fs[i]? = some f → ∃ y, DataW.trod enc Try.prog w base spare held n f.type ((cs.drop f.offset).take (Try.prog.cellsOf f.type)) = some y := by
  obtain ⟨xs, n, _, _, hl, hxl, hx⟩ := DataW.trod_struct ht h
  refine ⟨hl, n, fun i f hf => ?_⟩
  have hi : i < xs.length := by rw [hxl]; exact (Array.getElem?_eq_some_iff.1 hf).1
  exact ⟨xs[i], by rw [hx i f hf]; exact List.getElem?_eq_getElem hi⟩
theorem drop_at {cs : List Value} {o c i : Nat} (h : i < c) : ((cs.drop o).take c).toArray[i]? = cs.toArray[o + i]? := by
  simp [List.getElem?_take, List.getElem?_drop, h]
theorem IsN.moved {A B : Array Value} {i j : Nat} {k : IntKind} (h : IsN A k i) (e : A[i]? = B[j]?) : IsN B k j := by
  obtain ⟨h1, h2⟩ := h
  exact IsN_of (by rw [← e]; exact h1) h2

end
end Go.Proofs.Yticdcdahehodkaa
/-! What a slice of structs that came in holds, row by row. No condition. -/
namespace Go.Proofs.Yticdcdahehodkaa
set_option linter.unusedVariables false
set_option linter.unusedSimpArgs false
open Go.RowKit Go.Deep

/-- n rows of c cells each, one behind the other in one block -/
def RowsC (w : World) (c : Nat) (a : Option Addr) (n : Nat) (L : Nat → Array Value) : Prop :=
  ∀ i, i < n → ∃ g off A t fr, a = some (⟨g, off, none⟩ : Addr) ∧ w.heap[g]? = some (.cells A t fr) ∧ off + i * c + c ≤ A.size ∧ A.extract (off + i * c) (off + i * c + c) = L i
theorem RowsC.kept {w w' : World} {c n : Nat} {a : Option Addr} {L : Nat → Array Value} (h : RowsC w c a n L) (hb : Below w.heap.size w w') : RowsC w' c a n L := fun i hi => by
  obtain ⟨g, off, A, t, fr, h1, h2, h3⟩ := h i hi
  exact ⟨g, off, A, t, fr, h1, Yticdcdahehodkaa.kept hb h2, h3⟩
theorem RowsC.congr {w : World} {c n : Nat} {a : Option Addr} {L L' : Nat → Array Value} (h : RowsC w c a n L) (e : ∀ i, i < n → L i = L' i) : RowsC w c a n L' := fun i hi => by
  rw [← e i hi]; exact h i hi
section
variable {H : Type} {enc : TypeId × Value → H} {w : World} {spare : Nat → Bool} {held : Bool}
set_option maxRecDepth 100000 in
theorem rows_cells {a : Addr} {n c : Nat} {C : Nat → List Value} (hc0 : 0 < c) (h : ∀ i, i < n → w.cells? 0 (a.add (i * c)) c = some (C i)) : RowsC w c (some a) n (fun i => (C i).toArray) := by
  intro i hi
  have hc : ∀ i, i < n → ∀ j, j < c → w.cell? (a.add (i * c + j)) = (C i)[j]? ∧ (C i).length = c := fun i hi j hj => by
    obtain ⟨_, h2, h3⟩ := World.cells?_some (h i hi)
    rw [← h3 j hj, add_add]
    exact ⟨rfl, h2⟩
  obtain ⟨b, o, sp⟩ := a
  have h0 := hc 0 (by omega) 0 (by omega)
  have hl0 := h0.2
  have h00 : w.cell? ⟨b, o, sp⟩ = some ((C 0)[0]'(by omega)) := by
    have := h0.1
    simp only [Nat.zero_mul, Nat.add_zero] at this
    rw [show (⟨b, o, sp⟩ : Addr).add 0 = ⟨b, o, sp⟩ from rfl] at this
    rw [this]
    exact List.getElem?_eq_getElem _
  unfold World.cell? at h00
  cases hb : w.heap[b]? with
  | none => simp [hb] at h00
  | some ob =>
    cases ob with
    | cells A t fr =>
      simp only [hb] at h00
      cases sp with
      | some s => simp at h00
      | none =>
        have hA : ∀ i, i < n → ∀ j, j < c → A[o + i * c + j]? = (C i)[j]? := fun i hi j hj => by
          rw [← (hc i hi j hj).1]
          have : (⟨b, o, none⟩ : Addr).add (i * c + j) = ⟨b, o + i * c + j, none⟩ := by unfold Addr.add; split <;> simp_all; omega
          rw [this, cellF hb]
        have hs : o + i * c + c ≤ A.size := by
          have h1 := hA i hi (c - 1) (by omega)
          rw [List.getElem?_eq_getElem (by rw [(hc i hi 0 (by omega)).2]; omega)] at h1
          have := (Array.getElem?_eq_some_iff.1 h1).1
          omega
        refine ⟨b, o, A, t, fr, rfl, hb, hs, ?_⟩
        apply Array.ext_getElem?
        intro j
        rw [Array.getElem?_extract]
        by_cases hj : j < c
        · rw [if_pos (by omega), hA i hi j hj]; simp
        · rw [if_neg (by omega)]
          symm
          simp
          rw [(hc i hi 0 (by omega)).2]; omega
    | _ => simp [hb] at h00
set_option maxRecDepth 100000 in
/-- A slice of structs that came in. -/
theorem rows_of {T S : TypeId} {c : Nat} {Is : Array Value → Prop} {z : Array Value} (hz : Is z) (hS : Try.prog.underlying S = some (.slice T)) (hc : Try.prog.cellsOf T = c) (h0 : 0 < c)
    (ht : ∀ fuel cs x, DataW.trod enc Try.prog w 0 spare held fuel T cs = some x → Is cs.toArray)
    {r : Reach} {b : Nat} {v : Value} {d : DataW H} {p : List MemPlace} (hv : Value.okWide Try.prog w r b S v) (h : DataW.Trod enc Try.prog w 0 spare held S v d p) :
    ∃ (a : Option Addr) (n cap : Nat) (L : Nat → Array Value), v = .slice a n cap ∧ n ≤ cap ∧ cap ≤ 9223372036854775807 ∧ (∀ i, Is (L i)) ∧ RowsC w c a n L ∧ (a = none → n = 0 ∧ cap = 0) := by
  obtain ⟨m, hm⟩ := h
  obtain ⟨a, n, cap, rfl⟩ : ∃ a n cap, v = .slice a n cap := by
    unfold Value.okWide Cell.okWide at hv
    simp only [hS] at hv
    unfold Cell.ok at hv
    simp only [hS] at hv
    cases v <;> simp_all
  refine ⟨a, n, cap, ?_⟩
  rcases open_slice hS hm with ⟨hc, _⟩ | ⟨a', len, cap', m', f, D, Pl, hc1, _, hl, hmx, hmm, _, hx⟩
  · simp [Value.cells] at hc
    obtain ⟨rfl, rfl, rfl⟩ := hc
    exact ⟨fun _ => z, rfl, by omega, by omega, fun _ => hz, fun i hi => by omega, fun _ => ⟨rfl, rfl⟩⟩
  · simp [Value.cells] at hc1
    obtain ⟨rfl, rfl, rfl⟩ := hc1
    have hlm : n ≤ m' := by rw [hmm]; split <;> omega
    rw [hc] at hx
    obtain ⟨C, hC⟩ := choose_lt (α := List Value) (n := n) (p := fun i cs => w.cells? 0 (a'.add (i * c)) c = some cs ∧ DataW.trod enc Try.prog w 0 spare held f T cs = some (D i, Pl i)) (fun i hi => hx i (by omega))
    refine ⟨fun i => if i < n then (C i).toArray else z, rfl, hl, by unfold maxLen at hmx; omega, fun i => ?_, (rows_cells h0 (fun i hi => (hC i hi).1)).congr (fun i hi => by simp [hi]), fun h => by cases h⟩
    simp only
    split
    · rename_i hi
      exact ht _ _ _ (hC i hi).2
    · exact hz
end
end Go.Proofs.Yticdcdahehodkaa
/-! Steps of a region that draws its order: a call by its contract, a load of a whole aggregate, a built value, a slice of one element. No condition. -/
namespace Go.Proofs.Yticdcdahehodkaa
set_option linter.unusedVariables false
set_option linter.unusedSimpArgs false
open Go.RowKit

theorem op_call {P : Program} {o : Oper} {a : Act} {w : World} {K : Act → World → Prop} {Q : Exit → Act → World → Prop} (f : FuncId) (args : Array Value) (he : (execOp a.eval o).run P w = .ok (.enter f args) w) (R : Value → World → Prop)
    (hc : Calls P f args w fun e w' => ∃ v, e = .returned v ∧ R v w') (h : ∀ v w', R v w' → K (a.put o.dst v) w') : o.wp P a w K Q := by
  unfold Oper.wp
  rw [he]
  exact hc.mono fun e w'' ⟨v, he, hr⟩ => by subst he; exact h v w'' hr
theorem exec_build {P : Program} {o : Oper} {a : Act} {w : World} (t : TypeId) (parts : Array (Nat × Operand)) (ho : o.op = .build t parts) (B : Array Value) (h : P.built t (parts.map fun (i, x) => (i, a.eval x)).toList = some B) : (execOp a.eval o).run P w = .ok (.value (.agg B)) w := by
  unfold execOp
  simp only [ho, Sem.run_bind, run_build w t _ B h, Sem.run_pure, Result.andThen_ok]
theorem exec_load_part {P : Program} {o : Oper} {a : Act} {w : World} (ty : TypeId) (x : Operand) (ho : o.op = .load ty x)
    (g off : Nat) (hx : a.eval x = .pointer (some ⟨g, off, none⟩)) (t : TypeId) (cs : Array Value) (fr : Nat × Nat) (d : TypeDesc) (n : Nat) (hg : w.heap[g]? = some (.cells cs t fr))
    (hu : P.underlying ty = some d) (hd : (match d with | .struct _ | .array _ _ => true | _ => false) = true) (hi : (P.info? ty).map (·.size) = some n) (hn : off + n ≤ cs.size) (B : Array Value) (hB : cs.extract off (off + n) = B) :
    (execOp a.eval o).run P w = .ok (.value (.agg B)) w := by
  unfold execOp
  simp only [ho, hx, Instr.loadAt, Instr.sureAddr, Sem.run_bind, Sem.run_pure, Result.andThen_ok, run_loadVar_part w g off t ty cs fr d n hg hu hd hi hn, hB]
theorem fold_setg : ∀ (l : List Value) (k : Nat) (cs : Array Value), k + l.length ≤ cs.size →
    ((l.zipIdx k).foldl (fun cs x => cs.setIfInBounds (0 + x.2) x.1) cs).size = cs.size ∧
    ∀ i, ((l.zipIdx k).foldl (fun cs x => cs.setIfInBounds (0 + x.2) x.1) cs)[i]? = if k ≤ i ∧ i < k + l.length then l[i - k]? else cs[i]?
  | [], k, cs, _ => by
    refine ⟨rfl, fun i => ?_⟩
    simp
    omega
  | v :: l, k, cs, h => by
    simp only [List.length_cons] at h
    simp only [List.zipIdx_cons, List.foldl_cons]
    obtain ⟨h1, h2⟩ := fold_setg l (k + 1) (cs.setIfInBounds (0 + k) v) (by simp; omega)
    refine ⟨by rw [h1]; simp, fun i => ?_⟩
    rw [h2 i]
    by_cases e : i = k
    · subst e
      rw [if_neg (by omega), if_pos (by simp), Nat.zero_add, Array.getElem?_setIfInBounds_self_of_lt (by omega)]
      simp
    · by_cases e2 : k + 1 ≤ i ∧ i < k + 1 + l.length
      · rw [if_pos e2, if_pos (by simp; omega), show i - k = (i - (k + 1)) + 1 by omega, List.getElem?_cons_succ]
      · rw [if_neg e2, if_neg (by simp; omega), Array.getElem?_setIfInBounds_ne (by omega)]
theorem fill_oneg {B : Array Value} {z : Array Value} {c : Nat} (hB : B.size = c) (hz : z.size = c) :
    Instr.fill (fun i => some (i * c, c)) ((Array.range (1 * c)).map (z[· % z.size]!)) [(0, Value.agg B)] = some B := by
  unfold Instr.fill
  simp only [Value.cells, hB]
  rw [if_neg (by simp)]
  unfold Instr.fill
  congr 1
  have h := fold_setg B.toList 0 ((Array.range (1 * c)).map (z[· % z.size]!)) (by simp [hB])
  have e : Array.foldl (fun cs x => cs.setIfInBounds (0 * c + x.2) x.1) ((Array.range (1 * c)).map (z[· % z.size]!)) (B.zipIdx) = (B.toList.zipIdx 0).foldl (fun cs x => cs.setIfInBounds (0 + x.2) x.1) ((Array.range (1 * c)).map (z[· % z.size]!)) := by
    rw [← Array.foldl_toList, Nat.zero_mul]
    simp
  show Array.foldl (fun cs x => cs.setIfInBounds (0 * c + x.2) x.1) ((Array.range (1 * c)).map (z[· % z.size]!)) (B.zipIdx) = B
  rw [e]
  apply Array.ext_getElem?
  intro i
  rw [h.2 i]
  by_cases hi : i < c
  · rw [if_pos (by simp [hB]; omega)]; simp
  · rw [if_neg (by simp [hB]; omega), Array.getElem?_eq_none_iff.2 (by simp; omega), Array.getElem?_eq_none_iff.2 (by omega)]
theorem op_slice1 {P : Program} {o : Oper} {a : Act} {w : World} {K : Act → World → Prop} {Q : Exit → Act → World → Prop} (t e : TypeId) (x : Operand) (ho : o.op = .buildSlice t 1 #[(0, x)])
    (B : Array Value) (c : Nat) (hx : a.eval x = .agg B) (hB : B.size = c) (ie : TypeInfo) (z : Value) (hu : P.underlying t = some (.slice e)) (hie : P.info? e = some ie) (hz : ie.zero = some z) (h4 : ie.size = c) (hz4 : z.cells.size = c) (hc : 0 < c) (hc2 : c ≤ 1000)
    (h : K (a.put o.dst (.slice (some ⟨w.heap.size, 0, none⟩) 1 1)) (w.alloc (.cells B e))) : o.wp P a w K Q :=
  wp_buildSlice t e 1 _ ho B ie z hu hie hz (by rw [h4]; omega) (by rw [h4]; omega) (by
    have e1 : ((#[(0, x)] : Array (Nat × Operand)).map fun (i, x) => (i, a.eval x)).toList = [(0, Value.agg B)] := by rw [← hx]; simp
    rw [e1, h4]
    exact fill_oneg hB hz4) h
end Go.Proofs.Yticdcdahehodkaa
/-! The small functions of fixnum and spec return what their plain readings say. Condition: the numbers fit an int64. -/
namespace Go.Proofs.Yticdcdahehodkaa
set_option linter.unusedVariables false
set_option linter.unusedSimpArgs false
open Go.RowKit

/-- from least to most -/
def inB (n l m : Int) : Bool := decide (l ≤ n ∧ n ≤ m)
theorem inB_iff {n l m : Int} : inB n l m = true ↔ l ≤ n ∧ n ≤ m := by simp [inB]
theorem inB_no {n l m : Int} : inB n l m = false ↔ ¬ (l ≤ n ∧ n ≤ m) := by simp [inB]
def F64 (n : Int) : Prop := -9223372036854775808 ≤ n ∧ n ≤ 9223372036854775807
/-- a price of that tick -/
def prB (tick n : Int) : Bool := inB n 1 10000000 && decide (n % tick = 0)

set_option maxHeartbeats 400000 in
theorem size_pos (a : Int) (w : World) (ha : 0 ≤ a ∧ a ≤ 9223372036854775807) :
    Calls Try.prog 30 #[.int .i64 a] w fun e w' => e = .returned (.tuple #[.int .u64 a, .bool false]) ∧ w = w' := by
  go_enter Try.func30, Try.ntmps30
  go_wp2
  go_ret2
  have : IntKind.u64.wrap a = a := by rw [IntKind.wrap_u64]; omega
  simp [this]

set_option maxHeartbeats 400000 in
theorem size_neg (a : Int) (w : World) (ha : -9223372036854775808 ≤ a ∧ a < 0) :
    Calls Try.prog 30 #[.int .i64 a] w fun e w' => e = .returned (.tuple #[.int .u64 (-a), .bool true]) ∧ w = w' := by
  go_enter Try.func30, Try.ntmps30
  go_wp2
  go_ret2
  have : IntKind.u64.wrap (-IntKind.u64.wrap a) = -a := by rw [IntKind.wrap_u64, IntKind.wrap_u64]; omega
  simp [this]

set_option maxHeartbeats 400000 in
theorem within_any (a m : Int) (w : World) (ha : F64 a) (hm : 0 ≤ m) (hm2 : m ≤ 9223372036854775807) :
    Calls Try.prog 19 #[.int .i64 a, .int .i64 m] w fun e w' => e = .returned (.bool (inB a (-m) m)) ∧ w = w' := by
  unfold F64 at ha
  by_cases h : a < 0
  · go_enter Try.func19, Try.ntmps19
    go_wp2_with (go_at_call 30; refine (size_neg _ _ ⟨by omega, by omega⟩).mono ?_; rintro e w' ⟨rfl, rfl⟩)
    go_ret
    exact ⟨ret_bool (by simp [inB]; omega), rfl⟩
  · go_enter Try.func19, Try.ntmps19
    go_wp2_with (go_at_call 30; refine (size_pos _ _ ⟨by omega, by omega⟩).mono ?_; rintro e w' ⟨rfl, rfl⟩)
    go_ret
    exact ⟨ret_bool (by simp [inB]; omega), rfl⟩





end Go.Proofs.Yticdcdahehodkaa
/-! Twelve digits of 16 bits as a number: sums, differences, comparisons digit by digit. Plain; no condition but that each digit is one. -/
namespace Go.Proofs.Yticdcdahehodkaa
set_option linter.unusedVariables false
set_option linter.unusedSimpArgs false
open Go.RowKit

structure IsD (D : Array Value) : Prop where
  size : D.size = 12
  c : ∀ i, i < 12 → D[i]? = some (.int .u64 (N D i)) ∧ 0 ≤ N D i ∧ N D i < 65536

/-- the weight of digit k -/
def P16 (k : Nat) : Int := (65536 ^ k : Nat)
theorem P16_s (k : Nat) : P16 (k + 1) = 65536 * P16 k := by
  unfold P16
  rw [Nat.pow_succ, Nat.mul_comm]
  simp
theorem P16_pos (k : Nat) : 0 < P16 k := by
  unfold P16
  have : 0 < 65536 ^ k := Nat.pow_pos (by omega)
  omega
/-- the first k digits' number -/
def lv (D : Array Value) : Nat → Int
  | 0 => 0
  | k + 1 => lv D k + N D k * P16 k
theorem lv_bd {D : Array Value} (h : IsD D) : ∀ k, k ≤ 12 → 0 ≤ lv D k ∧ lv D k < P16 k
  | 0, _ => ⟨Int.le_refl _, by unfold lv; exact P16_pos 0⟩
  | k + 1, hk => by
    obtain ⟨h1, h2⟩ := lv_bd h k (by omega)
    obtain ⟨_, h3, h4⟩ := h.c k (by omega)
    have hp := P16_pos k
    have h5 : 0 ≤ N D k * P16 k := Int.mul_nonneg h3 (by omega)
    have h6 : N D k * P16 k ≤ 65535 * P16 k := Int.mul_le_mul_of_nonneg_right (by omega) (by omega)
    rw [lv, P16_s]
    omega
theorem lv_congr {A B : Array Value} : ∀ k, (∀ i, i < k → N A i = N B i) → lv A k = lv B k
  | 0, _ => rfl
  | k + 1, h => by rw [lv, lv, lv_congr k (fun i hi => h i (by omega)), h k (by omega)]

/-! sums -/
def cd (A B : Array Value) : Nat → Int
  | 0 => 0
  | k + 1 => (cd A B k + N A k + N B k) / 65536
def rd (A B : Array Value) (k : Nat) : Int := (cd A B k + N A k + N B k) % 65536
theorem cd_bd {A B : Array Value} (hA : IsD A) (hB : IsD B) : ∀ k, k ≤ 12 → 0 ≤ cd A B k ∧ cd A B k ≤ 1
  | 0, _ => by simp [cd]
  | k + 1, hk => by
    have ih := cd_bd hA hB k (by omega)
    obtain ⟨_, a1, a2⟩ := hA.c k (by omega)
    obtain ⟨_, b1, b2⟩ := hB.c k (by omega)
    rw [cd]
    omega
/-- the sum's first k digits written over A's -/
def pl (A B : Array Value) : Nat → Array Value
  | 0 => A
  | k + 1 => (pl A B k).setIfInBounds k (.int .u64 (rd A B k))
theorem pl_size (A B : Array Value) : ∀ k, (pl A B k).size = A.size
  | 0 => rfl
  | k + 1 => by unfold pl; simpa using pl_size A B k
theorem pl_later (A B : Array Value) (i : Nat) : ∀ k, k ≤ i → (pl A B k)[i]? = A[i]?
  | 0, _ => rfl
  | k + 1, hk => by unfold pl; rw [Array.getElem?_setIfInBounds_ne (by omega)]; exact pl_later A B i k (by omega)
theorem pl_at {A : Array Value} (hA : A.size = 12) (B : Array Value) (i : Nat) : ∀ k, i < k → k ≤ 12 → (pl A B k)[i]? = some (.int .u64 (rd A B i))
  | 0, hi, _ => by omega
  | k + 1, hi, hk => by
    unfold pl
    by_cases e : i = k
    · subst e; exact Array.getElem?_setIfInBounds_self_of_lt (by rw [pl_size]; omega)
    · rw [Array.getElem?_setIfInBounds_ne (by omega)]; exact pl_at hA B i k (by omega) (by omega)
theorem pl_N {A : Array Value} (hA : A.size = 12) (B : Array Value) (i k : Nat) (hi : i < k) (hk : k ≤ 12) : N (pl A B k) i = rd A B i := N_of (pl_at hA B i k hi hk)
theorem pl_D {A B : Array Value} (hA : IsD A) : IsD (pl A B 12) where
  size := by rw [pl_size]; exact hA.size
  c := fun i hi => by
    rw [pl_N hA.size B i 12 hi (by omega)]
    refine ⟨pl_at hA.size B i 12 hi (by omega), ?_, ?_⟩
    · unfold rd; omega
    · unfold rd; omega
theorem pl_low {A B : Array Value} (hA : IsD A) : ∀ k, k ≤ 12 → lv (pl A B 12) k + cd A B k * P16 k = lv A k + lv B k
  | 0, _ => by simp [lv, cd]
  | k + 1, hk => by
    have ih := pl_low hA (B := B) k (by omega)
    rw [lv, lv, lv, pl_N hA.size B k 12 (by omega) (by omega), cd, P16_s]
    have e : cd A B k + N A k + N B k = rd A B k + 65536 * ((cd A B k + N A k + N B k) / 65536) := by unfold rd; omega
    have e2 : (cd A B k + N A k + N B k) * P16 k = rd A B k * P16 k + 65536 * (((cd A B k + N A k + N B k) / 65536) * P16 k) := by
      rw [← Int.mul_assoc, ← Int.add_mul, ← e]
    rw [Int.add_mul, Int.add_mul] at e2
    have e3 : (cd A B k + N A k + N B k) / 65536 * (65536 * P16 k) = 65536 * ((cd A B k + N A k + N B k) / 65536 * P16 k) := Int.mul_left_comm _ _ _
    rw [e3]
    omega
theorem pl_val {A B : Array Value} (hA : IsD A) (hB : IsD B) (h : lv A 12 + lv B 12 < P16 12) : lv (pl A B 12) 12 = lv A 12 + lv B 12 := by
  have h1 := pl_low hA (B := B) 12 (by omega)
  have h2 := (lv_bd (pl_D (B := B) hA) 12 (by omega)).1
  have h3 := cd_bd hA hB 12 (by omega)
  have h4 := P16_pos 12
  have h5 : cd A B 12 = 0 ∨ cd A B 12 = 1 := by omega
  rcases h5 with h5 | h5
  · rw [h5] at h1; omega
  · rw [h5, Int.one_mul] at h1; omega

/-! differences -/
def bw (A B : Array Value) : Nat → Int
  | 0 => 0
  | k + 1 => 1 - (65536 + N A k - N B k - bw A B k) / 65536
def qd (A B : Array Value) (k : Nat) : Int := (65536 + N A k - N B k - bw A B k) % 65536
theorem bw_bd {A B : Array Value} (hA : IsD A) (hB : IsD B) : ∀ k, k ≤ 12 → 0 ≤ bw A B k ∧ bw A B k ≤ 1
  | 0, _ => by simp [bw]
  | k + 1, hk => by
    have ih := bw_bd hA hB k (by omega)
    obtain ⟨_, a1, a2⟩ := hA.c k (by omega)
    obtain ⟨_, b1, b2⟩ := hB.c k (by omega)
    rw [bw]
    omega
def mi (A B : Array Value) : Nat → Array Value
  | 0 => A
  | k + 1 => (mi A B k).setIfInBounds k (.int .u64 (qd A B k))
theorem mi_size (A B : Array Value) : ∀ k, (mi A B k).size = A.size
  | 0 => rfl
  | k + 1 => by unfold mi; simpa using mi_size A B k
theorem mi_later (A B : Array Value) (i : Nat) : ∀ k, k ≤ i → (mi A B k)[i]? = A[i]?
  | 0, _ => rfl
  | k + 1, hk => by unfold mi; rw [Array.getElem?_setIfInBounds_ne (by omega)]; exact mi_later A B i k (by omega)
theorem mi_at {A : Array Value} (hA : A.size = 12) (B : Array Value) (i : Nat) : ∀ k, i < k → k ≤ 12 → (mi A B k)[i]? = some (.int .u64 (qd A B i))
  | 0, hi, _ => by omega
  | k + 1, hi, hk => by
    unfold mi
    by_cases e : i = k
    · subst e; exact Array.getElem?_setIfInBounds_self_of_lt (by rw [mi_size]; omega)
    · rw [Array.getElem?_setIfInBounds_ne (by omega)]; exact mi_at hA B i k (by omega) (by omega)
theorem mi_N {A : Array Value} (hA : A.size = 12) (B : Array Value) (i k : Nat) (hi : i < k) (hk : k ≤ 12) : N (mi A B k) i = qd A B i := N_of (mi_at hA B i k hi hk)
theorem mi_D {A B : Array Value} (hA : IsD A) : IsD (mi A B 12) where
  size := by rw [mi_size]; exact hA.size
  c := fun i hi => by
    rw [mi_N hA.size B i 12 hi (by omega)]
    refine ⟨mi_at hA.size B i 12 hi (by omega), ?_, ?_⟩
    · unfold qd; omega
    · unfold qd; omega
theorem mi_low {A B : Array Value} (hA : IsD A) : ∀ k, k ≤ 12 → lv (mi A B 12) k + lv B k = lv A k + bw A B k * P16 k
  | 0, _ => by simp [lv, bw]
  | k + 1, hk => by
    have ih := mi_low hA (B := B) k (by omega)
    rw [lv, lv, lv, mi_N hA.size B k 12 (by omega) (by omega), bw, P16_s]
    have e : 65536 + N A k - N B k - bw A B k = qd A B k + 65536 * ((65536 + N A k - N B k - bw A B k) / 65536) := by unfold qd; omega
    generalize (65536 + N A k - N B k - bw A B k) / 65536 = t at *
    have e2 : (N A k - N B k - bw A B k) * P16 k = (qd A B k + 65536 * t - 65536) * P16 k := by
      congr 1; omega
    rw [Int.sub_mul, Int.sub_mul, Int.sub_mul, Int.add_mul, Int.mul_assoc] at e2
    have e3 : (1 - t) * (65536 * P16 k) = 65536 * P16 k - 65536 * (t * P16 k) := by
      rw [Int.sub_mul, Int.one_mul, Int.mul_left_comm]
    rw [e3]
    omega
theorem mi_val {A B : Array Value} (hA : IsD A) (hB : IsD B) (h : lv B 12 ≤ lv A 12) : lv (mi A B 12) 12 = lv A 12 - lv B 12 := by
  have h1 := mi_low hA (B := B) 12 (by omega)
  have h2 := (lv_bd (mi_D (B := B) hA) 12 (by omega)).2
  have h3 := bw_bd hA hB 12 (by omega)
  have h4 := (lv_bd hB 12 (by omega)).1
  have h5 : bw A B 12 = 0 ∨ bw A B 12 = 1 := by omega
  rcases h5 with h5 | h5
  · rw [h5] at h1; omega
  · rw [h5, Int.one_mul] at h1; omega

/-! comparisons -/
theorem lv_up {A B : Array Value} {i : Nat} (h : lv A i = lv B i) : ∀ k, i ≤ k → k ≤ 12 → (∀ j, i ≤ j → j < k → N A j = N B j) → lv A k = lv B k
  | 0, hi, _, _ => by
    have : i = 0 := by omega
    subst this; exact h
  | k + 1, hi, hk, he => by
    by_cases e : i = k + 1
    · subst e; exact h
    · rw [lv, lv, lv_up h k (by omega) (by omega) (fun j h1 h2 => he j h1 (by omega)), he k (by omega) (by omega)]
theorem lv_up_lt {A B : Array Value} {i : Nat} (h : lv A i < lv B i) : ∀ k, i ≤ k → k ≤ 12 → (∀ j, i ≤ j → j < k → N A j = N B j) → lv A k < lv B k
  | 0, hi, _, _ => by
    have : i = 0 := by omega
    subst this; exact h
  | k + 1, hi, hk, he => by
    by_cases e : i = k + 1
    · subst e; exact h
    · have := lv_up_lt h k (by omega) (by omega) (fun j h1 h2 => he j h1 (by omega))
      rw [lv, lv, he k (by omega) (by omega)]
      omega
theorem lv_less {A B : Array Value} (hA : IsD A) (hB : IsD B) {i : Nat} (hi : i < 12) (hlt : N A i < N B i) (he : ∀ j, i < j → j < 12 → N A j = N B j) : lv A 12 < lv B 12 := by
  refine lv_up_lt (i := i + 1) ?_ 12 (by omega) (by omega) (fun j h1 h2 => he j (by omega) h2)
  have h1 := (lv_bd hA i (by omega)).2
  have h2 := (lv_bd hB i (by omega)).1
  have h3 : N A i * P16 i + P16 i ≤ N B i * P16 i := by
    have := Int.mul_le_mul_of_nonneg_right (show N A i + 1 ≤ N B i by omega) (show 0 ≤ P16 i by have := P16_pos i; omega)
    rw [Int.add_mul, Int.one_mul] at this
    exact this
  rw [lv, lv]
  omega
theorem lv_same {A B : Array Value} (he : ∀ j, j < 12 → N A j = N B j) : lv A 12 = lv B 12 := lv_congr 12 he
/-- all digits from k on are 0 -/
theorem lv_top {A : Array Value} {k : Nat} (hk : k ≤ 12) (he : ∀ j, k ≤ j → j < 12 → N A j = 0) : lv A 12 = lv A k := by
  have : ∀ m, k ≤ m → m ≤ 12 → lv A m = lv A k := by
    intro m
    induction m with
    | zero => intro h _; have : k = 0 := by omega
              subst this; rfl
    | succ m ih =>
      intro h1 h2
      by_cases e : k = m + 1
      · subst e; rfl
      · rw [lv, ih (by omega) (by omega), he m (by omega) (by omega)]
        simp
  exact this 12 hk (by omega)
theorem lv_zero {A : Array Value} (hA : IsD A) : lv A 12 = 0 ↔ ∀ j, j < 12 → N A j = 0 := by
  constructor
  · intro h
    have : ∀ m, m ≤ 12 → lv A m = 0 := by
      intro m hm
      have h1 : ∀ d, m + d ≤ 12 → lv A m ≤ lv A (m + d) := by
        intro d
        induction d with
        | zero => intro _; exact Int.le_refl _
        | succ d ih =>
          intro hd
          have h2 := ih (by omega)
          have h3 : 0 ≤ N A (m + d) * P16 (m + d) := Int.mul_nonneg (hA.c (m + d) (by omega)).2.1 (by have := P16_pos (m + d); omega)
          rw [← Nat.add_assoc, lv]
          omega
      have h4 := h1 (12 - m) (by omega)
      rw [show m + (12 - m) = 12 by omega, h] at h4
      have := (lv_bd hA m hm).1
      omega
    intro j hj
    have h1 := this (j + 1) (by omega)
    rw [lv, this j (by omega), Int.zero_add] at h1
    rcases Int.mul_eq_zero.1 h1 with h2 | h2
    · exact h2
    · have := P16_pos j; omega
  · intro h
    rw [lv_top (k := 0) (by omega) (fun j _ hj => h j hj)]
    rfl
end Go.Proofs.Yticdcdahehodkaa
/-! The document's numbers of twelve digits: less, plus, minus of their sizes. Condition: each digit is one. -/
namespace Go.Proofs.Yticdcdahehodkaa
set_option linter.unusedVariables false
set_option linter.unusedSimpArgs false
open Go.RowKit


set_option maxHeartbeats 1000000 in
theorem less_any (A B : Array Value) (w : World) (hA : IsD A) (hB : IsD B) :
    Calls Try.prog 41 #[.agg A, .agg B] w fun e w' => e = .returned (.bool (decide (lv A 12 < lv B 12))) ∧ Below w.heap.size w w' := by
  have HA := Lib.hid hA
  have HB := Lib.hid hB
  clear hA hB
  go_enter Try.func41, Try.ntmps41
  go_wp2
  obtain ⟨w2, hw2⟩ : ∃ w2, w2 = (w.alloc (.cells A 56)).alloc (.cells B 56) := ⟨_, rfl⟩
  have hgA0 : w2.heap[w.heap.size]? = some (.cells A 56 (0, 0)) := by rw [hw2]; exact (by repeat (first | exact heap_new (by simp; done) | refine heap_up ?_))
  have hgB0 : w2.heap[w.heap.size + 1]? = some (.cells B 56 (0, 0)) := by rw [hw2]; exact (by repeat (first | exact heap_new (by simp; done) | refine heap_up ?_))
  have hb0 : Below w.heap.size w w2 := by rw [hw2]; exact below_alloc (below_new _ _) _
  rw [← hw2]
  clear hw2
  go_loopg [5] 12 (fun gh i wr => ∃ (k : Nat) (v : Int), k ≤ 12 ∧ k = gh ∧ i = .int .i64 v ∧ v = (k : Int) - 1 ∧ (∀ j, k ≤ j → j < 12 → N A j = N B j) ∧ Below w2.heap.size w2 wr)
  case atStart => exact ⟨12, 11, by omega, by omega, rfl, by omega, fun j h1 h2 => by omega, Below.refl _ _⟩
  case round =>
    obtain ⟨k, v, hk, rfl, rfl, hv, he, hb⟩ := hrel
    have HE := Lib.hid he
    clear he
    have hgA := Yticdcdahehodkaa.kept hb hgA0
    have hgB := Yticdcdahehodkaa.kept hb hgB0
    cases k with
    | zero =>
      obtain rfl : v = -1 := by omega
      clear hv
      have HF := Lib.hid (show decide (lv A 12 < lv B 12) = false by rw [decide_eq_false_iff_not, lv_same (fun j hj => HE.out j (by omega) hj)]; omega)
      go_wp2
      go_ret
      exact ⟨by rw [HF.out]; rfl, below_then hb0 hb⟩
    | succ m =>
      obtain rfl : v = (m : Int) := by omega
      clear hv
      have hm12 : m < 12 := by omega
      have hmi : (m : Int) < 12 := by omega
      obtain ⟨a0, a1, a2⟩ := HA.out.c m (by omega)
      obtain ⟨b0, b1, b2⟩ := HB.out.c m (by omega)
      have HX := Lib.hid (show N A m = N B m → ∀ j, m ≤ j → j < 12 → N A j = N B j from fun h j h1 h2 => by
        by_cases e : j = m
        · subst e; exact h
        · exact HE.out j (by omega) h2)
      have HL := Lib.hid (show N A m ≠ N B m → decide (N A m < N B m) = decide (lv A 12 < lv B 12) from fun h => by
        rw [decide_eq_decide]
        constructor
        · exact fun h1 => lv_less HA.out HB.out (by omega) h1 (fun j h2 h3 => HE.out j (by omega) h3)
        · intro h1
          rcases Int.lt_trichotomy (N A m) (N B m) with h2 | h2 | h2
          · exact h2
          · exact absurd h2 h
          · have := lv_less HB.out HA.out (by omega) h2 (fun j h3 h4 => (HE.out j (by omega) h4).symm)
            omega)
      generalize N A m = x at *
      generalize N B m = y at *
      by_cases hxy : x = y
      · clear hk
        have hq : (x == y) = true := by simpa using hxy
        go_wp2
        refine wp_region_below (by kernel_rfl) (by kernel_rfl) ?_
        repeat (first | ((with_reducible apply q_skip); (case hw => rfl); (try simp only [Act.put, List.setIfInBounds_toArray, List.set_cons_zero, List.set_cons_succ])) | ((with_reducible apply q_val); (case hw => rfl); (case hv => intro wq hbq; have hcq := cellF (Yticdcdahehodkaa.kept hbq hgA); have hcr := cellF (Yticdcdahehodkaa.kept hbq hgB); go_simp; try rfl); (try simp only [Act.put, List.setIfInBounds_toArray, List.set_cons_zero, List.set_cons_succ])))
        refine q_nil ?_
        intro w4 hb4
        go_wp2
        go_roundg m
        case measure => omega
        case rel => exact ⟨m, (m : Int) - 1, by omega, rfl, by go_num, by omega, HX.out hxy, below_then hb hb4⟩
      · clear hk
        have hq : (x == y) = false := by simpa using hxy
        go_wp2
        refine wp_region_below (by kernel_rfl) (by kernel_rfl) ?_
        repeat (first | ((with_reducible apply q_skip); (case hw => rfl); (try simp only [Act.put, List.setIfInBounds_toArray, List.set_cons_zero, List.set_cons_succ])) | ((with_reducible apply q_val); (case hw => rfl); (case hv => intro wq hbq; have hcq := cellF (Yticdcdahehodkaa.kept hbq hgA); have hcr := cellF (Yticdcdahehodkaa.kept hbq hgB); go_simp; try rfl); (try simp only [Act.put, List.setIfInBounds_toArray, List.set_cons_zero, List.set_cons_succ])))
        refine q_nil ?_
        intro w4 hb4
        go_wp2
        have hgA' := Yticdcdahehodkaa.kept hb4 hgA
        have hgB' := Yticdcdahehodkaa.kept hb4 hgB
        clear hgA hgB
        have hgA := hgA'
        have hgB := hgB'
        refine wp_region_below (by kernel_rfl) (by kernel_rfl) ?_
        repeat (first | ((with_reducible apply q_skip); (case hw => rfl); (try simp only [Act.put, List.setIfInBounds_toArray, List.set_cons_zero, List.set_cons_succ])) | ((with_reducible apply q_val); (case hw => rfl); (case hv => intro wq hbq; have hcq := cellF (Yticdcdahehodkaa.kept hbq hgA); have hcr := cellF (Yticdcdahehodkaa.kept hbq hgB); go_simp; try rfl); (try simp only [Act.put, List.setIfInBounds_toArray, List.set_cons_zero, List.set_cons_succ])))
        refine q_nil ?_
        intro w5 hb5
        go_wp2
        go_ret
        exact ⟨by rw [← HL.out hxy]; rfl, below_then hb0 (below_then (below_then hb hb4) hb5)⟩

def z12 : Array Value := #[.int .u64 0, .int .u64 0, .int .u64 0, .int .u64 0, .int .u64 0, .int .u64 0, .int .u64 0, .int .u64 0, .int .u64 0, .int .u64 0, .int .u64 0, .int .u64 0]
theorem IsD.all {D : Array Value} (h : IsD D) : D.all (·.oneCell') = true := all_one fun i v hv => by
  have hi : i < 12 := by have := (Array.getElem?_eq_some_iff.1 hv).1; rw [h.size] at this; exact this
  rw [(h.c i hi).1] at hv
  injection hv with hv
  subst hv
  rfl
theorem set_below {W w : World} {B g i : Nat} {v : Value} (h : Below B W w) (hg : B ≤ g) : Below B W (w.setCell ⟨g, i, none⟩ v) :=
  ⟨h.os, h.tape, h.output, by simp [World.setCell]; exact h.size, fun k hk => by rw [heap_setCell_other w ⟨g, i, none⟩ k v (fun e => by simp at e; omega)]; exact h.block k hk⟩
theorem results_cell_any {fn : Func} {P : Program} {p : Tmp} {ty : TypeId} (h : fn.results = #[.cell p ty]) (tmps : Array Value) (w : World) (g : Nat) (t : TypeId) (cs : Array Value) (d : TypeDesc)
    (hp : tmps.getD p undef = .pointer (some ⟨g, 0, none⟩)) (hg : w.heap[g]? = some (.cells cs t (0, 0)))
    (hu : P.underlying ty = some d) (hd : (match d with | .struct _ | .array _ _ => true | _ => false) = true) (hi : (P.info? ty).map (·.size) = some cs.size) :
    (results fn tmps).run P w = .ok (.agg cs) w := results_cell_row h tmps w g t cs (0, 0) d hp hg hu hd hi

set_option maxHeartbeats 1000000 in
theorem plus_any (A B : Array Value) (w : World) (hA : IsD A) (hB : IsD B) :
    Calls Try.prog 44 #[.agg A, .agg B] w fun e w' => e = .returned (.agg (pl A B 12)) ∧ Below w.heap.size w w' := by
  have HA := Lib.hid hA
  have HB := Lib.hid hB
  clear hA hB
  go_enter Try.func44, Try.ntmps44
  go_wp2_with (first | ((with_reducible refine at_alloc 56 ?_); refine wpList_alloc_named rfl 56 rfl (z12) (by kernel_rfl) ?_))
  go_loopg [5, 6] 12 (fun gh c i wr => ∃ k : Nat, k ≤ 12 ∧ gh = 12 - k ∧ c = .int .u64 (cd A B k) ∧ i = .int .i64 k ∧ wr.heap[w.heap.size]? = some (.cells (pl A B k) 56 (0, 0)) ∧
    wr.heap[w.heap.size + 1]? = some (.cells B 56 (0, 0)) ∧ wr.heap[w.heap.size + 2]? = some (.cells z12 56 (0, 0)) ∧ Below w.heap.size w wr)
  case atStart => exact ⟨0, by omega, by omega, rfl, rfl, by repeat (first | exact heap_new (by simp; done) | refine heap_up ?_), by repeat (first | exact heap_new (by simp; done) | refine heap_up ?_), by repeat (first | exact heap_new (by simp; done) | refine heap_up ?_), below_alloc (below_alloc (below_new _ _) _) _⟩
  case round =>
    obtain ⟨k, hk, rfl, rfl, rfl, hgA, hgB, hgZ, hb⟩ := hrel
    by_cases hlt : k < 12
    · obtain ⟨a0, a1, a2⟩ := HA.out.c k hlt
      obtain ⟨b0, b1, b2⟩ := HB.out.c k hlt
      have hcd := cd_bd HA.out HB.out k hk
      have ap := pl_later A B k k (Nat.le_refl _)
      rw [a0] at ap
      have HP := Lib.hid (show pl A B (k + 1) = (pl A B k).setIfInBounds k (.int .u64 ((cd A B k + N A k + N B k) % 65536)) from rfl)
      have HC := Lib.hid (show cd A B (k + 1) = (cd A B k + N A k + N B k) / 65536 from rfl)
      clear a0
      generalize cd A B k = c at *
      generalize N A k = x at *
      generalize N B k = y at *
      go_wp2
      refine wp_region_below (by kernel_rfl) (by kernel_rfl) ?_
      repeat (first | ((with_reducible apply q_skip); (case hw => rfl); (try simp only [Act.put, List.setIfInBounds_toArray, List.set_cons_zero, List.set_cons_succ])) | ((with_reducible apply q_val); (case hw => rfl); (case hv => intro wq hbq; have hcq := cellF (Yticdcdahehodkaa.kept hbq hgA); have hcr := cellF (Yticdcdahehodkaa.kept hbq hgB); go_simp; try rfl); (try simp only [Act.put, List.setIfInBounds_toArray, List.set_cons_zero, List.set_cons_succ])))
      refine q_nil ?_
      intro w4 hb4
      have hgA4 := Yticdcdahehodkaa.kept hb4 hgA
      obtain ⟨c4, f4, _⟩ := cells_of hgA4
      go_wp2
      go_roundg (12 - (k + 1))
      case measure => omega
      case rel => exact ⟨k + 1, by omega, rfl, by rw [HC.out], by go_num, by rw [HP.out]; exact heap_set hgA4, heap_set_other (Yticdcdahehodkaa.kept hb4 hgB) (by omega), heap_set_other (Yticdcdahehodkaa.kept hb4 hgZ) (by omega),
        set_below (below_then hb hb4) (Nat.le_refl _)⟩
    · obtain rfl : k = 12 := by omega
      have hD := pl_D HA.out (B := B)
      have HE := Lib.hid (extract_all hD.size)
      go_wp2_with (first | ((with_reducible refine at_load 56 ?_); refine wpList_load_part rfl 56 _ rfl (w.heap.size) (0) rfl _ (pl A B 12) _ _ 12 (hgA) Try.underlying56 rfl (by kernel_rfl) (by rw [hD.size]; omega) (pl A B 12) (HE.out) ?_) | ((with_reducible refine at_store 56 ?_); refine wpList_store_over rfl 56 _ _ rfl (w.heap.size + 2) (pl A B 12) rfl rfl _ _ (hgZ) (by rw [hD.size]; kernel_rfl) (by rw [hD.size]; rfl) (hD.all) ?_; intro w1 hg1 hs1 ho1 hb1))
      exact bodyPost_ret (results_cell_any rfl _ _ _ _ _ _ rfl hg1 Try.underlying56 rfl (by rw [hD.size]; kernel_rfl)) rfl ⟨rfl, hb.trans (hb1 _ (by omega))⟩

set_option maxHeartbeats 1000000 in
theorem minus_any (A B : Array Value) (w : World) (hA : IsD A) (hB : IsD B) :
    Calls Try.prog 45 #[.agg A, .agg B] w fun e w' => e = .returned (.agg (mi A B 12)) ∧ Below w.heap.size w w' := by
  have HA := Lib.hid hA
  have HB := Lib.hid hB
  clear hA hB
  go_enter Try.func45, Try.ntmps45
  go_wp2_with (first | ((with_reducible refine at_alloc 56 ?_); refine wpList_alloc_named rfl 56 rfl (z12) (by kernel_rfl) ?_))
  go_loopg [5, 6] 12 (fun gh c i wr => ∃ k : Nat, k ≤ 12 ∧ gh = 12 - k ∧ c = .int .u64 (bw A B k) ∧ i = .int .i64 k ∧ wr.heap[w.heap.size]? = some (.cells (mi A B k) 56 (0, 0)) ∧
    wr.heap[w.heap.size + 1]? = some (.cells B 56 (0, 0)) ∧ wr.heap[w.heap.size + 2]? = some (.cells z12 56 (0, 0)) ∧ Below w.heap.size w wr)
  case atStart => exact ⟨0, by omega, by omega, rfl, rfl, by repeat (first | exact heap_new (by simp; done) | refine heap_up ?_), by repeat (first | exact heap_new (by simp; done) | refine heap_up ?_), by repeat (first | exact heap_new (by simp; done) | refine heap_up ?_), below_alloc (below_alloc (below_new _ _) _) _⟩
  case round =>
    obtain ⟨k, hk, rfl, rfl, rfl, hgA, hgB, hgZ, hb⟩ := hrel
    by_cases hlt : k < 12
    · obtain ⟨a0, a1, a2⟩ := HA.out.c k hlt
      obtain ⟨b0, b1, b2⟩ := HB.out.c k hlt
      have hcd := bw_bd HA.out HB.out k hk
      have ap := mi_later A B k k (Nat.le_refl _)
      rw [a0] at ap
      have HP := Lib.hid (show mi A B (k + 1) = (mi A B k).setIfInBounds k (.int .u64 ((65536 + N A k - N B k - bw A B k) % 65536)) from rfl)
      have HC := Lib.hid (show bw A B (k + 1) = 1 - (65536 + N A k - N B k - bw A B k) / 65536 from rfl)
      clear a0
      generalize bw A B k = c at *
      generalize N A k = x at *
      generalize N B k = y at *
      go_wp2
      refine wp_region_below (by kernel_rfl) (by kernel_rfl) ?_
      repeat (first | ((with_reducible apply q_skip); (case hw => rfl); (try simp only [Act.put, List.setIfInBounds_toArray, List.set_cons_zero, List.set_cons_succ])) | ((with_reducible apply q_val); (case hw => rfl); (case hv => intro wq hbq; have hcq := cellF (Yticdcdahehodkaa.kept hbq hgA); have hcr := cellF (Yticdcdahehodkaa.kept hbq hgB); go_simp; try rfl); (try simp only [Act.put, List.setIfInBounds_toArray, List.set_cons_zero, List.set_cons_succ])))
      refine q_nil ?_
      intro w4 hb4
      have hgA4 := Yticdcdahehodkaa.kept hb4 hgA
      obtain ⟨c4, f4, _⟩ := cells_of hgA4
      go_wp2
      go_roundg (12 - (k + 1))
      case measure => omega
      case rel => exact ⟨k + 1, by omega, rfl, by rw [HC.out], by go_num, by rw [HP.out]; exact heap_set hgA4, heap_set_other (Yticdcdahehodkaa.kept hb4 hgB) (by omega), heap_set_other (Yticdcdahehodkaa.kept hb4 hgZ) (by omega),
        set_below (below_then hb hb4) (Nat.le_refl _)⟩
    · obtain rfl : k = 12 := by omega
      have hD := mi_D HA.out (B := B)
      have HE := Lib.hid (extract_all hD.size)
      go_wp2_with (first | ((with_reducible refine at_load 56 ?_); refine wpList_load_part rfl 56 _ rfl (w.heap.size) (0) rfl _ (mi A B 12) _ _ 12 (hgA) Try.underlying56 rfl (by kernel_rfl) (by rw [hD.size]; omega) (mi A B 12) (HE.out) ?_) | ((with_reducible refine at_store 56 ?_); refine wpList_store_over rfl 56 _ _ rfl (w.heap.size + 2) (mi A B 12) rfl rfl _ _ (hgZ) (by rw [hD.size]; kernel_rfl) (by rw [hD.size]; rfl) (hD.all) ?_; intro w1 hg1 hs1 ho1 hb1))
      exact bodyPost_ret (results_cell_any rfl _ _ _ _ _ _ rfl hg1 Try.underlying56 rfl (by rw [hD.size]; kernel_rfl)) rfl ⟨rfl, hb.trans (hb1 _ (by omega))⟩
end Go.Proofs.Yticdcdahehodkaa
