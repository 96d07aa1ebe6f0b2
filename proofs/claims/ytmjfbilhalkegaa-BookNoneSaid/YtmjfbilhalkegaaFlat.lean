/- Rows of cells of any width that a call makes by append: where they lie, what keeps them. No condition. -/
import Derived.Test.YtmjfbilhalkegaaTail2
import Derived.Maps.Own
import Derived.Deep.CutRange
import Derived.Deep.LoopGhost
import Derived.Deep.Slices
import Derived.OpenShut
import Derived.Laws.AppendOwn
import Derived.Laws.AppendOwnNone
import Derived.Great.BuildSlice
namespace Go.Proofs.Ytmjfbilhalkegaa
set_option linter.unusedVariables false
set_option linter.unusedSimpArgs false
open Go.RowKit Go.Deep

theorem below_set {w w1 : World} {B g i : Nat} {v : Value} (h : Below B w w1) (hg : B ≤ g) : Below B w (w1.setCell ⟨g, i, none⟩ v) := by
  have hsz : (w1.setCell ⟨g, i, none⟩ v).heap.size = w1.heap.size := by simp [World.setCell]
  exact ⟨h.1, h.2, h.3, by rw [hsz]; exact h.size, fun k hk => by rw [heap_setCell_other w1 ⟨g, i, none⟩ k v (by simp; omega)]; exact h.block k hk⟩
theorem own_below {w w1 : World} {base n size : Nat} {e : TypeId} {v : Value} {xs : List Value} (hb : Below w.heap.size w w1) (h : w.ownsRow base e size v n xs) : w1.ownsRow base e size v n xs :=
  h.kept (row := none) ⟨hb.1, hb.2, hb.3, hb.size, fun k hk _ => hb.block k hk⟩ (by cases v.ownBlock <;> simp)
/-- the first n rows' cells, one behind the other -/
def flat (L : Nat → Array Value) : Nat → List Value
  | 0 => []
  | n + 1 => flat L n ++ (L n).toList
theorem flat_congr {L L' : Nat → Array Value} : ∀ n, (∀ i, i < n → L i = L' i) → flat L n = flat L' n
  | 0, _ => rfl
  | n + 1, h => by rw [flat, flat, flat_congr n (fun i hi => h i (by omega)), h n (by omega)]
/-- a row behind the first n -/
def snoc (F : Nat → Array Value) (n : Nat) (x : Array Value) : Nat → Array Value := fun i => if i = n then x else F i
theorem snoc_lt (F : Nat → Array Value) (n : Nat) (x : Array Value) : ∀ i, i < n → snoc F n x i = F i := fun i hi => by simp [snoc]; omega
theorem snoc_at (F : Nat → Array Value) (n : Nat) (x : Array Value) : snoc F n x n = x := by simp [snoc]
theorem flat_snoc (F : Nat → Array Value) (n : Nat) (x : Array Value) : flat (snoc F n x) (n + 1) = flat F n ++ x.toList := by
  rw [flat, flat_congr n (snoc_lt F n x), snoc_at]
theorem mul_in {n c i j : Nat} (hi : i < n) (hj : j < c) : i * c + j < n * c := by
  have h := Nat.mul_le_mul_right c (show i + 1 ≤ n by omega)
  rw [Nat.add_mul] at h
  omega
theorem flatc_len {L : Nat → Array Value} {c : Nat} (hL : ∀ i, (L i).size = c) : ∀ n, (flat L n).length = n * c
  | 0 => by simp [flat]
  | n + 1 => by rw [flat, List.length_append, flatc_len hL n, Array.length_toList, hL n, Nat.add_mul]; omega
theorem flatc_at {L : Nat → Array Value} {c : Nat} (hL : ∀ i, (L i).size = c) : ∀ n i j : Nat, i < n → j < c → (flat L n)[i * c + j]? = (L i)[j]?
  | 0, i, j, hi, _ => by omega
  | n + 1, i, j, hi, hj => by
    have hl := flatc_len hL n
    rw [flat]
    by_cases e : i = n
    · subst e
      rw [List.getElem?_append_right (by omega), hl, show i * c + j - i * c = j by omega, Array.getElem?_toList]
    · rw [List.getElem?_append_left (by rw [hl]; exact mul_in (by omega) hj)]
      exact flatc_at hL n i j (by omega) hj
theorem flatc_one {L : Nat → Array Value} (hL : ∀ i, (L i).all (·.oneCell') = true) : ∀ n, ∀ v ∈ flat L n, v.oneCell' = true
  | 0, v, h => by simp [flat] at h
  | n + 1, v, h => by
    rw [flat, List.mem_append] at h
    rcases h with h | h
    · exact flatc_one hL n v h
    · have h1 := hL n
      rw [Array.all_eq_true'] at h1
      exact h1 v (by simpa using h)
/-- rows of c cells that lie one behind the other in a block of that type -/
def RowsT (w : World) (t : TypeId) (c : Nat) (a : Option Addr) (n : Nat) (L : Nat → Array Value) : Prop :=
  ∀ i, i < n → ∃ g off A fr, a = some ⟨g, off, none⟩ ∧ w.heap[g]? = some (.cells A t fr) ∧ off + i * c + c ≤ A.size ∧ A.extract (off + i * c) (off + i * c + c) = L i
theorem own_rows {w : World} {base n c : Nat} {e : TypeId} {v : Value} {L : Nat → Array Value} (hL : ∀ i, (L i).size = c) (h : w.ownsRow base e c v n (flat L n)) :
    ∃ a cap, v = .slice a n cap ∧ RowsT w e c a n L ∧ n ≤ cap ∧ cap ≤ 9223372036854775807 ∧ (a = none → n = 0 ∧ cap = 0) := by
  obtain ⟨_, ⟨rfl, rfl⟩ | ⟨g, cap, cur, rfl, _, hg, hn, hm, hc, ht⟩⟩ := h
  · exact ⟨none, 0, rfl, fun i hi => by omega, by omega, by omega, fun _ => ⟨rfl, rfl⟩⟩
  · refine ⟨_, cap, rfl, fun i hi => ⟨g, 0, cur, _, rfl, hg, ?_, ?_⟩, hn, by unfold maxLen at hm; omega, fun h => by cases h⟩
    · have h1 := Nat.mul_le_mul_right c (show i + 1 ≤ cap by omega)
      rw [Nat.add_mul] at h1
      omega
    · apply Array.ext_getElem?
      intro j
      rw [Array.getElem?_extract]
      by_cases hj : j < c
      · have h1 := Nat.mul_le_mul_right c (show i + 1 ≤ cap by omega)
        rw [Nat.add_mul] at h1
        rw [if_pos (by omega), ← flatc_at hL n i j hi hj, ← ht, List.getElem?_take, if_pos (mul_in hi hj), Array.getElem?_toList]
        simp
      · rw [if_neg (by omega)]
        symm
        rw [Array.getElem?_eq_none_iff, hL i]; omega
theorem rowsT_grown {w w' : World} {t t2 : TypeId} {c n : Nat} {a : Option Addr} {L : Nat → Array Value} {row : Option Nat} (h : RowsT w t c a n L) (hg : w.grownBy w' row) (hr : ∀ g, row = some g → ∃ A fr, w.heap[g]? = some (.cells A t2 fr)) (hne : t ≠ t2) : RowsT w' t c a n L := fun i hi => by
  obtain ⟨g, off, A, fr, h1, h2, h3⟩ := h i hi
  refine ⟨g, off, A, fr, h1, ?_, h3⟩
  rw [hg.block g (Array.getElem?_eq_some_iff.1 h2).1 (fun e => ?_)]
  · exact h2
  · obtain ⟨A2, fr2, h4⟩ := hr g e.symm
    rw [h4] at h2
    injection h2 with h2
    injection h2 with _ h5
    exact hne h5.symm
theorem rowsT_kept {w w' : World} {t : TypeId} {c n : Nat} {a : Option Addr} {L : Nat → Array Value} (h : RowsT w t c a n L) (hb : Below w.heap.size w w') : RowsT w' t c a n L := fun i hi => by
  obtain ⟨g, off, A, fr, h1, h2, h3⟩ := h i hi
  exact ⟨g, off, A, fr, h1, kept hb h2, h3⟩
theorem own_tag {w : World} {base n c : Nat} {e : TypeId} {v : Value} {xs : List Value} (h : w.ownsRow base e c v n xs) : ∀ g, v.ownBlock = some g → ∃ A fr, w.heap[g]? = some (.cells A e fr) := by
  obtain ⟨_, ⟨rfl, rfl⟩ | ⟨g, cap, cur, rfl, _, hg, _⟩⟩ := h
  · intro g h; cases h
  · intro g' h
    injection h with h
    subst h
    exact ⟨cur, _, hg⟩
theorem rows_at {w : World} {ad : Addr} {n c : Nat} {L : Nat → Array Value} (hc : 0 < c) (hL : ∀ i, (L i).size = c)
    (h : ∀ i, i < n → ∃ g off A t fr, some ad = some (⟨g, off, none⟩ : Addr) ∧ w.heap[g]? = some (.cells A t fr) ∧ off + i * c + c ≤ A.size ∧ A.extract (off + i * c) (off + i * c + c) = L i) (j : Nat) (u : Value) (hj : (flat L n)[j]? = some u) : w.cell? (ad.add j) = some u := by
  have hlt : j < n * c := by rw [← flatc_len hL n]; exact (List.getElem?_eq_some_iff.1 hj).1
  have hq : j / c < n := (Nat.div_lt_iff_lt_mul hc).2 hlt
  have hr : j % c < c := Nat.mod_lt _ hc
  have hjj : j / c * c + j % c = j := by rw [Nat.mul_comm]; exact Nat.div_add_mod j c
  obtain ⟨g, off, A, t, fr, ha, hg, hs, he⟩ := h (j / c) hq
  injection ha with ha
  subst ha
  have h1 := flatc_at hL n (j / c) (j % c) hq hr
  rw [hjj, hj] at h1
  have h2 : (⟨g, off, none⟩ : Addr).add j = ⟨g, off + j, none⟩ := by unfold Addr.add; split <;> simp_all
  rw [h2, cellF hg]
  have h3 : A[off + j / c * c + j % c]? = (L (j / c))[j % c]? := by
    rw [← he, Array.getElem?_extract, if_pos (by omega)]
  rw [show off + j / c * c + j % c = off + j by omega] at h3
  rw [h3, ← h1]


theorem op_load_all {P : Program} {o : Oper} {a : Act} {w : World} {K : Act → World → Prop} {Q : Exit → Act → World → Prop} (ty : TypeId) (x : Operand) (ho : o.op = .load ty x)
    (g off : Nat) (hx : a.eval x = .pointer (some ⟨g, off, none⟩)) (t : TypeId) (cs : Array Value) (fr : Nat × Nat) (d : TypeDesc) (n : Nat) (hg : w.heap[g]? = some (.cells cs t fr))
    (hu : P.underlying ty = some d) (hd : (match d with | .struct _ | .array _ _ => true | _ => false) = true) (hi : (P.info? ty).map (·.size) = some n) (hn : off + n ≤ cs.size) (B : Array Value) (hB : cs.extract off (off + n) = B)
    (h : K (a.put o.dst (.agg B)) w) : o.wp P a w K Q :=
  wp_load_part ty x ho g off hx t cs fr d n hg hu hd hi hn (by rw [hB]; exact h)
theorem op_store_over' {P : Program} {o : Oper} {a : Act} {w : World} {K : Act → World → Prop} {Q : Exit → Act → World → Prop} (ty : TypeId) (x y : Operand) (ho : o.op = .store ty x y)
    (g : Nat) (S : Array Value) (hx : a.eval x = .pointer (some ⟨g, 0, none⟩)) (hy : a.eval y = .agg S)
    (t : TypeId) (old : Array Value) (hg : w.heap[g]? = some (.cells old t (0, 0))) (hi : (P.info? ty).map (·.size) = some S.size)
    (hold : old.size = S.size) (h1 : S.all (·.oneCell') = true)
    (h : ∀ w1 : World, w1.heap[g]? = some (.cells S t (0, 0)) → (∀ k, k ≠ g → w1.heap[k]? = w.heap[k]?) → (∀ B, B ≤ g → Below B w w1) → K (a.put o.dst undef) w1) : o.wp P a w K Q :=
  wp_store_row ty x y ho g S hx hy t old hg hi hold h1 (h _ (setRow_heap w g old S t _ hg) (fun k hk => setRow_other w g k S hk)
    (fun B hB => ⟨rfl, rfl, rfl, Nat.le_of_eq (setRow_size _ _ _).symm, fun k hk => setRow_other w g k S (by omega)⟩))
end Go.Proofs.Ytmjfbilhalkegaa
