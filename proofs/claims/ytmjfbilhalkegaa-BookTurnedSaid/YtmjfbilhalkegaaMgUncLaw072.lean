/- Texts that UncLaw07 stands on, one behind the other, part 2. Conditions: each theorem names its own. -/
import Derived.Test.YtmjfbilhalkegaaMgUncLaw071
import Derived.Maps.Own
import Derived.Deep.CutRange
import Derived.Deep.LoopGhost
import Derived.Deep.Slices
import Derived.OpenShut
import Derived.Laws.AppendOwn
import Derived.Laws.AppendOwnNone
import Derived.Great.BuildSlice
import Derived.Deep.RegionLaw
import Derived.Lib.SliceRun
import Derived.Laws.IdiomCopy
import Derived.Deep.RegionHeld3
/-! Rows of cells of any width that a call makes by append: where they lie, what keeps them. No condition. -/
namespace Go.Proofs.Ytmjfbilhalkegaa
set_option linter.unusedVariables false
set_option linter.unusedSimpArgs false
open Go.RowKit Go.Deep

theorem below_set {w w1 : World} {B g i : Nat} {v : Value} (h : Below B w w1) (hg : B ≤ g) : Below B w (w1.setCell ⟨g, i, none⟩ v) := by
  have hsz : (w1.setCell ⟨g, i, none⟩ v).heap.size = w1.heap.size := by simp [World.setCell]
  exact ⟨h.1, h.2, h.3, by rw [hsz]; exact h.size, fun k hk => by rw [heap_setCell_other w1 ⟨g, i, none⟩ k v (by simp; omega)]; exact h.block k hk⟩
theorem own_below {w w1 : World} {base n size : Nat} {e : TypeId} {v : Value} {xs : List Value} (hb : Below w.heap.size w w1) (h : w.ownsRow base e size v n xs) : w1.ownsRow base e size v n xs :=
  h.kept (row := none) ⟨hb.1, hb.2, hb.3, hb.size, fun k hk _ => hb.block k hk⟩ (by cases v.ownBlock <;> simp)
/-- the first n rows' cells, one behind the other -/
def flat (L : Nat → Array Value) : Nat → List Value
  | 0 => []
  | n + 1 => flat L n ++ (L n).toList
theorem flat_congr {L L' : Nat → Array Value} : ∀ n, (∀ i, i < n → L i = L' i) → flat L n = flat L' n
  | 0, _ => rfl
  | n + 1, h => by rw [flat, flat, flat_congr n (fun i hi => h i (by omega)), h n (by omega)]
/-- a row behind the first n -/
def snoc (F : Nat → Array Value) (n : Nat) (x : Array Value) : Nat → Array Value := fun i => if i = n then x else F i
theorem snoc_lt (F : Nat → Array Value) (n : Nat) (x : Array Value) : ∀ i, i < n → snoc F n x i = F i := fun i hi => by simp [snoc]; omega
theorem snoc_at (F : Nat → Array Value) (n : Nat) (x : Array Value) : snoc F n x n = x := by simp [snoc]
theorem flat_snoc (F : Nat → Array Value) (n : Nat) (x : Array Value) : flat (snoc F n x) (n + 1) = flat F n ++ x.toList := by
  rw [flat, flat_congr n (snoc_lt F n x), snoc_at]
theorem mul_in {n c i j : Nat} (hi : i < n) (hj : j < c) : i * c + j < n * c := by
  have h := Nat.mul_le_mul_right c (show i + 1 ≤ n by omega)
  rw [Nat.add_mul] at h
  omega
theorem flatc_len {L : Nat → Array Value} {c : Nat} (hL : ∀ i, (L i).size = c) : ∀ n, (flat L n).length = n * c
  | 0 => by simp [flat]
  | n + 1 => by rw [flat, List.length_append, flatc_len hL n, Array.length_toList, hL n, Nat.add_mul]; omega
theorem flatc_at {L : Nat → Array Value} {c : Nat} (hL : ∀ i, (L i).size = c) : ∀ n i j : Nat, i < n → j < c → (flat L n)[i * c + j]? = (L i)[j]?
  | 0, i, j, hi, _ => by omega
  | n + 1, i, j, hi, hj => by
    have hl := flatc_len hL n
    rw [flat]
    by_cases e : i = n
    · subst e
      rw [List.getElem?_append_right (by omega), hl, show i * c + j - i * c = j by omega, Array.getElem?_toList]
    · rw [List.getElem?_append_left (by rw [hl]; exact mul_in (by omega) hj)]
      exact flatc_at hL n i j (by omega) hj
theorem flatc_one {L : Nat → Array Value} (hL : ∀ i, (L i).all (·.oneCell') = true) : ∀ n, ∀ v ∈ flat L n, v.oneCell' = true
  | 0, v, h => by simp [flat] at h
  | n + 1, v, h => by
    rw [flat, List.mem_append] at h
    rcases h with h | h
    · exact flatc_one hL n v h
    · have h1 := hL n
      rw [Array.all_eq_true'] at h1
      exact h1 v (by simpa using h)
/-- rows of c cells that lie one behind the other in a block of that type -/
def RowsT (w : World) (t : TypeId) (c : Nat) (a : Option Addr) (n : Nat) (L : Nat → Array Value) : Prop :=
  ∀ i, i < n → ∃ g off A fr, a = some ⟨g, off, none⟩ ∧ w.heap[g]? = some (.cells A t fr) ∧ off + i * c + c ≤ A.size ∧ A.extract (off + i * c) (off + i * c + c) = L i
theorem own_rows {w : World} {base n c : Nat} {e : TypeId} {v : Value} {L : Nat → Array Value} (hL : ∀ i, (L i).size = c) (h : w.ownsRow base e c v n (flat L n)) :
    ∃ a cap, v = .slice a n cap ∧ RowsT w e c a n L ∧ n ≤ cap ∧ cap ≤ 9223372036854775807 ∧ (a = none → n = 0 ∧ cap = 0) := by
  obtain ⟨_, ⟨rfl, rfl⟩ | ⟨g, cap, cur, rfl, _, hg, hn, hm, hc, ht⟩⟩ := h
  · exact ⟨none, 0, rfl, fun i hi => by omega, by omega, by omega, fun _ => ⟨rfl, rfl⟩⟩
  · refine ⟨_, cap, rfl, fun i hi => ⟨g, 0, cur, _, rfl, hg, ?_, ?_⟩, hn, by unfold maxLen at hm; omega, fun h => by cases h⟩
    · have h1 := Nat.mul_le_mul_right c (show i + 1 ≤ cap by omega)
      rw [Nat.add_mul] at h1
      omega
    · apply Array.ext_getElem?
      intro j
      rw [Array.getElem?_extract]
      by_cases hj : j < c
      · have h1 := Nat.mul_le_mul_right c (show i + 1 ≤ cap by omega)
        rw [Nat.add_mul] at h1
        rw [if_pos (by omega), ← flatc_at hL n i j hi hj, ← ht, List.getElem?_take, if_pos (mul_in hi hj), Array.getElem?_toList]
        simp
      · rw [if_neg (by omega)]
        symm
        rw [Array.getElem?_eq_none_iff, hL i]; omega
theorem rowsT_grown {w w' : World} {t t2 : TypeId} {c n : Nat} {a : Option Addr} {L : Nat → Array Value} {row : Option Nat} (h : RowsT w t c a n L) (hg : w.grownBy w' row) (hr : ∀ g, row = some g → ∃ A fr, w.heap[g]? = some (.cells A t2 fr)) (hne : t ≠ t2) : RowsT w' t c a n L := fun i hi => by
  obtain ⟨g, off, A, fr, h1, h2, h3⟩ := h i hi
  refine ⟨g, off, A, fr, h1, ?_, h3⟩
  rw [hg.block g (Array.getElem?_eq_some_iff.1 h2).1 (fun e => ?_)]
  · exact h2
  · obtain ⟨A2, fr2, h4⟩ := hr g e.symm
    rw [h4] at h2
    injection h2 with h2
    injection h2 with _ h5
    exact hne h5.symm
theorem rowsT_kept {w w' : World} {t : TypeId} {c n : Nat} {a : Option Addr} {L : Nat → Array Value} (h : RowsT w t c a n L) (hb : Below w.heap.size w w') : RowsT w' t c a n L := fun i hi => by
  obtain ⟨g, off, A, fr, h1, h2, h3⟩ := h i hi
  exact ⟨g, off, A, fr, h1, kept hb h2, h3⟩
theorem own_tag {w : World} {base n c : Nat} {e : TypeId} {v : Value} {xs : List Value} (h : w.ownsRow base e c v n xs) : ∀ g, v.ownBlock = some g → ∃ A fr, w.heap[g]? = some (.cells A e fr) := by
  obtain ⟨_, ⟨rfl, rfl⟩ | ⟨g, cap, cur, rfl, _, hg, _⟩⟩ := h
  · intro g h; cases h
  · intro g' h
    injection h with h
    subst h
    exact ⟨cur, _, hg⟩
theorem rows_at {w : World} {ad : Addr} {n c : Nat} {L : Nat → Array Value} (hc : 0 < c) (hL : ∀ i, (L i).size = c)
    (h : ∀ i, i < n → ∃ g off A t fr, some ad = some (⟨g, off, none⟩ : Addr) ∧ w.heap[g]? = some (.cells A t fr) ∧ off + i * c + c ≤ A.size ∧ A.extract (off + i * c) (off + i * c + c) = L i) (j : Nat) (u : Value) (hj : (flat L n)[j]? = some u) : w.cell? (ad.add j) = some u := by
  have hlt : j < n * c := by rw [← flatc_len hL n]; exact (List.getElem?_eq_some_iff.1 hj).1
  have hq : j / c < n := (Nat.div_lt_iff_lt_mul hc).2 hlt
  have hr : j % c < c := Nat.mod_lt _ hc
  have hjj : j / c * c + j % c = j := by rw [Nat.mul_comm]; exact Nat.div_add_mod j c
  obtain ⟨g, off, A, t, fr, ha, hg, hs, he⟩ := h (j / c) hq
  injection ha with ha
  subst ha
  have h1 := flatc_at hL n (j / c) (j % c) hq hr
  rw [hjj, hj] at h1
  have h2 : (⟨g, off, none⟩ : Addr).add j = ⟨g, off + j, none⟩ := by unfold Addr.add; split <;> simp_all
  rw [h2, cellF hg]
  have h3 : A[off + j / c * c + j % c]? = (L (j / c))[j % c]? := by
    rw [← he, Array.getElem?_extract, if_pos (by omega)]
  rw [show off + j / c * c + j % c = off + j by omega] at h3
  rw [h3, ← h1]


theorem op_load_all {P : Program} {o : Oper} {a : Act} {w : World} {K : Act → World → Prop} {Q : Exit → Act → World → Prop} (ty : TypeId) (x : Operand) (ho : o.op = .load ty x)
    (g off : Nat) (hx : a.eval x = .pointer (some ⟨g, off, none⟩)) (t : TypeId) (cs : Array Value) (fr : Nat × Nat) (d : TypeDesc) (n : Nat) (hg : w.heap[g]? = some (.cells cs t fr))
    (hu : P.underlying ty = some d) (hd : (match d with | .struct _ | .array _ _ => true | _ => false) = true) (hi : (P.info? ty).map (·.size) = some n) (hn : off + n ≤ cs.size) (B : Array Value) (hB : cs.extract off (off + n) = B)
    (h : K (a.put o.dst (.agg B)) w) : o.wp P a w K Q :=
  wp_load_part ty x ho g off hx t cs fr d n hg hu hd hi hn (by rw [hB]; exact h)
theorem op_store_over' {P : Program} {o : Oper} {a : Act} {w : World} {K : Act → World → Prop} {Q : Exit → Act → World → Prop} (ty : TypeId) (x y : Operand) (ho : o.op = .store ty x y)
    (g : Nat) (S : Array Value) (hx : a.eval x = .pointer (some ⟨g, 0, none⟩)) (hy : a.eval y = .agg S)
    (t : TypeId) (old : Array Value) (hg : w.heap[g]? = some (.cells old t (0, 0))) (hi : (P.info? ty).map (·.size) = some S.size)
    (hold : old.size = S.size) (h1 : S.all (·.oneCell') = true)
    (h : ∀ w1 : World, w1.heap[g]? = some (.cells S t (0, 0)) → (∀ k, k ≠ g → w1.heap[k]? = w.heap[k]?) → (∀ B, B ≤ g → Below B w w1) → K (a.put o.dst undef) w1) : o.wp P a w K Q :=
  wp_store_row ty x y ho g S hx hy t old hg hi hold h1 (h _ (setRow_heap w g old S t _ hg) (fun k hk => setRow_other w g k S hk)
    (fun B hB => ⟨rfl, rfl, rfl, Nat.le_of_eq (setRow_size _ _ _).symm, fun k hk => setRow_other w g k S (by omega)⟩))
end Go.Proofs.Ytmjfbilhalkegaa
/-! A function's results of which the first lies in a block. No condition. -/
namespace Go.Proofs.Ytmjfbilhalkegaa
set_option linter.unusedVariables false
set_option linter.unusedSimpArgs false
open Go.RowKit

theorem post_cell_tmp {fn : Func} {P : Program} {p q : Tmp} {ty : TypeId} {R : Ending → World → Prop} {a : Act} {w : World} {g : Nat} {t : TypeId} {cs : Array Value} {d : TypeDesc} {v : Value} (h : fn.results = #[.cell p ty, .tmp q])
    (hd0 : a.defers = []) (hp : a.tmps.getD p undef = .pointer (some ⟨g, 0, none⟩)) (hv : a.tmps.getD q undef = v) (hg : w.heap[g]? = some (.cells cs t (0, 0)))
    (hu : P.underlying ty = some d) (hd : (match d with | .struct _ | .array _ _ => true | _ => false) = true) (hi : (P.info? ty).map (·.size) = some cs.size) (hR : R (.returned (.tuple #[.agg cs, v])) w) : bodyPost P fn R .ret a w := by
  refine bodyPost_ret (v := .tuple #[.agg cs, v]) ?_ hd0 hR
  have hp' : a.tmps[p]?.getD undef = .pointer (some ⟨g, 0, none⟩) := by simpa using hp
  have hv' : a.tmps[q]?.getD undef = v := by simpa using hv
  simp [results, h, hp', hv', asAddr, run_loadVar_row w g t ty cs (0, 0) d hg hu hd hi]
end Go.Proofs.Ytmjfbilhalkegaa
/-! A side that is not there, or was not made, refuses: each method. No condition. -/
namespace Go.Proofs.Ytmjfbilhalkegaa
set_option linter.unusedVariables false
set_option linter.unusedSimpArgs false
open Go.RowKit

/-- no side, or one that was not made -/
def NoS (w : World) (p : Option Addr) : Prop := p = none ∨ ∃ g, p = some ⟨g, 0, none⟩ ∧ w.heap[g]? = some (.cells #[.bool false, .bool false, .slice none 0 0] 77 (0, 0))
theorem NoS.kept {w w' : World} {p : Option Addr} (h : NoS w p) (hb : Below w.heap.size w w') : NoS w' p := by
  rcases h with h | ⟨g, h, hg⟩
  · exact .inl h
  · exact .inr ⟨g, h, Ytmjfbilhalkegaa.kept hb hg⟩
theorem sready_no {w : World} {p : Option Addr} (h : NoS w p) : Calls Try.prog 39 #[.pointer p] w fun e w' => e = .returned (.bool false) ∧ w = w' := by
  rcases h with rfl | ⟨g, rfl, hg⟩
  · go_enter Try.func39, Try.ntmps39
    go_wp2
    go_ret
    exact ⟨rfl, rfl⟩
  · have cg := cellF hg
    go_enter Try.func39, Try.ntmps39
    go_wp2
    go_ret
    exact ⟨rfl, rfl⟩
theorem slen_no {w : World} {p : Option Addr} (h : NoS w p) : Calls Try.prog 30 #[.pointer p] w fun e w' => e = .returned (.int .i64 0) ∧ w = w' := by
  go_enter Try.func30, Try.ntmps30
  go_wp2_with ((go_at_call 39; (with_reducible refine (sready_no h).mono ?_); rintro e w1 ⟨rfl, rfl⟩))
  go_ret
  exact ⟨rfl, rfl⟩
theorem scopy_no {w : World} {p : Option Addr} (h : NoS w p) : Calls Try.prog 34 #[.pointer p] w fun e w' => e = .returned (.pointer none) ∧ w = w' := by
  go_enter Try.func34, Try.ntmps34
  go_wp2_with ((go_at_call 39; (with_reducible refine (sready_no h).mono ?_); rintro e w1 ⟨rfl, rfl⟩))
  go_ret
  exact ⟨rfl, rfl⟩
theorem sfind_no {w : World} {p : Option Addr} (n : Int) (h : NoS w p) : Calls Try.prog 44 #[.pointer p, .int .u64 n] w fun e w' => e = .returned (.tuple #[.int .i64 0, .int .i64 1]) ∧ w = w' := by
  go_enter Try.func44, Try.ntmps44
  go_wp2_with ((go_at_call 39; (with_reducible refine (sready_no h).mono ?_); rintro e w1 ⟨rfl, rfl⟩))
  go_ret2
  exact ⟨rfl, rfl⟩
theorem slower_no {w : World} {p : Option Addr} (n x : Int) (h : NoS w p) : Calls Try.prog 32 #[.pointer p, .int .u64 n, .int .i64 x] w fun e w' => e = .returned (.int .i64 1) ∧ w = w' := by
  go_enter Try.func32, Try.ntmps32
  go_wp2_with ((go_at_call 44; (with_reducible refine (sfind_no n h).mono ?_); rintro e w1 ⟨rfl, rfl⟩))
  go_ret
  exact ⟨rfl, rfl⟩
theorem sadd_no {w : World} {p : Option Addr} {B : Array Value} (hB : B.size = 5) (h : NoS w p) : Calls Try.prog 43 #[.pointer p, .agg B] w fun e w' => e = .returned (.int .i64 1) ∧ Below w.heap.size w w' := by
  have h1 := (h.kept (below_new w (Obj.cells #[.pointer p] 54)))
  have h2 := h1.kept (below_new _ (Obj.cells B 30))
  go_enter Try.func43, Try.ntmps43
  go_wp2_with ((go_at_call 39; (with_reducible refine (sready_no h2).mono ?_); rintro e w1 ⟨rfl, rfl⟩))
  go_ret
  exact ⟨rfl, below_alloc (below_new _ _) _⟩
/-- an empty order -/
def zo : Array Value := #[.int .u64 0, .int .u32 0, .bool false, .int .i64 0, .int .i64 0]
theorem zo_size : zo.size = 5 := rfl
theorem zo_all : zo.all (·.oneCell') = true := by kernel_rfl
theorem sget_no {w : World} {p : Option Addr} (n : Int) (h : NoS w p) : Calls Try.prog 37 #[.pointer p, .int .u64 n] w fun e w' => e = .returned (.tuple #[.agg zo, .int .i64 1]) ∧ Below w.heap.size w w' := by
  have h1 := h.kept (below_new w (Obj.cells zo 30))
  have hb := below_new w (Obj.cells zo 30)
  have hc := heap_alloc_new w (Obj.cells zo 30)
  have HZ := Lib.hid zo_size
  have HA := Lib.hid zo_all
  go_enter Try.func37, Try.ntmps37
  go_wp2_with (first | ((with_reducible refine at_alloc 30 ?_); refine wpList_alloc_named rfl 30 rfl zo (by kernel_rfl) ?_) | (go_at_call 44; (with_reducible refine (sfind_no n h1).mono ?_); rintro e w1 ⟨rfl, rfl⟩) | ((with_reducible refine at_build 30 ?_); refine wpList_build_named rfl 30 _ rfl zo (by kernel_rfl) ?_) | ((with_reducible refine at_store 30 ?_); refine wpList_store_over rfl 30 _ _ rfl (w.heap.size) (zo) rfl rfl _ _ (hc) (by rw [HZ.out]; kernel_rfl) (rfl) (HA.out) ?_; intro w3 hg3 hs3 ho3 hb3))
  exact post_cell_tmp (g := w.heap.size) (t := 30) (v := .int .i64 1) rfl rfl rfl rfl hg3 Try.underlying30 rfl (by rw [HZ.out]; kernel_rfl) ⟨rfl, hb.trans (hb3 _ (Nat.le_refl _))⟩
theorem sdrop_no {w : World} {p : Option Addr} (n : Int) (h : NoS w p) : Calls Try.prog 33 #[.pointer p, .int .u64 n] w fun e w' => e = .returned (.tuple #[.agg zo, .int .i64 1]) ∧ Below w.heap.size w w' := by
  have h1 := h.kept (below_new w (Obj.cells zo 30))
  have hb := below_new w (Obj.cells zo 30)
  have hc := heap_alloc_new w (Obj.cells zo 30)
  have HZ := Lib.hid zo_size
  have HA := Lib.hid zo_all
  go_enter Try.func33, Try.ntmps33
  go_wp2_with (first | ((with_reducible refine at_alloc 30 ?_); refine wpList_alloc_named rfl 30 rfl zo (by kernel_rfl) ?_) | (go_at_call 44; (with_reducible refine (sfind_no n h1).mono ?_); rintro e w1 ⟨rfl, rfl⟩) | ((with_reducible refine at_build 30 ?_); refine wpList_build_named rfl 30 _ rfl zo (by kernel_rfl) ?_) | ((with_reducible refine at_store 30 ?_); refine wpList_store_over rfl 30 _ _ rfl (w.heap.size) (zo) rfl rfl _ _ (hc) (by rw [HZ.out]; kernel_rfl) (rfl) (HA.out) ?_; intro w3 hg3 hs3 ho3 hb3))
  exact post_cell_tmp (g := w.heap.size) (t := 30) (v := .int .i64 1) rfl rfl rfl rfl hg3 Try.underlying30 rfl (by rw [HZ.out]; kernel_rfl) ⟨rfl, hb.trans (hb3 _ (Nat.le_refl _))⟩
theorem sfill_no {w : World} {p : Option Addr} (n : Int) (h : NoS w p) : Calls Try.prog 42 #[.pointer p, .int .i64 n] w fun e w' => e = .returned (.tuple #[.agg zo, .int .i64 1]) ∧ Below w.heap.size w w' := by
  have h1 := h.kept (below_new w (Obj.cells zo 30))
  have hb := below_new w (Obj.cells zo 30)
  have hc := heap_alloc_new w (Obj.cells zo 30)
  have HZ := Lib.hid zo_size
  have HA := Lib.hid zo_all
  go_enter Try.func42, Try.ntmps42
  go_wp2_with (first | ((with_reducible refine at_alloc 30 ?_); refine wpList_alloc_named rfl 30 rfl zo (by kernel_rfl) ?_) | (go_at_call 39; (with_reducible refine (sready_no h1).mono ?_); rintro e w1 ⟨rfl, rfl⟩) | ((with_reducible refine at_build 30 ?_); refine wpList_build_named rfl 30 _ rfl zo (by kernel_rfl) ?_) | ((with_reducible refine at_store 30 ?_); refine wpList_store_over rfl 30 _ _ rfl (w.heap.size) (zo) rfl rfl _ _ (hc) (by rw [HZ.out]; kernel_rfl) (rfl) (HA.out) ?_; intro w3 hg3 hs3 ho3 hb3))
  exact post_cell_tmp (g := w.heap.size) (t := 30) (v := .int .i64 1) rfl rfl rfl rfl hg3 Try.underlying30 rfl (by rw [HZ.out]; kernel_rfl) ⟨rfl, hb.trans (hb3 _ (Nat.le_refl _))⟩
theorem sbest_no {w : World} {p : Option Addr} (h : NoS w p) : Calls Try.prog 40 #[.pointer p] w fun e w' => e = .returned (.tuple #[.agg zo, .bool false]) ∧ Below w.heap.size w w' := by
  have h1 := h.kept (below_new w (Obj.cells zo 30))
  have hb := below_new w (Obj.cells zo 30)
  have hc := heap_alloc_new w (Obj.cells zo 30)
  have HZ := Lib.hid zo_size
  have HA := Lib.hid zo_all
  go_enter Try.func40, Try.ntmps40
  go_wp2_with (first | ((with_reducible refine at_alloc 30 ?_); refine wpList_alloc_named rfl 30 rfl zo (by kernel_rfl) ?_) | (go_at_call 39; (with_reducible refine (sready_no h1).mono ?_); rintro e w1 ⟨rfl, rfl⟩) | ((with_reducible refine at_build 30 ?_); refine wpList_build_named rfl 30 _ rfl zo (by kernel_rfl) ?_) | ((with_reducible refine at_store 30 ?_); refine wpList_store_over rfl 30 _ _ rfl (w.heap.size) (zo) rfl rfl _ _ (hc) (by rw [HZ.out]; kernel_rfl) (rfl) (HA.out) ?_; intro w3 hg3 hs3 ho3 hb3))
  exact post_cell_tmp (g := w.heap.size) (t := 30) (v := .bool false) rfl rfl rfl rfl hg3 Try.underlying30 rfl (by rw [HZ.out]; kernel_rfl) ⟨rfl, hb.trans (hb3 _ (Nat.le_refl _))⟩
theorem sall_any {w : World} (p : Option Addr) : Calls Try.prog 36 #[.pointer p] w fun e w' => e = .returned (.func (.func 47) #[] #[.pointer (some ⟨w.heap.size, 0, none⟩)]) ∧ w' = w.alloc (Obj.cells #[.pointer p] 54) := by
  have hmf : ∀ (fn : Fn) (first cap : Array Value) (w : World), (Instr.makeFunc fn first cap).run Try.prog w = .ok (.func fn first cap) w := fun _ _ _ _ => rfl
  go_enter Try.func36, Try.ntmps36
  go_wp2
  go_ret
  exact ⟨rfl, rfl⟩
end Go.Proofs.Ytmjfbilhalkegaa
/-! A side that was made: its state, and the methods that ask. Condition: the side is one. -/
namespace Go.Proofs.Ytmjfbilhalkegaa
set_option linter.unusedVariables false
set_option linter.unusedSimpArgs false
open Go.RowKit

structure IsOrd (A : Array Value) : Prop where
  size : A.size = 5
  n : IsN A .u64 0
  a : IsN A .u32 1
  b : IsB A 2
  p : IsN A .i64 3
  l : IsN A .i64 4
theorem IsOrd.all {A : Array Value} (h : IsOrd A) : A.all (·.oneCell') = true := all_one fun i v hv => by
  have hi : i < 5 := by have := (Array.getElem?_eq_some_iff.1 hv).1; have := h.size; omega
  have : i = 0 ∨ i = 1 ∨ i = 2 ∨ i = 3 ∨ i = 4 := by omega
  rcases this with rfl | rfl | rfl | rfl | rfl
  · exact h.n.one hv
  · exact h.a.one hv
  · exact h.b.one hv
  · exact h.p.one hv
  · exact h.l.one hv
/-- the first of the first k that is so, or -1 -/
def fi (q : Nat → Bool) : Nat → Int
  | 0 => -1
  | k + 1 => if 0 ≤ fi q k then fi q k else if q k then k else -1
theorem fi_stay {q : Nat → Bool} {j : Nat} (h : 0 ≤ fi q j) : ∀ k, j ≤ k → fi q k = fi q j := fun k hk => by
  induction k with
  | zero => have : j = 0 := by omega
            subst this; rfl
  | succ m ih =>
    by_cases e : j = m + 1
    · subst e; rfl
    · have := ih (by omega)
      rw [fi, this, if_pos h]
theorem fi_hit {q : Nat → Bool} {j k : Nat} (h : fi q j = -1) (hx : q j = true) (hk : j < k) : fi q k = j := by
  have h1 : fi q (j + 1) = j := by rw [fi, h, if_neg (by omega), if_pos hx]
  rw [fi_stay (j := j + 1) (by rw [h1]; omega) k (by omega), h1]
theorem fi_next {q : Nat → Bool} {j : Nat} (h : fi q j = -1) (hx : q j = false) : fi q (j + 1) = -1 := by rw [fi, h, if_neg (by omega), if_neg (by rw [hx]; decide)]
theorem fi_bd {q : Nat → Bool} : ∀ k, -1 ≤ fi q k ∧ fi q k < k
  | 0 => by simp [fi]
  | k + 1 => by
    have := fi_bd (q := q) k
    rw [fi]
    split
    · omega
    · split <;> omega
/-- at the first, all before are not so -/
theorem fi_none {q : Nat → Bool} : ∀ k, fi q k = -1 → ∀ j, j < k → q j = false
  | 0, _, j, hj => by omega
  | k + 1, h, j, hj => by
    rw [fi] at h
    split at h
    · omega
    · rename_i h1
      split at h
      · omega
      · rename_i h2
        have := fi_bd (q := q) k
        by_cases e : j = k
        · subst e; exact Bool.eq_false_iff.2 h2
        · exact fi_none k (by omega) j (by omega)
theorem fi_at {q : Nat → Bool} : ∀ k, ∀ i : Nat, fi q k = i → i < k ∧ q i = true ∧ ∀ j, j < i → q j = false
  | 0, i, h => by rw [fi] at h; omega
  | k + 1, i, h => by
    rw [fi] at h
    split at h
    · obtain ⟨h1, h2⟩ := fi_at k i h
      exact ⟨by omega, h2⟩
    · rename_i h1
      split at h
      · rename_i h2
        have e : k = i := by omega
        subst e
        exact ⟨by omega, h2, fi_none k (by have := fi_bd (q := q) k; omega)⟩
      · omega

structure SideIs (w : World) (g base k : Nat) (buy : Bool) (L : Nat → Array Value) : Prop where
  row : ∃ v, w.heap[g]? = some (.cells #[.bool true, .bool buy, v] 77 (0, 0)) ∧ w.ownsRow base 30 5 v k (flat L k)
  ord : ∀ i, IsOrd (L i)
  bg : base ≤ g
  hk : k ≤ 1000
theorem SideIs.kept {w w' : World} {g base k : Nat} {buy : Bool} {L : Nat → Array Value} (h : SideIs w g base k buy L) (hb : Below w.heap.size w w') : SideIs w' g base k buy L := by
  obtain ⟨v, hg, hr⟩ := h.row
  exact ⟨⟨v, Ytmjfbilhalkegaa.kept hb hg, own_below hb hr⟩, h.ord, h.bg, h.hk⟩
theorem sready_yes {w : World} {g base k : Nat} {buy : Bool} {L : Nat → Array Value} (h : SideIs w g base k buy L) : Calls Try.prog 39 #[.pointer (some ⟨g, 0, none⟩)] w fun e w' => e = .returned (.bool true) ∧ w = w' := by
  obtain ⟨v, hg, _⟩ := h.row
  have cg := cellF hg
  go_enter Try.func39, Try.ntmps39
  go_wp2
  go_ret
  exact ⟨rfl, rfl⟩
theorem new_side (b : Bool) (w : World) : Calls Try.prog 23 #[.bool b] w fun e w' => e = .returned (.pointer (some ⟨w.heap.size, 0, none⟩)) ∧ SideIs w' w.heap.size w.heap.size 0 b (fun _ => zo) ∧ Below w.heap.size w w' := by
  go_enter Try.func23, Try.ntmps23
  go_wp2
  go_ret
  exact ⟨rfl, ⟨⟨_, heap_alloc_new _ _, World.ownsRow_nil _ _ _ _⟩, fun _ => ⟨rfl, IsN_of rfl (by decide), IsN_of rfl (by decide), IsB_of rfl, IsN_of rfl (by decide), IsN_of rfl (by decide)⟩, Nat.le_refl _, by omega⟩, below_new _ _⟩
theorem slen_yes {w : World} {g base k : Nat} {buy : Bool} {L : Nat → Array Value} (h : SideIs w g base k buy L) : Calls Try.prog 30 #[.pointer (some ⟨g, 0, none⟩)] w fun e w' => e = .returned (.int .i64 k) ∧ w = w' := by
  have cr := sready_yes h
  obtain ⟨v, hg, hrow⟩ := h.row
  obtain ⟨ra, rc, rfl, _⟩ := own_rows (c := 5) (fun i => (h.ord i).size) hrow
  have cg := cellF hg
  clear h hrow
  go_enter Try.func30, Try.ntmps30
  go_wp2_with ((go_at_call 39; (with_reducible refine (cr).mono ?_); rintro e w1 ⟨rfl, rfl⟩))
  go_ret
  exact ⟨rfl, rfl⟩
/-- the better price -/
def bet (buy : Bool) (x y : Int) : Bool := if buy then decide (y < x) else decide (x < y)
theorem better_any {w : World} {g : Nat} {buy : Bool} {v : Value} (x y : Int) (hg : w.heap[g]? = some (.cells #[.bool true, .bool buy, v] 77 (0, 0))) : Calls Try.prog 38 #[.pointer (some ⟨g, 0, none⟩), .int .i64 x, .int .i64 y] w fun e w' => e = .returned (.bool (bet buy x y)) ∧ w = w' := by
  have cg := cellF hg
  have HB := Lib.hid (show bet buy x y = if buy then decide (y < x) else decide (x < y) from rfl)
  cases buy
  · go_enter Try.func38, Try.ntmps38
    go_wp2
    go_ret
    exact ⟨by rw [HB.out]; rfl, rfl⟩
  · go_enter Try.func38, Try.ntmps38
    go_wp2
    go_ret
    exact ⟨by rw [HB.out]; rfl, rfl⟩
theorem at1_any (M : Array Value) (hM : IsOrd M) (x : Int) (gx : Nat) (w : World) (hx : w.heap[gx]? = some (.cells #[.int .u64 x] 27 (0, 0))) :
    Calls Try.prog 52 #[.agg M, .pointer (some ⟨gx, 0, none⟩)] w fun e w' => e = .returned (.bool (decide (N M 0 = x))) ∧ Below w.heap.size w w' := by
  have hb := below_new w (Obj.cells M 30)
  have cx := cellF (heap_up (o := Obj.cells M 30) hx)
  have h0 := hM.n.1
  clear hM
  generalize N M 0 = y at *
  go_enter Try.func52, Try.ntmps52
  go_wp2
  go_ret
  exact ⟨by first | rfl | (simp; rfl), hb⟩
theorem add1_any (M B : Array Value) (hM : IsOrd M) (hB : IsOrd B) (buy : Bool) (v : Value) (g gs go : Nat) (w : World) (hs : w.heap[gs]? = some (.cells #[.pointer (some ⟨g, 0, none⟩)] 54 (0, 0))) (ho : w.heap[go]? = some (.cells B 30 (0, 0))) (hg : w.heap[g]? = some (.cells #[.bool true, .bool buy, v] 77 (0, 0))) :
    Calls Try.prog 50 #[.agg M, .pointer (some ⟨gs, 0, none⟩), .pointer (some ⟨go, 0, none⟩)] w fun e w' => e = .returned (.bool (bet buy (N B 3) (N M 3))) ∧ Below w.heap.size w w' := by
  have hb := below_new w (Obj.cells M 30)
  have cs := cellF (heap_up (o := Obj.cells M 30) hs)
  have co := cellF (heap_up (o := Obj.cells M 30) ho)
  have cb := better_any (N B 3) (N M 3) (heap_up (o := Obj.cells M 30) hg)
  have h0 := hM.p.1
  have h1 := hB.p.1
  clear hM hB
  generalize N M 3 = y at *
  generalize N B 3 = z at *
  go_enter Try.func50, Try.ntmps50
  go_wp2_with ((go_at_call 38; (with_reducible refine (cb).mono ?_); rintro e w1 ⟨rfl, rfl⟩))
  go_ret
  exact ⟨rfl, hb⟩
set_option maxHeartbeats 1000000 in
theorem idxat_any (ra : Option Addr) (rc k : Nat) (L : Nat → Array Value) (x : Int) (gx : Nat) (w : World) (hL : ∀ i, IsOrd (L i)) (hR : RowsT w 30 5 ra k L) (hk : k ≤ 2000) (hx : w.heap[gx]? = some (.cells #[.int .u64 x] 27 (0, 0))) :
    Calls Try.prog 49 #[.slice ra k rc, .func (.func 52) #[] #[.pointer (some ⟨gx, 0, none⟩)]] w fun e w' => e = .returned (.int .i64 (fi (fun i => decide (N (L i) 0 = x)) k)) ∧ Below w.heap.size w w' := by
  have HR := Lib.hid hR
  have HL := Lib.hid hL
  clear hR hL
  obtain ⟨Q, hQ⟩ : ∃ Q : Nat → Bool, Q = fun i => decide (N (L i) 0 = x) := ⟨_, rfl⟩
  rw [← hQ]
  have HQ := Lib.hid hQ
  clear hQ
  go_enter Try.func49, Try.ntmps49
  go_wp2
  go_loopg [8] k (fun gh i wr => ∃ j : Nat, j ≤ k ∧ gh = k - j ∧ i = .int .i64 j ∧ fi Q j = -1 ∧ Below w.heap.size w wr)
  case atStart => exact ⟨0, by omega, by omega, rfl, rfl, Below.refl _ _⟩
  case round =>
    obtain ⟨j, hj, rfl, rfl, hdu, hb⟩ := hrel
    have HD := Lib.hid hdu
    clear hdu
    by_cases hlt : j < k
    · obtain ⟨gb, off, A, fr, rfl, hgA, hszA, hexA⟩ := HR.out j hlt
      have hgA2 := Ytmjfbilhalkegaa.kept hb hgA
      have hx2 := Ytmjfbilhalkegaa.kept hb hx
      have HX := Lib.hid hexA
      have HZ := Lib.hid hszA
      have HQj := Lib.hid (show Q j = decide (N (L j) 0 = x) by rw [HQ.out])
      clear hexA hszA
      have cc := at1_any (L j) (HL.out j) x gx _ hx2
      rw [← HQj.out] at cc
      have hone := Lib.hid (HL.out j)
      generalize L j = M at *
      cases hq : Q j
      · rw [hq] at cc
        have HV := Lib.hid (fi_next HD.out hq)
        clear hq
        go_wp2_with (first | ((with_reducible refine at_load 30 ?_); refine wpList_load_part rfl 30 _ rfl (gb) (off + j * 5) rfl _ (A) _ _ 5 (hgA2) Try.underlying30 rfl (by kernel_rfl) (by have := HZ.out; omega) (M) (HX.out) ?_) | (go_at_call 52; (with_reducible refine (cc).mono ?_); rintro e w1 ⟨rfl, hb1⟩))
        go_roundg (k - (j + 1))
        case measure => omega
        case rel => exact ⟨j + 1, by omega, rfl, by go_num, HV.out, below_then hb hb1⟩
      · rw [hq] at cc
        have HV := Lib.hid (fi_hit HD.out hq hlt)
        clear hq
        go_wp2_with (first | ((with_reducible refine at_load 30 ?_); refine wpList_load_part rfl 30 _ rfl (gb) (off + j * 5) rfl _ (A) _ _ 5 (hgA2) Try.underlying30 rfl (by kernel_rfl) (by have := HZ.out; omega) (M) (HX.out) ?_) | (go_at_call 52; (with_reducible refine (cc).mono ?_); rintro e w1 ⟨rfl, hb1⟩))
        go_ret
        exact ⟨by rw [HV.out]; rfl, below_then hb hb1⟩
    · obtain rfl : j = k := by omega
      go_wp2
      go_ret
      exact ⟨by rw [HD.out]; rfl, hb⟩
set_option maxHeartbeats 1000000 in
theorem idxadd_any (ra : Option Addr) (rc k : Nat) (L : Nat → Array Value) (B : Array Value) (hB : IsOrd B) (buy : Bool) (v : Value) (g gs go : Nat) (w : World) (hL : ∀ i, IsOrd (L i)) (hR : RowsT w 30 5 ra k L) (hk : k ≤ 2000) (hs : w.heap[gs]? = some (.cells #[.pointer (some ⟨g, 0, none⟩)] 54 (0, 0))) (ho : w.heap[go]? = some (.cells B 30 (0, 0))) (hg : w.heap[g]? = some (.cells #[.bool true, .bool buy, v] 77 (0, 0))) :
    Calls Try.prog 49 #[.slice ra k rc, .func (.func 50) #[] #[.pointer (some ⟨gs, 0, none⟩), .pointer (some ⟨go, 0, none⟩)]] w fun e w' => e = .returned (.int .i64 (fi (fun i => bet buy (N B 3) (N (L i) 3)) k)) ∧ Below w.heap.size w w' := by
  have HR := Lib.hid hR
  have HL := Lib.hid hL
  clear hR hL
  obtain ⟨Q, hQ⟩ : ∃ Q : Nat → Bool, Q = fun i => bet buy (N B 3) (N (L i) 3) := ⟨_, rfl⟩
  rw [← hQ]
  have HQ := Lib.hid hQ
  clear hQ
  go_enter Try.func49, Try.ntmps49
  go_wp2
  go_loopg [8] k (fun gh i wr => ∃ j : Nat, j ≤ k ∧ gh = k - j ∧ i = .int .i64 j ∧ fi Q j = -1 ∧ Below w.heap.size w wr)
  case atStart => exact ⟨0, by omega, by omega, rfl, rfl, Below.refl _ _⟩
  case round =>
    obtain ⟨j, hj, rfl, rfl, hdu, hb⟩ := hrel
    have HD := Lib.hid hdu
    clear hdu
    by_cases hlt : j < k
    · obtain ⟨gb, off, A, fr, rfl, hgA, hszA, hexA⟩ := HR.out j hlt
      have hgA2 := Ytmjfbilhalkegaa.kept hb hgA
      have hs2 := Ytmjfbilhalkegaa.kept hb hs
      have ho2 := Ytmjfbilhalkegaa.kept hb ho
      have hg2 := Ytmjfbilhalkegaa.kept hb hg
      have HX := Lib.hid hexA
      have HZ := Lib.hid hszA
      have HQj := Lib.hid (show Q j = bet buy (N B 3) (N (L j) 3) by rw [HQ.out])
      clear hexA hszA
      have cc := add1_any (L j) B (HL.out j) hB buy v g gs go _ hs2 ho2 hg2
      rw [← HQj.out] at cc
      have hone := Lib.hid (HL.out j)
      generalize L j = M at *
      cases hq : Q j
      · rw [hq] at cc
        have HV := Lib.hid (fi_next HD.out hq)
        clear hq
        go_wp2_with (first | ((with_reducible refine at_load 30 ?_); refine wpList_load_part rfl 30 _ rfl (gb) (off + j * 5) rfl _ (A) _ _ 5 (hgA2) Try.underlying30 rfl (by kernel_rfl) (by have := HZ.out; omega) (M) (HX.out) ?_) | (go_at_call 50; (with_reducible refine (cc).mono ?_); rintro e w1 ⟨rfl, hb1⟩))
        go_roundg (k - (j + 1))
        case measure => omega
        case rel => exact ⟨j + 1, by omega, rfl, by go_num, HV.out, below_then hb hb1⟩
      · rw [hq] at cc
        have HV := Lib.hid (fi_hit HD.out hq hlt)
        clear hq
        go_wp2_with (first | ((with_reducible refine at_load 30 ?_); refine wpList_load_part rfl 30 _ rfl (gb) (off + j * 5) rfl _ (A) _ _ 5 (hgA2) Try.underlying30 rfl (by kernel_rfl) (by have := HZ.out; omega) (M) (HX.out) ?_) | (go_at_call 50; (with_reducible refine (cc).mono ?_); rintro e w1 ⟨rfl, hb1⟩))
        go_ret
        exact ⟨by rw [HV.out]; rfl, below_then hb hb1⟩
    · obtain rfl : j = k := by omega
      go_wp2
      go_ret
      exact ⟨by rw [HD.out]; rfl, hb⟩
theorem sat_any {w : World} {g base k : Nat} {buy : Bool} {L : Nat → Array Value} (x : Int) (h : SideIs w g base k buy L) : Calls Try.prog 48 #[.pointer (some ⟨g, 0, none⟩), .int .u64 x] w fun e w' => e = .returned (.int .i64 (fi (fun i => decide (N (L i) 0 = x)) k)) ∧ Below w.heap.size w w' := by
  obtain ⟨v, hg, hrow⟩ := h.row
  obtain ⟨ra, rc, rfl, hR, _⟩ := own_rows (c := 5) (fun i => (h.ord i).size) hrow
  have hb := below_new w (Obj.cells #[.int .u64 x] 27)
  have cg := cellF (heap_up (o := Obj.cells #[.int .u64 x] 27) hg)
  have ci := idxat_any ra rc k L x w.heap.size _ h.ord (rowsT_kept hR hb) (by have := h.hk; omega) (heap_alloc_new w (Obj.cells #[.int .u64 x] 27))
  have hmf : ∀ (fn : Fn) (first cap : Array Value) (w : World), (Instr.makeFunc fn first cap).run Try.prog w = .ok (.func fn first cap) w := fun _ _ _ _ => rfl
  clear h hR hrow
  go_enter Try.func48, Try.ntmps48
  go_wp2_with ((go_at_call 49; (with_reducible refine (ci).mono ?_); rintro e w1 ⟨rfl, hb1⟩))
  go_ret
  exact ⟨rfl, below_then hb hb1⟩
end Go.Proofs.Ytmjfbilhalkegaa
/-! Cells stored one behind another: what the block holds then; a row without one of its elements; a cleared element. No condition. -/
namespace Go.Proofs.Ytmjfbilhalkegaa
set_option linter.unusedVariables false
set_option linter.unusedSimpArgs false
open Go.RowKit

theorem setc_block {b : Nat} {t : TypeId} : ∀ (vs : List Value) (o : Nat) (w : World) (A : Array Value), w.heap[b]? = some (.cells A t (0, 0)) → o + vs.length ≤ A.size →
    ∃ A', (w.setCells b o vs).heap[b]? = some (.cells A' t (0, 0)) ∧ A'.size = A.size ∧ (∀ j, j < o → A'[j]? = A[j]?) ∧ (∀ j, j < vs.length → A'[o + j]? = vs[j]?) ∧ (∀ j, o + vs.length ≤ j → A'[j]? = A[j]?)
  | [], o, w, A, h, _ => ⟨A, h, rfl, fun _ _ => rfl, fun j hj => by simp at hj, fun _ _ => rfl⟩
  | v :: r, o, w, A, h, hs => by
    simp only [List.length_cons] at hs
    obtain ⟨A', h1, h2, h3, h4, h5⟩ := setc_block r (o + 1) (w.setCell ⟨b, o, none⟩ v) (A.setIfInBounds o v) (heap_set h) (by simp; omega)
    refine ⟨A', h1, by rw [h2]; simp, fun j hj => ?_, fun j hj => ?_, fun j hj => ?_⟩
    · rw [h3 j (by omega), Array.getElem?_setIfInBounds_ne (by omega)]
    · cases j with
      | zero => rw [Nat.add_zero, h3 o (by omega), Array.getElem?_setIfInBounds_self, if_pos (by omega)]; rfl
      | succ j =>
        simp only [List.length_cons] at hj
        rw [show o + (j + 1) = o + 1 + j by omega, h4 j (by omega)]
        simp
    · simp only [List.length_cons] at hj
      rw [h5 j (by omega), Array.getElem?_setIfInBounds_ne (by omega)]
theorem setc_other {b k : Nat} (hk : k ≠ b) : ∀ (vs : List Value) (o : Nat) (w : World), (w.setCells b o vs).heap[k]? = w.heap[k]?
  | [], _, _ => rfl
  | v :: r, o, w => by
    show ((w.setCell ⟨b, o, none⟩ v).setCells b (o + 1) r).heap[k]? = _
    rw [setc_other hk r, heap_setCell_other w ⟨b, o, none⟩ k v hk]
theorem setc_below {B b : Nat} {w1 : World} (hb : B ≤ b) : ∀ (vs : List Value) (o : Nat) (w : World), Below B w1 w → Below B w1 (w.setCells b o vs)
  | [], _, _, h => h
  | v :: r, o, w, h => setc_below hb r (o + 1) _ (below_set h hb)
/-- rows without the one at i -/
def rem (L : Nat → Array Value) (i : Nat) : Nat → Array Value := fun j => if j < i then L j else L (j + 1)
theorem flat_get {L : Nat → Array Value} {c : Nat} (hc : 0 < c) (hL : ∀ i, (L i).size = c) {n m : Nat} (hm : m < n * c) : (flat L n)[m]? = (L (m / c))[m % c]? := by
  have h := flatc_at hL n (m / c) (m % c) ((Nat.div_lt_iff_lt_mul hc).2 hm) (Nat.mod_lt _ hc)
  rwa [show m / c * c + m % c = m by rw [Nat.mul_comm]; exact Nat.div_add_mod m c] at h
theorem flat_rem {L : Nat → Array Value} {c k i : Nat} (hc : 0 < c) (hL : ∀ i, (L i).size = c) (hi : i < k) {A : Array Value} (hs : (k - 1) * c ≤ A.size)
    (h1 : ∀ j, j < i * c → A[j]? = (flat L k)[j]?) (h2 : ∀ j, i * c ≤ j → j < (k - 1) * c → A[j]? = (flat L k)[j + c]?) : A.toList.take ((k - 1) * c) = flat (rem L i) (k - 1) := by
  have hk : (k - 1) * c + c = k * c := by
    rw [← Nat.succ_mul]; congr 1; omega
  have hL' : ∀ j, (rem L i j).size = c := fun j => by unfold rem; split <;> exact hL _
  apply List.ext_getElem?
  intro m
  by_cases hm : m < (k - 1) * c
  · rw [List.getElem?_take, if_pos hm, Array.getElem?_toList, flat_get hc hL' hm]
    unfold rem
    by_cases hmi : m < i * c
    · rw [h1 m hmi, flat_get hc hL (by omega), if_pos ((Nat.div_lt_iff_lt_mul hc).2 hmi)]
    · rw [h2 m (by omega) hm, flat_get hc hL (by omega), if_neg (fun h => hmi ((Nat.div_lt_iff_lt_mul hc).1 h)), Nat.add_div_right m hc, Nat.add_mod_right]
  · rw [List.getElem?_eq_none (by rw [List.length_take, Array.length_toList]; omega), List.getElem?_eq_none (by rw [flatc_len hL']; omega)]
/-- 'clear' of one element of more than one cell -/
theorem run_clear_one {P : Program} (w : World) (t e ty : TypeId) (z : Value) (c : Nat) (ht : P.underlying t = some (.slice e)) (hv : ∀ w, (zeroValue e).run P w = .ok z w) (hz : z.cells.size = c) (h1 : ∀ v ∈ z.cells, v.oneCell' = true) (b o cc : Nat)
    (hc : ∀ j, j < c → (w.cell? ⟨b, o + j, none⟩).isSome = true) (hf : ∀ j, j < c → w.frozen? ⟨b, o + j, none⟩ = false) :
    (Builtin.clear_ #[t] ty #[.slice (some ⟨b, o, none⟩) 1 cc]).run P w = .ok (.tuple #[]) (w.setCells b o z.cells.toList) := by
  have hzc : (Builtin.zeroCells z.cells 1).toList = z.cells.toList := by
    unfold Builtin.zeroCells
    rw [Nat.one_mul]
    apply List.ext_getElem
    · simp
    · intro i h1 h2
      simp at h1 h2 ⊢
      rw [Nat.mod_eq_of_lt h1]
      exact getElem!_pos z.cells i h1
  have hst := run_storeCells_cells (P := P) b o z.cells.toList 0 w (by simpa [hz] using hc) (by simpa [hz] using hf) (by simpa using h1)
  simp only [Nat.add_zero] at hst
  simp [Builtin.clear_, run_underlying ht, hv, hzc, hst]
end Go.Proofs.Ytmjfbilhalkegaa
/-! copy of elements of any width; a row with one element more in its midst. No condition. -/
namespace Go.Proofs.Ytmjfbilhalkegaa
set_option linter.unusedVariables false
set_option linter.unusedSimpArgs false
open Go.RowKit

theorem run_copy_c {P : Program} (w : World) (dT sT ty elem : TypeId) (b o dLen dCap : Nat) (a : Addr) (sLen sCap size : Nat) (cs : List Value)
    (hu : P.underlying dT = some (.slice elem)) (hs : (P.info? elem).map (·.size) = some size) (hn : cs.length = Nat.min sLen dLen * size)
    (hsrc : ∀ j v, cs[j]? = some v → w.cell? (a.add j) = some v) (hc : ∀ j, j < cs.length → (w.cell? ⟨b, o + j, none⟩).isSome = true) (hf : ∀ j, j < cs.length → w.frozen? ⟨b, o + j, none⟩ = false) (h1 : ∀ v ∈ cs, v.oneCell' = true) :
    (Builtin.copy_ #[dT, sT] ty #[.slice (some ⟨b, o, none⟩) dLen dCap, .slice (some a) sLen sCap]).run P w = .ok (goInt (Nat.min sLen dLen)) (w.setCells b o cs) := by
  have hl := run_loadCells_list (P := P) w a cs hsrc
  have hst := run_storeCells_cells (P := P) b o cs 0 w (by simpa using hc) (by simpa using hf) h1
  cases hq : P.info? elem with
  | none => simp [hq] at hs
  | some i =>
    have hi : i.size = size := by simpa [hq] using hs
    simp [Builtin.copy_, run_underlying hu, Builtin.lenOf, Builtin.firstCells, sizeOf, typeInfo, hq, hi, ← hn, hl, hst]
/-- the list with b between -/
theorem mid_get {xs bs : List Value} {p m : Nat} (hp : p ≤ xs.length) : (xs.take p ++ bs ++ xs.drop p)[m]? = if m < p then xs[m]? else if m < p + bs.length then bs[m - p]? else xs[m - bs.length]? := by
  have hl : (xs.take p).length = p := by rw [List.length_take]; omega
  by_cases h1 : m < p
  · rw [if_pos h1, List.append_assoc, List.getElem?_append_left (by omega), List.getElem?_take, if_pos h1]
  · rw [if_neg h1]
    by_cases h2 : m < p + bs.length
    · rw [if_pos h2, List.getElem?_append_left (by rw [List.length_append]; omega), List.getElem?_append_right (by omega), hl]
    · rw [if_neg h2, List.getElem?_append_right (by rw [List.length_append]; omega), List.length_append, hl, List.getElem?_drop]
      congr 1
      omega
/-- what a block holds behind the moves: its first cells are the list with b between -/
theorem mid_of {A : Array Value} {xs bs : List Value} {p n : Nat} (hp : p ≤ xs.length) (hn : n = xs.length + bs.length) (hA : n ≤ A.size)
    (h1 : ∀ j, j < p → A[j]? = xs[j]?) (h2 : ∀ j, j < bs.length → A[p + j]? = bs[j]?) (h3 : ∀ j, p ≤ j → j < xs.length → A[j + bs.length]? = xs[j]?) : A.toList.take n = xs.take p ++ bs ++ xs.drop p := by
  apply List.ext_getElem?
  intro m
  rw [mid_get hp, List.getElem?_take]
  by_cases hm : m < n
  · rw [if_pos hm, Array.getElem?_toList]
    by_cases c1 : m < p
    · rw [if_pos c1, h1 m c1]
    · rw [if_neg c1]
      by_cases c2 : m < p + bs.length
      · rw [if_pos c2, show m = p + (m - p) by omega, h2 _ (by omega)]
        congr 1
        omega
      · rw [if_neg c2, ← h3 (m - bs.length) (by omega) (by omega)]
        congr 1
        omega
  · rw [if_neg hm]
    symm
    rw [if_neg (by omega), if_neg (by omega)]
    rw [List.getElem?_eq_none_iff]
    omega
/-- the rows with one more at i -/
def ins (L : Nat → Array Value) (i : Nat) (x : Array Value) : Nat → Array Value := fun j => if j < i then L j else if j = i then x else L (j - 1)
theorem flat_ins {L : Nat → Array Value} {c k i : Nat} {x : Array Value} (hc : 0 < c) (hL : ∀ i, (L i).size = c) (hx : x.size = c) (hi : i ≤ k) : (flat L k).take (i * c) ++ x.toList ++ (flat L k).drop (i * c) = flat (ins L i x) (k + 1) := by
  have hl := flatc_len hL k
  have hle : i * c ≤ k * c := Nat.mul_le_mul_right c hi
  have hI : ∀ j, (ins L i x j).size = c := fun j => by unfold ins; split; exact hL _; split; exact hx; exact hL _
  apply List.ext_getElem?
  intro m
  rw [mid_get (by omega), Array.length_toList, hx]
  have hkc : (k + 1) * c = k * c + c := by rw [Nat.add_mul]; omega
  have hic : (i + 1) * c = i * c + c := by rw [Nat.add_mul]; omega
  by_cases hm : m < (k + 1) * c
  · rw [flat_get hc hI hm]
    unfold ins
    by_cases c1 : m < i * c
    · rw [if_pos c1, if_pos ((Nat.div_lt_iff_lt_mul hc).2 c1), flat_get hc hL (by omega)]
    · rw [if_neg c1, if_neg (fun h => c1 ((Nat.div_lt_iff_lt_mul hc).1 h))]
      by_cases c2 : m < i * c + c
      · have hd : m / c = i := by
          apply Nat.le_antisymm
          · have h5 : m / c < i + 1 := (Nat.div_lt_iff_lt_mul hc).2 (by omega)
            omega
          · exact (Nat.le_div_iff_mul_le hc).2 (by omega)
        rw [if_pos c2, if_pos hd, Array.getElem?_toList]
        congr 1
        have := Nat.div_add_mod m c
        rw [hd, Nat.mul_comm] at this
        omega
      · have hd : ¬ m / c = i := fun h => by
          have h6 : m < (i + 1) * c := (Nat.div_lt_iff_lt_mul hc).1 (show m / c < i + 1 by omega)
          omega
        rw [if_neg c2, if_neg hd, flat_get hc hL (by omega)]
        have hm1 : m - c + c = m := by omega
        have q1 : m / c = (m - c) / c + 1 := by have h7 := Nat.add_div_right (m - c) hc; rw [hm1] at h7; exact h7
        have q2 : m % c = (m - c) % c := by have h7 := Nat.add_mod_right (m - c) c; rw [hm1] at h7; exact h7
        rw [show m / c - 1 = (m - c) / c by rw [q1, Nat.add_sub_cancel], q2]
  · rw [if_neg (by omega), if_neg (by omega), List.getElem?_eq_none (by rw [hl]; omega), List.getElem?_eq_none (by rw [flatc_len hI]; omega)]
end Go.Proofs.Ytmjfbilhalkegaa
/-! Steps of a region that draws its order: a call by its contract, a load of a whole aggregate, a built value, a slice of one element. No condition. -/
namespace Go.Proofs.Ytmjfbilhalkegaa
set_option linter.unusedVariables false
set_option linter.unusedSimpArgs false
open Go.RowKit

theorem op_call {P : Program} {o : Oper} {a : Act} {w : World} {K : Act → World → Prop} {Q : Exit → Act → World → Prop} (f : FuncId) (args : Array Value) (he : (execOp a.eval o).run P w = .ok (.enter f args) w) (R : Value → World → Prop)
    (hc : Calls P f args w fun e w' => ∃ v, e = .returned v ∧ R v w') (h : ∀ v w', R v w' → K (a.put o.dst v) w') : o.wp P a w K Q := by
  unfold Oper.wp
  rw [he]
  exact hc.mono fun e w'' ⟨v, he, hr⟩ => by subst he; exact h v w'' hr
theorem exec_build {P : Program} {o : Oper} {a : Act} {w : World} (t : TypeId) (parts : Array (Nat × Operand)) (ho : o.op = .build t parts) (B : Array Value) (h : P.built t (parts.map fun (i, x) => (i, a.eval x)).toList = some B) : (execOp a.eval o).run P w = .ok (.value (.agg B)) w := by
  unfold execOp
  simp only [ho, Sem.run_bind, run_build w t _ B h, Sem.run_pure, Result.andThen_ok]
theorem exec_load_part {P : Program} {o : Oper} {a : Act} {w : World} (ty : TypeId) (x : Operand) (ho : o.op = .load ty x)
    (g off : Nat) (hx : a.eval x = .pointer (some ⟨g, off, none⟩)) (t : TypeId) (cs : Array Value) (fr : Nat × Nat) (d : TypeDesc) (n : Nat) (hg : w.heap[g]? = some (.cells cs t fr))
    (hu : P.underlying ty = some d) (hd : (match d with | .struct _ | .array _ _ => true | _ => false) = true) (hi : (P.info? ty).map (·.size) = some n) (hn : off + n ≤ cs.size) (B : Array Value) (hB : cs.extract off (off + n) = B) :
    (execOp a.eval o).run P w = .ok (.value (.agg B)) w := by
  unfold execOp
  simp only [ho, hx, Instr.loadAt, Instr.sureAddr, Sem.run_bind, Sem.run_pure, Result.andThen_ok, run_loadVar_part w g off t ty cs fr d n hg hu hd hi hn, hB]
theorem fold_setg : ∀ (l : List Value) (k : Nat) (cs : Array Value), k + l.length ≤ cs.size →
    ((l.zipIdx k).foldl (fun cs x => cs.setIfInBounds (0 + x.2) x.1) cs).size = cs.size ∧
    ∀ i, ((l.zipIdx k).foldl (fun cs x => cs.setIfInBounds (0 + x.2) x.1) cs)[i]? = if k ≤ i ∧ i < k + l.length then l[i - k]? else cs[i]?
  | [], k, cs, _ => by
    refine ⟨rfl, fun i => ?_⟩
    simp
    omega
  | v :: l, k, cs, h => by
    simp only [List.length_cons] at h
    simp only [List.zipIdx_cons, List.foldl_cons]
    obtain ⟨h1, h2⟩ := fold_setg l (k + 1) (cs.setIfInBounds (0 + k) v) (by simp; omega)
    refine ⟨by rw [h1]; simp, fun i => ?_⟩
    rw [h2 i]
    by_cases e : i = k
    · subst e
      rw [if_neg (by omega), if_pos (by simp), Nat.zero_add, Array.getElem?_setIfInBounds_self_of_lt (by omega)]
      simp
    · by_cases e2 : k + 1 ≤ i ∧ i < k + 1 + l.length
      · rw [if_pos e2, if_pos (by simp; omega), show i - k = (i - (k + 1)) + 1 by omega, List.getElem?_cons_succ]
      · rw [if_neg e2, if_neg (by simp; omega), Array.getElem?_setIfInBounds_ne (by omega)]
theorem fill_oneg {B : Array Value} {z : Array Value} {c : Nat} (hB : B.size = c) (hz : z.size = c) :
    Instr.fill (fun i => some (i * c, c)) ((Array.range (1 * c)).map (z[· % z.size]!)) [(0, Value.agg B)] = some B := by
  unfold Instr.fill
  simp only [Value.cells, hB]
  rw [if_neg (by simp)]
  unfold Instr.fill
  congr 1
  have h := fold_setg B.toList 0 ((Array.range (1 * c)).map (z[· % z.size]!)) (by simp [hB])
  have e : Array.foldl (fun cs x => cs.setIfInBounds (0 * c + x.2) x.1) ((Array.range (1 * c)).map (z[· % z.size]!)) (B.zipIdx) = (B.toList.zipIdx 0).foldl (fun cs x => cs.setIfInBounds (0 + x.2) x.1) ((Array.range (1 * c)).map (z[· % z.size]!)) := by
    rw [← Array.foldl_toList, Nat.zero_mul]
    simp
  show Array.foldl (fun cs x => cs.setIfInBounds (0 * c + x.2) x.1) ((Array.range (1 * c)).map (z[· % z.size]!)) (B.zipIdx) = B
  rw [e]
  apply Array.ext_getElem?
  intro i
  rw [h.2 i]
  by_cases hi : i < c
  · rw [if_pos (by simp [hB]; omega)]; simp
  · rw [if_neg (by simp [hB]; omega), Array.getElem?_eq_none_iff.2 (by simp; omega), Array.getElem?_eq_none_iff.2 (by omega)]
theorem op_slice1 {P : Program} {o : Oper} {a : Act} {w : World} {K : Act → World → Prop} {Q : Exit → Act → World → Prop} (t e : TypeId) (x : Operand) (ho : o.op = .buildSlice t 1 #[(0, x)])
    (B : Array Value) (c : Nat) (hx : a.eval x = .agg B) (hB : B.size = c) (ie : TypeInfo) (z : Value) (hu : P.underlying t = some (.slice e)) (hie : P.info? e = some ie) (hz : ie.zero = some z) (h4 : ie.size = c) (hz4 : z.cells.size = c) (hc : 0 < c) (hc2 : c ≤ 1000)
    (h : K (a.put o.dst (.slice (some ⟨w.heap.size, 0, none⟩) 1 1)) (w.alloc (.cells B e))) : o.wp P a w K Q :=
  wp_buildSlice t e 1 _ ho B ie z hu hie hz (by rw [h4]; omega) (by rw [h4]; omega) (by
    have e1 : ((#[(0, x)] : Array (Nat × Operand)).map fun (i, x) => (i, a.eval x)).toList = [(0, Value.agg B)] := by rw [← hx]; simp
    rw [e1, h4]
    exact fill_oneg hB hz4) h
end Go.Proofs.Ytmjfbilhalkegaa
