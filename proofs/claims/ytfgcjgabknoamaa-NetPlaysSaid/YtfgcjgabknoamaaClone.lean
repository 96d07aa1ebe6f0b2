/- bytes.Clone and net.own: a copy of the bytes. Condition: the bytes can be read. -/
import Derived.Test.YtfgcjgabknoamaaFlat
import Derived.Lib.SliceRun
namespace Go.Proofs.Ytfgcjgabknoamaa
set_option linter.unusedVariables false
set_option linter.unusedSimpArgs false
open Go.RowKit

/-- bytes that can be read -/
def Byt (w : World) (a : Option Addr) (n : Nat) (X : Nat → Int) : Prop :=
  ∀ i, i < n → ∃ g off A t fr, a = some ⟨g, off, none⟩ ∧ w.heap[g]? = some (.cells A t fr) ∧ A[off + i]? = some (.int .u8 (X i))
theorem Byt.kept {w w1 : World} {a : Option Addr} {n : Nat} {X : Nat → Int} (h : Byt w a n X) (hb : Below w.heap.size w w1) : Byt w1 a n X := fun i hi => by
  obtain ⟨g, off, A, t, fr, h1, h2, h3⟩ := h i hi
  exact ⟨g, off, A, t, fr, h1, Ytfgcjgabknoamaa.kept hb h2, h3⟩
def bl (X : Nat → Int) (n : Nat) : List Value := (List.range n).map fun i => .int .u8 (X i)
theorem bl_len (X : Nat → Int) (n : Nat) : (bl X n).length = n := by simp [bl]
theorem bl_at (X : Nat → Int) {n i : Nat} (h : i < n) : (bl X n)[i]? = some (.int .u8 (X i)) := by
  unfold bl; rw [List.getElem?_map, List.getElem?_range h]; rfl
theorem bl_one (X : Nat → Int) (n : Nat) : ∀ v ∈ bl X n, v.oneCell' = true := fun v hv => by
  unfold bl at hv
  rw [List.mem_map] at hv
  obtain ⟨i, _, rfl⟩ := hv
  rfl
theorem info_u8 : ∃ i z, Try.prog.info? 5 = some i ∧ i.zero = some z ∧ i.size = 1 ∧ i.bytes = 1 ∧ z.cells.size = 1 := by
  have h : (Try.prog.info? 5).map (fun i => (i.size, i.bytes, i.zero.map (·.cells.size))) = some (1, 1, some 1) := by kernel_rfl
  cases hi : Try.prog.info? 5 with
  | none => simp [hi] at h
  | some i =>
    simp [hi] at h
    obtain ⟨h1, h2, z, h3, h4⟩ := h
    exact ⟨i, z, rfl, h3, h1, h2, h4⟩
theorem at_append (T : TypeId) {P : Program} {ops : Array Oper} {Q : Exit → Act → World → Prop} {rest : List Oper} {a : Act} {w : World} {d : Option Tmp} {x y : Operand} {ty : TypeId} {pos : String} {af : Array Edge} {gd : Option (Nat × Bool)}
    (h : wpList P ops Q (⟨d, .call { callee := .builtin .append, args := #[x, y], argTypes := #[T, T] }, ty, pos, af, gd⟩ :: rest) a w) : wpList P ops Q (⟨d, .call { callee := .builtin .append, args := #[x, y], argTypes := #[T, T] }, ty, pos, af, gd⟩ :: rest) a w := h
/-- bytes of a copy: in a block of bytes of their own -/
def BytT (w : World) (v : Value) (n : Nat) (X : Nat → Int) : Prop := ∃ a c, v = .slice a n c ∧ n ≤ c ∧ c ≤ 9223372036854775807 ∧ (a = none → n = 0 ∧ c = 0) ∧ (a = none ∨ ∃ g A fr, a = some ⟨g, 0, none⟩ ∧ w.heap[g]? = some (.cells A 5 fr) ∧ ∀ i, i < n → A[i]? = some (.int .u8 (X i)))
theorem BytT.kept {w w1 : World} {v : Value} {n : Nat} {X : Nat → Int} (h : BytT w v n X) (hb : Below w.heap.size w w1) : BytT w1 v n X := by
  obtain ⟨a, c, h1, h2, h3, h4, h5⟩ := h
  refine ⟨a, c, h1, h2, h3, h4, ?_⟩
  rcases h5 with h5 | ⟨g, A, fr, h5, h6, h7⟩
  · exact .inl h5
  · exact .inr ⟨g, A, fr, h5, Ytfgcjgabknoamaa.kept hb h6, h7⟩
theorem BytT.byt {w : World} {a : Option Addr} {n c : Nat} {X : Nat → Int} (h : BytT w (.slice a n c) n X) : Byt w a n X := fun i hi => by
  obtain ⟨a', c', h1, _, _, h4, h5⟩ := h
  cases h1
  rcases h5 with h5 | ⟨g, A, fr, h5, h6, h7⟩
  · have := (h4 h5).1; omega
  · exact ⟨g, 0, A, _, fr, h5, h6, by rw [Nat.zero_add]; exact h7 i hi⟩
theorem own_bytes {w : World} {base n : Nat} {v : Value} {X : Nat → Int} (h : w.ownsRow base 5 1 v n (bl X n)) : BytT w v n X := by
  obtain ⟨_, ⟨rfl, rfl⟩ | ⟨g, cap, cur, rfl, _, hg, hn, hm, hc, ht⟩⟩ := h
  · exact ⟨none, 0, rfl, by omega, by omega, fun _ => ⟨rfl, rfl⟩, .inl rfl⟩
  · refine ⟨_, cap, rfl, hn, by unfold maxLen at hm; omega, fun h => (by cases h), .inr ⟨g, cur, _, rfl, hg, fun i hi => ?_⟩⟩
    rw [← bl_at X hi, ← ht, List.getElem?_take, if_pos (by omega), Array.getElem?_toList]

set_option maxHeartbeats 1000000 in
theorem clone_any (a : Option Addr) (n c : Nat) (X : Nat → Int) (w : World) (hX : Byt w a n X) (hn : n ≤ 100000000) (hz : a = none → n = 0 ∧ c = 0) :
    Calls Try.prog 34 #[.slice a n c] w fun e w' => ∃ v', e = .returned v' ∧ BytT w' v' n X ∧ Below w.heap.size w w' := by
  have q22 : ∀ (w : World) (a : Option Addr) (n c n' c' : Nat), (binOp .eql 22 (.slice a n c) (.slice none n' c')).run Try.prog w = .ok (.bool a.isNone) w := fun w a n c n' c' => Lib.run_eql_slice_nil w _ _ a n c n' c' Try.underlying22
  cases a with
  | none =>
    obtain ⟨rfl, rfl⟩ := hz rfl
    go_enter Try.func34, Try.ntmps34
    go_wp2
    go_ret
    exact ⟨_, rfl, ⟨none, 0, rfl, by omega, by omega, fun _ => ⟨rfl, rfl⟩, .inl rfl⟩, Below.refl _ _⟩
  | some ad =>
    obtain ⟨i, z, h1, h2, h3, h4, h5⟩ := info_u8
    have hown := (World.ownsRow_made w #[] 0 (e := 5) (size := 1) (base := w.heap.size) (Nat.le_refl _) (Nat.zero_le _) rfl)
    have hcell : ∀ j u, (bl X n)[j]? = some u → (w.alloc (.cells #[] 5)).cell? (ad.add j) = some u := fun j u hj => by
      have hjn : j < n := by rw [← bl_len X n]; exact (List.getElem?_eq_some_iff.1 hj).1
      obtain ⟨g, off, A, t, fr, ha, hg, hA⟩ := hX j hjn
      injection ha with ha
      subst ha
      have hadd : (⟨g, off, none⟩ : Addr).add j = ⟨g, off + j, none⟩ := by unfold Addr.add; split <;> simp_all
      rw [hadd, cellF (heap_up hg), hA, ← hj, bl_at X hjn]
    go_enter Try.func34, Try.ntmps34
    go_wp2_with ((with_reducible refine at_append 22 ?_); refine wpList_append_own _ rfl _ _ _ rfl w.heap.size 5 i z 1 1 Try.underlying22 h1 h2 h3 h4 h5 (by omega) _ 0 [] rfl hown ad n c (bl X n) rfl (by rw [bl_len]; omega) hcell (bl_one X n) (by unfold maxLen; omega) (by omega) (by simp) ?_; intro v' w' ho hg hnil)
    go_ret
    rw [Nat.zero_add, List.nil_append] at ho
    exact ⟨_, rfl, own_bytes ho, (below_new _ _).grown hg (by simp) (fun k hk => by have := (hown.lt k hk).1; omega)⟩

def m3 (f t : Int) (v : Value) : Array Value := #[.int .i64 f, .int .i64 t, v]
theorem m3_all {f t : Int} {a : Option Addr} {n c : Nat} : (m3 f t (.slice a n c)).all (·.oneCell') = true := all_one fun i v hv => by
  have hi : i < 3 := (Array.getElem?_eq_some_iff.1 hv).1
  have : i = 0 ∨ i = 1 ∨ i = 2 := by omega
  rcases this with rfl | rfl | rfl <;> (cases hv; rfl)
theorem results_cell_any {fn : Func} {P : Program} {p : Tmp} {ty : TypeId} (h : fn.results = #[.cell p ty]) (tmps : Array Value) (w : World) (g : Nat) (t : TypeId) (cs : Array Value) (d : TypeDesc)
    (hp : tmps.getD p undef = .pointer (some ⟨g, 0, none⟩)) (hg : w.heap[g]? = some (.cells cs t (0, 0)))
    (hu : P.underlying ty = some d) (hd : (match d with | .struct _ | .array _ _ => true | _ => false) = true) (hi : (P.info? ty).map (·.size) = some cs.size) :
    (results fn tmps).run P w = .ok (.agg cs) w := results_cell_row h tmps w g t cs (0, 0) d hp hg hu hd hi

set_option maxRecDepth 100000 in
set_option maxHeartbeats 1000000 in
theorem own_any (f t : Int) (a : Option Addr) (n c : Nat) (X : Nat → Int) (w : World) (hX : Byt w a n X) (hn : n ≤ 100000000) (hz : a = none → n = 0 ∧ c = 0) :
    Calls Try.prog 26 #[.agg (m3 f t (.slice a n c))] w fun e w' => ∃ v', e = .returned (.agg (m3 f t v')) ∧ BytT w' v' n X ∧ Below w.heap.size w w' := by
  have hX2 := (hX.kept (below_new w (Obj.cells (m3 f t (.slice a n c)) 24))).kept (below_new _ (Obj.cells (m3 0 0 (.slice none 0 0)) 24))
  have cc := clone_any a n c X _ hX2 hn hz
  have H3 := Lib.hid (show ∀ f t v, (m3 f t v).size = 3 from fun _ _ _ => rfl)
  have h2 : (m3 f t (.slice a n c))[2]? = some (.slice a n c) := rfl
  have hset : ∀ v, (m3 f t (.slice a n c)).setIfInBounds 2 v = m3 f t v := fun v => rfl
  have HSET := Lib.hid hset
  clear hset
  have hg1 := heap_up (o := Obj.cells (m3 0 0 (.slice none 0 0)) 24) (heap_alloc_new w (Obj.cells (m3 f t (.slice a n c)) 24))
  have hg2 := heap_alloc2_new w (Obj.cells (m3 f t (.slice a n c)) 24) (Obj.cells (m3 0 0 (.slice none 0 0)) 24)
  have hb2 := below_alloc (below_new w (Obj.cells (m3 f t (.slice a n c)) 24)) (Obj.cells (m3 0 0 (.slice none 0 0)) 24)
  generalize hM : m3 f t (.slice a n c) = M at *
  generalize hM0 : m3 0 0 (.slice none 0 0) = M0 at *
  have HM0 := Lib.hid hM0
  have HMs := Lib.hid (show M.size = 3 by rw [← hM]; rfl)
  have HM0s := Lib.hid (show M0.size = 3 by rw [← hM0]; rfl)
  clear hM hM0
  obtain ⟨cg, fg, _⟩ := cells_of hg1
  go_enter Try.func26, Try.ntmps26
  go_wp2_with (first | ((with_reducible refine at_alloc 24 ?_); refine wpList_alloc_named rfl 24 rfl M0 (by rw [← HM0.out]; kernel_rfl) ?_) | (go_at_call 34; (with_reducible refine cc.mono ?_); rintro e w1 ⟨v', rfl, hv1, hb1⟩; obtain ⟨a', c', rfl, hv2⟩ := id hv1; have hg11 := Ytfgcjgabknoamaa.kept hb1 hg1; have hg21 := Ytfgcjgabknoamaa.kept hb1 hg2; obtain ⟨cg1, fg1, _⟩ := cells_of hg11; have hg12 := heap_set (i := 2) (v := .slice a' n c') hg11; have hg22 := heap_set_other (g := w.heap.size) (i := 2) (v := .slice a' n c') hg21 (by omega); rw [HSET.out] at hg12; have HS3 := Lib.hid (extract_all (H3.out f t (.slice a' n c')))) | ((with_reducible refine at_load 24 ?_); refine wpList_load_part rfl 24 _ rfl (w.heap.size) (0) rfl _ (m3 f t (.slice a' n c')) _ _ 3 (hg12) Try.underlying24 rfl (by kernel_rfl) (by rw [H3.out]; omega) (m3 f t (.slice a' n c')) (HS3.out) ?_) | ((with_reducible refine at_store 24 ?_); refine wpList_store_over rfl 24 _ _ rfl (w.heap.size + 1) (m3 f t (.slice a' n c')) rfl rfl _ _ (hg22) (by rw [H3.out]; kernel_rfl) (by rw [H3.out]; exact HM0s.out) (m3_all) ?_; intro w3 hg3 hs3 ho3 hb3))
  have hB1 := below_set (g := w.heap.size) (i := 2) (v := .slice a' n c') (below_then hb2 hb1) (Nat.le_refl _)
  have hv3 : BytT w3 (.slice a' n c') n X := by
    obtain ⟨a2, c2, q1, q2, q3, q4, q5⟩ := hv1
    refine ⟨a2, c2, q1, q2, q3, q4, ?_⟩
    rcases q5 with q5 | ⟨gb, A, fr, q5, q6, q7⟩
    · exact .inl q5
    · refine .inr ⟨gb, A, fr, q5, ?_, q7⟩
      have e1 : gb ≠ w.heap.size := fun e => by subst e; rw [hg11] at q6; injection q6 with q6; injection q6 with _ q6; exact absurd q6 (by decide)
      have e2 : gb ≠ w.heap.size + 1 := fun e => by subst e; rw [hg21] at q6; injection q6 with q6; injection q6 with _ q6; exact absurd q6 (by decide)
      rw [ho3 _ e2]
      exact heap_set_other q6 e1
  exact bodyPost_ret (results_cell_any rfl _ _ _ _ _ _ rfl hg3 Try.underlying24 rfl (by rw [H3.out]; kernel_rfl)) rfl ⟨_, rfl, hv3, hB1.trans (hb3 _ (by omega))⟩
end Go.Proofs.Ytfgcjgabknoamaa
