/- The known example of layer 8; fills and orders are as themselves. No condition. -/
import Derived.Test.YtoglcgijgckdaaaClr8
import Derived.Test.YtoglcgijgckdaaaKl
import Derived.Great.BuildSlice
namespace Go.Proofs.Ytoglcgijgckdaaa
set_option linter.unusedVariables false
set_option linter.unusedSimpArgs false
open Go.RowKit

theorem kl_bool {d o : Nat} {t : TypeId} {cs : List Value} {b : Bool} (hu : Try.prog.underlying t = some .bool) (hc : Try.prog.cellsOf t = 1) (h : cs[o]? = some (.bool b)) :
    ∃ l, Try.prog.keyLits (d + 1) t ((cs.drop o).take (Try.prog.cellsOf t)) = some l := by
  have hlt : o < cs.length := (List.getElem?_eq_some_iff.1 h).1
  have e : (cs.drop o).take 1 = [.bool b] := by
    rw [List.drop_eq_getElem_cons hlt, List.take_succ_cons, List.take_zero, (List.getElem?_eq_some_iff.1 h).2]
  rw [hc, e]
  unfold Program.keyLits
  rw [hu]
  exact ⟨_, rfl⟩
theorem neq_fill (x y z : Int) (hx : 0 ≤ x ∧ x ≤ 18446744073709551615) (hy : 0 ≤ y ∧ y ≤ 4294967295) (hz : F64 z) (w : World) : (binOp .neq 36 (.agg (fA x y z)) (.agg (fA x y z))).run Try.prog w = .ok (.bool false) w := by
  have hcs : Try.prog.cellsOf 36 = 3 := by kernel_rfl
  have c2 : Try.prog.cellsOf 2 = 1 := by kernel_rfl
  have c3 : Try.prog.cellsOf 29 = 1 := by kernel_rfl
  have c4 : Try.prog.cellsOf 28 = 1 := by kernel_rfl
  refine neq_keys Try.underlying36 (by rw [hcs]; rfl) (by kernel_rfl) (kl_fields Try.underlying36 (by rw [hcs]; rfl) (by kernel_rfl) fun f hf => ?_) w
  simp only [List.mem_cons, List.not_mem_nil, or_false] at hf
  rcases hf with rfl | rfl | rfl
  · exact kl_int Try.underlying28 c4 (IsN_of (n := x) rfl hx)
  · exact kl_int Try.underlying29 c3 (IsN_of (n := y) rfl hy)
  · exact kl_int Try.underlying2 c2 (IsN_of (n := z) rfl hz)
theorem neq_ord {A : Array Value} (h : IsOrd A) (w : World) : (binOp .neq 31 (.agg A) (.agg A)).run Try.prog w = .ok (.bool false) w := by
  have hcs : Try.prog.cellsOf 31 = 5 := by kernel_rfl
  have c2 : Try.prog.cellsOf 2 = 1 := by kernel_rfl
  have c3 : Try.prog.cellsOf 29 = 1 := by kernel_rfl
  have c4 : Try.prog.cellsOf 28 = 1 := by kernel_rfl
  have c5 : Try.prog.cellsOf 4 = 1 := by kernel_rfl
  refine neq_keys Try.underlying31 (by rw [hcs]; exact h.size) (by kernel_rfl) (kl_fields Try.underlying31 (by rw [hcs]; simpa using h.size) (by kernel_rfl) fun f hf => ?_) w
  simp only [List.mem_cons, List.not_mem_nil, or_false] at hf
  rcases hf with rfl | rfl | rfl | rfl | rfl
  · exact kl_int Try.underlying28 c4 (by simpa using h.n)
  · exact kl_int Try.underlying29 c3 (by simpa using h.a)
  · exact kl_bool (b := Bo A 2) Try.underlying4 c5 (by have := h.b; unfold IsB at this; simpa using this)
  · exact kl_int Try.underlying2 c2 (by simpa using h.p)
  · exact kl_int Try.underlying2 c2 (by simpa using h.l)
theorem at_buildSlice (T : TypeId) {P : Program} {ops : Array Oper} {Q : Exit → Act → World → Prop} {rest : List Oper} {a : Act} {w : World} {d : Option Tmp} {n : Nat} {ps : Array (Nat × Operand)} {ty : TypeId} {pos : String} {af : Array Edge} {gd : Option (Nat × Bool)}
    (h : wpList P ops Q (⟨d, .buildSlice T n ps, ty, pos, af, gd⟩ :: rest) a w) : wpList P ops Q (⟨d, .buildSlice T n ps, ty, pos, af, gd⟩ :: rest) a w := h
def sliceCells (P : Program) (e : TypeId) (len : Nat) (ps : List (Nat × Value)) : Option (Array Value) :=
  (P.info? e).bind fun ie => ie.zero.bind fun z => if len * ie.size > 2 ^ 24 ∨ len * ie.size = 0 then none else
    Instr.fill (fun i => some (i * ie.size, ie.size)) ((Array.range (len * ie.size)).map (z.cells[· % z.cells.size]!)) ps
theorem wpList_slice_named {P : Program} {ops : Array Oper} {rest : List Oper} {o : Oper} {a : Act} {w : World} {Q : Exit → Act → World → Prop} (hg : o.guard = none) (t e : TypeId) (len : Nat) (parts : Array (Nat × Operand)) (ho : o.op = .buildSlice t len parts)
    (B : Array Value) (hu : P.underlying t = some (.slice e)) (hf : sliceCells P e len (parts.map fun (i, x) => (i, a.eval x)).toList = some B)
    (h : wpList P ops Q rest (a.put o.dst (.slice (some ⟨w.heap.size, 0, none⟩) len len)) (w.alloc (.cells B e))) : wpList P ops Q (o :: rest) a w := by
  unfold sliceCells at hf
  cases hie : P.info? e with
  | none => simp [hie] at hf
  | some ie =>
    cases hz : ie.zero with
    | none => simp [hie, hz] at hf
    | some z =>
      simp only [hie, hz, Option.bind_some] at hf
      split at hf
      · simp at hf
      · rename_i hn
        exact wpList_buildSlice hg t e len parts ho B ie z hu hie hz (fun h => hn (Or.inl h)) (fun h => hn (Or.inr h)) hf h

def k8a : Array Value := #[.int .u64 1, .int .u32 1, .bool true, .int .i64 10, .int .i64 5]
def k8b : Array Value := #[.int .u64 2, .int .u32 2, .bool true, .int .i64 12, .int .i64 5]
def k8c : Array Value := #[.int .u64 3, .int .u32 3, .bool true, .int .i64 10, .int .i64 5]
def k8L (i : Nat) : Array Value := if i = 0 then k8a else if i = 1 then k8b else k8c
def k8d (i : Nat) : Nat := if i = 0 then 1 else if i = 1 then 0 else i
theorem k8_ord (i : Nat) : IsOrd (k8L i) := by
  unfold k8L
  split
  · exact ⟨rfl, IsN_of (n := 1) rfl (by decide), IsN_of (n := 1) rfl (by decide), IsB_of (b := true) rfl, IsN_of (n := 10) rfl (by decide), IsN_of (n := 5) rfl (by decide)⟩
  · split
    · exact ⟨rfl, IsN_of (n := 2) rfl (by decide), IsN_of (n := 2) rfl (by decide), IsB_of (b := true) rfl, IsN_of (n := 12) rfl (by decide), IsN_of (n := 5) rfl (by decide)⟩
    · exact ⟨rfl, IsN_of (n := 3) rfl (by decide), IsN_of (n := 3) rfl (by decide), IsB_of (b := true) rfl, IsN_of (n := 10) rfl (by decide), IsN_of (n := 5) rfl (by decide)⟩
theorem k8_E : clE true 7 k8L 3 = 0 := by decide
theorem k8_dd (k : Nat) : k8d (k8d k) = k := by unfold k8d; repeat' split
                                                all_goals omega
theorem k8_perm : PermOn 0 3 id k8d := ⟨k8d, k8d, k8_dd, k8_dd, fun k hk => by unfold k8d; rw [if_neg (by omega), if_neg (by omega)], fun _ => rfl⟩
theorem k8_srt : Srt (keyS true k8L) 0 3 k8d := fun i j _ hij hj => by
  have : (i = 0 ∧ j = 1) ∨ (i = 0 ∧ j = 2) ∨ (i = 1 ∧ j = 2) := by omega
  rcases this with ⟨rfl, rfl⟩ | ⟨rfl, rfl⟩ | ⟨rfl, rfl⟩
  · exact .inl (by decide)
  · exact .inl (by decide)
  · exact .inr ⟨by decide, by decide⟩
theorem k8_out {d : Nat → Nat} (p : PermOn 0 3 id d) (s : Srt (keyS true k8L) 0 3 d) : nf 7 (vS k8L d) 3 = 2 ∧ prc k8L d 2 = 10 ∧ fillA 7 k8L d 0 = fA 2 2 5 ∧ fillA 7 k8L d 1 = fA 1 1 2 := by
  have h := srt_one p s k8_perm k8_srt
  have d0 : d 0 = 1 := h 0 (by omega)
  have d1 : d 1 = 0 := h 1 (by omega)
  have d2 : d 2 = 2 := h 2 (by omega)
  have v0 : vS k8L d 0 = 5 := by unfold vS; rw [d0]; rfl
  have v1 : vS k8L d 1 = 5 := by unfold vS; rw [d1]; rfl
  have l0 : lft 7 (vS k8L d) 0 = 7 := rfl
  have l1 : lft 7 (vS k8L d) 1 = 2 := by rw [lft, l0, v0]; rfl
  have l2 : lft 7 (vS k8L d) 2 = 0 := by rw [lft, l1, v1]; rfl
  refine ⟨?_, ?_, ?_, ?_⟩
  · rw [nf, l2, if_neg (by decide), nf, l1, if_pos (by decide)]
  · unfold prc; rw [if_neg (by decide), show 2 - 1 = 1 from rfl, d1]; rfl
  · unfold fillA gv; rw [d0, l0, v0]; rfl
  · unfold fillA gv; rw [d1, l1, v1]; rfl
theorem k8_rows {w : World} {g : Nat} (h : w.heap[g]? = some (.cells #[.int .u64 1, .int .u32 1, .bool true, .int .i64 10, .int .i64 5, .int .u64 2, .int .u32 2, .bool true, .int .i64 12, .int .i64 5, .int .u64 3, .int .u32 3, .bool true, .int .i64 10, .int .i64 5] 31 (0, 0))) : RowsC w 5 (some ⟨g, 0, none⟩) 3 k8L := fun i hi => by
  refine ⟨g, 0, _, _, _, rfl, h, ?_⟩
  have : i = 0 ∨ i = 1 ∨ i = 2 := by omega
  rcases this with rfl | rfl | rfl
  · exact ⟨by decide, rfl⟩
  · exact ⟨by decide, rfl⟩
  · exact ⟨by decide, rfl⟩
set_option maxRecDepth 100000 in
set_option maxHeartbeats 2000000 in
theorem known08 (w : World) : Calls Try.prog 7 #[] w fun e w' => e = .returned (.bool true) ∧ Below w.heap.size w w' := by
  have c1 := clear_any true 7 (some ⟨w.heap.size, 0, none⟩) 3 3 k8L _ (by unfold F64; omega) k8_ord (k8_rows (heap_alloc_new w _)) (fun h => by cases h)
  have q1 : ∀ w : World, (binOp .eql 36 (.agg (fA 2 2 5)) (.agg (fA 2 2 5))).run Try.prog w = .ok (.bool true) w := fun w => by kernel_rfl
  have q2 : ∀ w : World, (binOp .eql 36 (.agg (fA 1 1 2)) (.agg (fA 1 1 2))).run Try.prog w = .ok (.bool true) w := fun w => by kernel_rfl
  go_enter Try.func7, Try.ntmps7
  go_wp2_with (first | ((with_reducible refine at_buildSlice 22 ?_); refine wpList_slice_named rfl 22 31 3 _ rfl #[.int .u64 1, .int .u32 1, .bool true, .int .i64 10, .int .i64 5, .int .u64 2, .int .u32 2, .bool true, .int .i64 12, .int .i64 5, .int .u64 3, .int .u32 3, .bool true, .int .i64 10, .int .i64 5] Try.underlying22 (by kernel_rfl) ?_) | (go_at_call 8; refine stop_at ?_))
  refine ⟨?_⟩
  refine c1.mono ?_
  rintro e w1 ⟨⟨h0, _⟩ | ⟨_, d, fv, hp, hs, rfl, ho⟩, hb1⟩
  · exact absurd k8_E h0
  · obtain ⟨e1, e2, e3, e4⟩ := k8_out hp hs
    rw [e1] at ho ⊢
    rw [e2]
    obtain ⟨a, cp, rfl, hR, _⟩ := own_rows (c := 3) (fun i => fill_size _ _ _ i) ho
    obtain ⟨g, off, A, fr, rfl, hgA, hs0, hx0⟩ := hR 0 (by omega)
    obtain ⟨g2, off2, A2, fr2, ha, hgA2, hs1, hx1⟩ := hR 1 (by omega)
    cases ha
    rw [hgA] at hgA2
    cases hgA2
    have H0 := Lib.hid (show A.extract (off + 0 * 3) (off + 0 * 3 + 3) = fA 2 2 5 from hx0.trans e3)
    have H1 := Lib.hid (show A.extract (off + 1 * 3) (off + 1 * 3 + 3) = fA 1 1 2 from hx1.trans e4)
    have HB := Lib.hid hb1
    clear c1 hp hs ho hR hx0 hx1 e1 e2 e3 e4 hb1
    go_wp2_with (first | ((with_reducible refine at_load 36 ?_); refine wpList_load_part rfl 36 _ rfl (g) (off + 0 * 3) rfl _ (A) _ _ 3 (hgA) Try.underlying36 rfl (by kernel_rfl) (hs0) (fA 2 2 5) (H0.out) ?_) | ((with_reducible refine at_load 36 ?_); refine wpList_load_part rfl 36 _ rfl (g) (off + 1 * 3) rfl _ (A) _ _ 3 (hgA) Try.underlying36 rfl (by kernel_rfl) (hs1) (fA 1 1 2) (H1.out) ?_) | ((with_reducible refine at_load 36 ?_); refine wpList_load_part rfl 36 _ rfl (g) (off) rfl _ (A) _ _ 3 (hgA) Try.underlying36 rfl (by kernel_rfl) (by omega) (fA 2 2 5) ((by have := H0.out; simpa using this)) ?_) | ((with_reducible refine at_load 36 ?_); refine wpList_load_part rfl 36 _ rfl (g) (off + 3) rfl _ (A) _ _ 3 (hgA) Try.underlying36 rfl (by kernel_rfl) (by omega) (fA 1 1 2) ((by have := H1.out; simpa using this)) ?_) | ((with_reducible refine at_build 36 ?_); refine wpList_build_named rfl 36 #[(0, .const (.int .u64 2)), (1, .const (.int .u32 2)), (2, .const (.int .i64 5))] rfl (fA 2 2 5) (by kernel_rfl) ?_) | ((with_reducible refine at_build 36 ?_); refine wpList_build_named rfl 36 #[(0, .const (.int .u64 1)), (1, .const (.int .u32 1)), (2, .const (.int .i64 2))] rfl (fA 1 1 2) (by kernel_rfl) ?_))
    go_ret
    exact ⟨rfl, below_then (below_new _ _) HB.out⟩
end Go.Proofs.Ytoglcgijgckdaaa
