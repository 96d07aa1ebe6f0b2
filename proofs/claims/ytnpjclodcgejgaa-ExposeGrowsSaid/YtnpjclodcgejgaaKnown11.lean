/- What is known of a small stake comes out as it is said; no condition. -/
import Derived.Test.YtnpjclodcgejgaaTot
import Derived.Test.YtnpjclodcgejgaaStkIn
import Derived.Great.BuildSlice
namespace Go.Proofs.Ytnpjclodcgejgaa
set_option linter.unusedVariables false
set_option linter.unusedSimpArgs false
open Go.RowKit

def z25s : Array Value := #[.int .u32 0, .int .u8 0, .int .i64 0, .int .i64 0, .int .i64 0, .int .i64 0, .int .i64 0, .int .i64 0, .int .i64 0, .int .i64 0, .int .i64 0, .int .i64 0, .int .i64 0, .int .i64 0, .int .i64 0, .int .i64 0, .int .i64 0, .int .i64 0, .int .i64 0, .int .i64 0, .int .i64 0, .int .i64 0,
    .int .i64 0, .int .u32 0, .int .i64 0]
def kp (a b : Int) : Array Value := #[.int .u32 1, .int .u8 1, .int .i64 1, .int .i64 1, .int .i64 0, .int .i64 9, .int .i64 a, .int .i64 b, .int .i64 0, .int .i64 0, .int .i64 0, .int .i64 0, .int .i64 0, .int .i64 0, .int .i64 0, .int .i64 0, .int .i64 0, .int .i64 0, .int .i64 0, .int .i64 0, .int .i64 0, .int .i64 0,
    .int .i64 0, .int .u32 0, .int .i64 10]
def kleg : Array Value := #[.int .u32 1, .int .u8 1, .int .i64 1, .int .i64 1, .int .i64 0, .int .i64 9, .int .i64 50, .int .i64 (-40), .int .i64 0, .int .i64 0, .int .i64 0, .int .i64 0, .int .i64 0, .int .i64 0, .int .i64 0, .int .i64 0, .int .i64 0, .int .i64 0, .int .i64 0, .int .i64 0, .int .i64 0, .int .i64 0,
    .int .i64 0, .int .u32 0, .int .i64 10, .int .i64 2]
def ko0 : Array Value := #[.int .u64 1, .int .u32 1, .bool true, .int .i64 12, .int .i64 3]
def ko1 : Array Value := #[.int .u64 2, .int .u32 1, .bool false, .int .i64 9, .int .i64 1]
def koo : Array Value := #[.int .u64 1, .int .u32 1, .bool true, .int .i64 12, .int .i64 3, .int .u64 2, .int .u32 1, .bool false, .int .i64 9, .int .i64 1]
def kst (x : Int) (g : Nat) : Array Value := #[.int .u32 1, .int .u8 1, .int .i64 1, .int .i64 1, .int .i64 0, .int .i64 9, .int .i64 50, .int .i64 (-40), .int .i64 0, .int .i64 0, .int .i64 0, .int .i64 0, .int .i64 0, .int .i64 0, .int .i64 0, .int .i64 0, .int .i64 0, .int .i64 0, .int .i64 0, .int .i64 0, .int .i64 0, .int .i64 0,
    .int .i64 0, .int .u32 0, .int .i64 10, .int .i64 2, .int .i64 x, .int .i64 10, .slice (some ⟨g, 0, none⟩) 2 2]
def kO : Nat → Array Value := fun i => if i = 0 then ko0 else ko1

theorem kp_spec : IsSpec (kp 50 (-40)) := by
  refine ⟨rfl, o_u32 (n := 1) rfl (by omega), o_u8 (n := 1) rfl (by omega), ?_, o_u32 (n := 0) rfl (by omega), o_i64 (n := 10) rfl (by omega)⟩
  intro i h1 h2
  have : i = 2 ∨ i = 3 ∨ i = 4 ∨ i = 5 ∨ i = 6 ∨ i = 7 ∨ i = 8 ∨ i = 9 ∨ i = 10 ∨ i = 11 ∨ i = 12 ∨ i = 13 ∨ i = 14 ∨ i = 15 ∨ i = 16 ∨ i = 17 ∨ i = 18 ∨ i = 19 ∨ i = 20 ∨ i = 21 ∨ i = 22 := by omega
  rcases this with rfl | rfl | rfl | rfl | rfl | rfl | rfl | rfl | rfl | rfl | rfl | rfl | rfl | rfl | rfl | rfl | rfl | rfl | rfl | rfl | rfl <;> exact o_i64 rfl (by omega)
theorem kst_stk (g : Nat) : IsStk (kst 33 g) := by
  refine ⟨rfl, ?_, o_i64 (n := 33) rfl (by omega), o_i64 (n := 10) rfl (by omega), _, _, _, rfl⟩
  rw [show (kst 33 g).extract 0 26 = kleg by kernel_rfl]
  exact ⟨rfl, by rw [show kleg.extract 0 25 = kp 50 (-40) by kernel_rfl]; exact kp_spec, o_i64 (n := 2) rfl (by omega)⟩
theorem kO_ord (i : Nat) : IsOrd (kO i) := by
  unfold kO
  split
  · exact ⟨rfl, IsN_of (n := 1) rfl ⟨by decide, by decide⟩, o_u32 (n := 1) rfl (by omega), IsB_of (b := true) rfl, o_i64 (n := 12) rfl (by omega), o_i64 (n := 3) rfl (by omega)⟩
  · exact ⟨rfl, IsN_of (n := 2) rfl ⟨by decide, by decide⟩, o_u32 (n := 1) rfl (by omega), IsB_of (b := false) rfl, o_i64 (n := 9) rfl (by omega), o_i64 (n := 1) rfl (by omega)⟩
theorem k_need (g : Nat) : need (fun _ => kst 33 g) (fun _ => kO) (fun _ => 2) 1 = r3 80 127 13 ∧ nE (fun _ => kst 33 g) (fun _ => kO) (fun _ => 2) 1 = 0 := by
  have h : nE (fun _ => kst 33 g) (fun _ => kO) (fun _ => 2) 1 = 0 := by kernel_rfl
  refine ⟨?_, h⟩
  rw [need_ok h]
  kernel_rfl
theorem k_stks {w : World} {g gs : Nat} (h : w.heap[g]? = some (.cells (kst 33 gs) 33 (0, 0))) (hs : w.heap[gs]? = some (.cells koo 41 (0, 0))) : Stks w (some ⟨g, 0, none⟩) 1 (fun _ => kst 33 gs) (fun _ => kO) (fun _ => 2) where
  at_ := fun i hi => by
    obtain rfl : i = 0 := by omega
    exact ⟨g, 0, _, _, _, rfl, h, by show 0 + 0 * 29 + 29 ≤ 29; omega, by kernel_rfl⟩
  or := fun i hi => by
    refine ⟨some ⟨gs, 0, none⟩, 2, rfl, fun k hk => ?_, by omega, by omega, fun h => by cases h⟩
    refine ⟨gs, 0, koo, _, _, rfl, hs, ?_, ?_⟩
    · have : koo.size = 10 := rfl
      omega
    · have : k = 0 ∨ k = 1 := by omega
      rcases this with rfl | rfl
      · exact (by kernel_rfl : koo.extract 0 5 = ko0)
      · exact (by kernel_rfl : koo.extract 5 10 = ko1)

section
variable {P : Program}
/-- A slice literal, its cells behind a name. -/
theorem at_buildSlice (T : TypeId) {ops : Array Oper} {Q : Exit → Act → World → Prop} {rest : List Oper} {a : Act} {w : World} {d : Option Tmp} {n : Nat} {ps : Array (Nat × Operand)} {ty : TypeId} {pos : String} {af : Array Edge} {gd : Option (Nat × Bool)}
    (h : wpList P ops Q (⟨d, .buildSlice T n ps, ty, pos, af, gd⟩ :: rest) a w) : wpList P ops Q (⟨d, .buildSlice T n ps, ty, pos, af, gd⟩ :: rest) a w := h
def sliceCells (P : Program) (e : TypeId) (len : Nat) (ps : List (Nat × Value)) : Option (Array Value) :=
  (P.info? e).bind fun ie => ie.zero.bind fun z => if len * ie.size > 2 ^ 24 ∨ len * ie.size = 0 then none else
    Instr.fill (fun i => some (i * ie.size, ie.size)) ((Array.range (len * ie.size)).map (z.cells[· % z.cells.size]!)) ps
theorem wpList_slice_named {ops : Array Oper} {rest : List Oper} {o : Oper} {a : Act} {w : World} {Q : Exit → Act → World → Prop} (hg : o.guard = none) (t e : TypeId) (len : Nat) (parts : Array (Nat × Operand)) (ho : o.op = .buildSlice t len parts)
    (B : Array Value) (hu : P.underlying t = some (.slice e)) (hf : sliceCells P e len (parts.map fun (i, x) => (i, a.eval x)).toList = some B)
    (h : wpList P ops Q rest (a.put o.dst (.slice (some ⟨w.heap.size, 0, none⟩) len len)) (w.alloc (.cells B e))) : wpList P ops Q (o :: rest) a w := by
  unfold sliceCells at hf
  cases hie : P.info? e with
  | none => simp [hie] at hf
  | some ie =>
    cases hz : ie.zero with
    | none => simp [hie, hz] at hf
    | some z =>
      simp only [hie, hz, Option.bind_some] at hf
      split at hf
      · simp at hf
      · rename_i hn
        exact wpList_buildSlice hg t e len parts ho B ie z hu hie hz (fun h => hn (Or.inl h)) (fun h => hn (Or.inr h)) hf h
end

theorem wpList_slice_at {P : Program} {ops : Array Oper} {rest : List Oper} {o : Oper} {a : Act} {w : World} {Q : Exit → Act → World → Prop} (hg : o.guard = none) (t e : TypeId) (len : Nat) (parts : Array (Nat × Operand)) (ho : o.op = .buildSlice t len parts)
    (B : Array Value) (hu : P.underlying t = some (.slice e)) (hf : sliceCells P e len (parts.map fun (i, x) => (i, a.eval x)).toList = some B) (gs : Nat) (hgs : gs = w.heap.size)
    (h : wpList P ops Q rest (a.put o.dst (.slice (some ⟨gs, 0, none⟩) len len)) (w.alloc (.cells B e))) : wpList P ops Q (o :: rest) a w := by
  subst hgs
  exact wpList_slice_named hg t e len parts ho B hu hf h
theorem kfin : (((kp 0 0).setIfInBounds 6 (.int .i64 50)).setIfInBounds 7 (.int .i64 (-40))).extract 0 25 = kp 50 (-40) := by kernel_rfl
set_option maxRecDepth 100000 in
set_option maxHeartbeats 1000000 in
theorem small_any (w : World) :
    Calls Try.prog 23 #[.int .i64 33] w fun e w' => ∃ g, e = .returned (.agg (kst 33 g)) ∧ w'.heap[g]? = some (.cells koo 41 (0, 0)) ∧ Below w.heap.size w w' := by
  have s1 : (kp 0 0)[6]? = some (.int .i64 0) := rfl
  have s2 : ∀ x, ((kp 0 0).setIfInBounds 6 x)[7]? = some (.int .i64 0) := fun _ => rfl
  have H0 := Lib.hid (show (kp 0 0).size = 25 from rfl)
  have H1 := Lib.hid (show z29.size = 29 from rfl)
  have H2 := Lib.hid (show ∀ g, (kst 33 g).size = 29 from fun _ => rfl)
  have H3 := Lib.hid (fun g => (kst_stk g).all)
  have H4 := Lib.hid (show (kp 0 0).all (·.oneCell') = true by kernel_rfl)
  go_enter Try.func23, Try.ntmps23
  go_wp2_with (first | ((with_reducible refine at_alloc 33 ?_); refine wpList_alloc_named rfl 33 rfl (z29) (by kernel_rfl) ?_) | ((with_reducible refine at_alloc 28 ?_); refine wpList_alloc_named rfl 28 rfl (z25s) (by kernel_rfl) ?_) | ((with_reducible refine at_build 28 ?_); refine wpList_build_named rfl 28 _ rfl (kp 0 0) (by kernel_rfl) ?_) | ((with_reducible refine at_store 28 ?_); refine wpList_store_new rfl 28 _ _ rfl (kp 0 0) _ _ _ rfl (by simp) rfl (by rw [H0.out]; kernel_rfl) (by rw [H0.out]; rfl) (H4.out) ?_) | ((with_reducible refine at_load 28 ?_); refine wpList_load_part rfl 28 _ rfl (w.heap.size + 1) (0) rfl _ (((kp 0 0).setIfInBounds 6 (.int .i64 50)).setIfInBounds 7 (.int .i64 (-40))) _ _ 25 (by repeat (first | exact heap_new (by simp; done) | refine heap_up ?_)) Try.underlying28 rfl (by kernel_rfl) (by simp [H0.out]) (kp 50 (-40)) (kfin) ?_) | ((with_reducible refine at_build 30 ?_); refine wpList_build_named rfl 30 _ rfl (kleg) (by kernel_rfl) ?_) | ((with_reducible refine at_build 41 ?_); refine wpList_build_named rfl 41 #[(0, .const (.int .u64 1)), (1, .const (.int .u32 1)), (2, .const (.bool true)), (3, .const (.int .i64 12)), (4, .const (.int .i64 3))] rfl ko0 (by kernel_rfl) ?_) | ((with_reducible refine at_build 41 ?_); refine wpList_build_named rfl 41 _ rfl (ko1) (by kernel_rfl) ?_) | ((with_reducible refine at_buildSlice 31 ?_); refine wpList_slice_at rfl 31 41 2 _ rfl koo Try.underlying31 (by kernel_rfl) (w.heap.size + 1 + 1) (by simp) ?_) | ((with_reducible refine at_build 33 ?_); refine wpList_build_named rfl 33 _ rfl (kst 33 (w.heap.size + 1 + 1)) (by kernel_rfl) ?_) | ((with_reducible refine at_store 33 ?_); refine wpList_store_over rfl 33 _ _ rfl (w.heap.size) (kst 33 (w.heap.size + 1 + 1)) rfl rfl _ _ (heap_up (heap_up (heap_alloc_new _ _))) (by rw [H2.out]; kernel_rfl) (by rw [H2.out]; exact H1.out) (H3.out _) ?_; intro w2 hg2 hs2 ho2 hb2))
  have hgo : w2.heap[w.heap.size + 1 + 1]? = some (.cells koo 41 (0, 0)) := by
    rw [ho2 _ (by omega)]
    exact by repeat (first | exact heap_new (by simp; done) | refine heap_up ?_)
  exact bodyPost_ret (results_cell_any rfl _ _ _ _ _ _ rfl hg2 Try.underlying33 rfl (by rw [H2.out]; kernel_rfl)) rfl ⟨_, rfl, hgo, (below_alloc (below_alloc (below_new _ _) _) _).trans (hb2 _ (Nat.le_refl _))⟩

theorem fill_stk {B : Array Value} {z : Array Value} (hB : B.size = 29) (hz : z.size = 29) :
    Instr.fill (fun i => some (i * 29, 29)) ((Array.range (1 * 29)).map (z[· % z.size]!)) [(0, Value.agg B)] = some B := by
  unfold Instr.fill
  simp only [Value.cells, hB]
  rw [if_neg (by simp)]
  unfold Instr.fill
  congr 1
  have h := fold_set B.toList 0 ((Array.range (1 * 29)).map (z[· % z.size]!)) (by simp [hB])
  have e : Array.foldl (fun cs x => cs.setIfInBounds (0 * 29 + x.2) x.1) ((Array.range (1 * 29)).map (z[· % z.size]!)) (B.zipIdx) = (B.toList.zipIdx 0).foldl (fun cs x => cs.setIfInBounds (0 + x.2) x.1) ((Array.range (1 * 29)).map (z[· % z.size]!)) := by
    rw [← Array.foldl_toList]
    simp
  show Array.foldl (fun cs x => cs.setIfInBounds (0 * 29 + x.2) x.1) ((Array.range (1 * 29)).map (z[· % z.size]!)) (B.zipIdx) = B
  rw [e]
  apply Array.ext_getElem?
  intro i
  rw [h.2 i]
  by_cases hi : i < 29
  · rw [if_pos (by simp [hB]; omega)]; simp
  · rw [if_neg (by simp [hB]; omega), Array.getElem?_eq_none_iff.2 (by simp; omega), Array.getElem?_eq_none_iff.2 (by omega)]
theorem info_stk : ∃ i z, Try.prog.info? 33 = some i ∧ i.zero = some z ∧ i.size = 29 ∧ z.cells.size = 29 := by
  have h : (Try.prog.info? 33).map (fun i => (i.size, i.zero.map (·.cells.size))) = some (29, some 29) := by kernel_rfl
  cases hi : Try.prog.info? 33 with
  | none => simp [hi] at h
  | some i =>
    simp [hi] at h
    obtain ⟨h1, z, h3, h4⟩ := h
    exact ⟨i, z, rfl, h3, h1, h4⟩
/-- 'stakes{x}' -/
theorem wpList_slice_stk {ops : Array Oper} {rest : List Oper} {o : Oper} {a : Act} {w : World} {Q : Exit → Act → World → Prop} (hg : o.guard = none) (x : Operand) (ho : o.op = .buildSlice 22 1 #[(0, x)])
    (B : Array Value) (hx : a.eval x = .agg B) (hB : B.size = 29)
    (h : wpList Try.prog ops Q rest (a.put o.dst (.slice (some ⟨w.heap.size, 0, none⟩) 1 1)) (w.alloc (.cells B 33))) : wpList Try.prog ops Q (o :: rest) a w := by
  obtain ⟨i, z, h1, h2, h3, h5⟩ := info_stk
  refine wpList_buildSlice hg 22 33 1 _ ho B i z Try.underlying22 h1 h2 (by rw [h3]; omega) (by rw [h3]; omega) ?_ h
  rw [h3]
  simp only [List.map_toArray, List.map_cons, List.map_nil, hx]
  exact fill_stk hB h5

/-! two needs compared -/
theorem r3_N {a b c : Int} (ha : F64 a) (hb : F64 b) (hc : F64 c) : IsN (r3 a b c) .i64 0 ∧ IsN (r3 a b c) .i64 1 ∧ IsN (r3 a b c) .i64 2 := ⟨o_i64 rfl ha, o_i64 rfl hb, o_i64 rfl hc⟩
theorem eq_need {a b c : Int} (ha : F64 a) (hb : F64 b) (hc : F64 c) (w : World) : (Op.equalIn 10000 35 (.agg (r3 a b c)) (.agg (r3 a b c))).run Try.prog w = .ok true w := by
  have c2 : Try.prog.cellsOf 2 = 1 := by kernel_rfl
  have hc3 : Try.prog.cellsOf 35 = 3 := by kernel_rfl
  obtain ⟨h0, h1, h2⟩ := r3_N ha hb hc
  obtain ⟨l, hl⟩ : ∃ l, Try.prog.keyLits (1 + 1) 35 (r3 a b c).toList = some l := by
    refine kl_fields Try.underlying35 (by rw [hc3]; rfl) (by kernel_rfl) fun f hf => ?_
    simp only [List.mem_cons, List.not_mem_nil, or_false] at hf
    rcases hf with rfl | rfl | rfl
    · exact kl_int Try.underlying2 c2 (by simpa using h0)
    · exact kl_int Try.underlying2 c2 (by simpa using h1)
    · exact kl_int Try.underlying2 c2 (by simpa using h2)
  have hf : (Value.agg (r3 a b c)).formed Try.prog 35 = true := by
    simp [Value.formed, Try.underlying35, hc3, r3_size]
  obtain ⟨r, h1, h2⟩ := run_equalIn_deep (P := Try.prog) 9998 2 35 (by kernel_rfl) w 2 2 (.agg (r3 a b c)) (.agg (r3 a b c)) l l hf hf hl hl
  rw [show (9998 + 2 : Nat) = 10000 from rfl] at h1
  rw [h1, h2.2 rfl]
set_option maxRecDepth 100000 in
set_option maxHeartbeats 1000000 in
theorem known11 (w : World) :
    Calls Try.prog 13 #[] w fun e w' => e = .returned (.bool true) ∧ Below w.heap.size w w' := by
  have H2 := Lib.hid (show ∀ g, (kst 33 g).size = 29 from fun _ => rfl)
  have HR := Lib.hid (show (r3 80 127 13).size = 3 from rfl)
  have HRa := Lib.hid (r3_all 80 127 13)
  have HX := Lib.hid (extract_all (r3_size 80 127 13))
  have HT := Lib.hid (fun w => total_any 80 127 13 w (by unfold F64; omega) (by unfold F64; omega) (by unfold F64; omega))
  have HE := Lib.hid (fun w => show (binOp .eql 35 (.agg (r3 80 127 13)) (.agg (r3 80 127 13))).run Try.prog w = .ok (.bool true) w by rw [run_eql_struct, eq_need (by unfold F64; omega) (by unfold F64; omega) (by unfold F64; omega)]; rfl)
  have HK := Lib.hid k_need
  rw [show tot (80 + 127 + 13) = 220 by decide] at HT
  generalize hR : r3 80 127 13 = R at *
  have HRR := Lib.hid hR
  clear hR
  have he := HE.out
  go_enter Try.func13, Try.ntmps13
  go_wp2_with fail
  refine (small_any w).mono ?_
  rintro e w1 ⟨g, rfl, hgo, hb1⟩
  go_wp2_with (first | ((with_reducible refine at_slice1 22 ?_); refine wpList_slice_stk rfl _ rfl (kst 33 g) rfl (H2.out _) ?_) | (go_at_call 14; (with_reducible refine (need_any (fun _ => kst 33 g) (fun _ => kO) (fun _ => 2) _ 1 1 _ (fun _ => kst_stk g) (fun _ => kO_ord) (k_stks (heap_alloc_new _ _) (heap_up hgo)) (by omega)).mono ?_); rintro e w2 ⟨rfl, hb2⟩; rw [(HK.out g).1, (HK.out g).2]) | ((with_reducible refine at_alloc 35 ?_); refine wpList_alloc_named rfl 35 rfl (r3 0 0 0) (by kernel_rfl) ?_) | ((with_reducible refine at_store 35 ?_); refine wpList_store_over rfl 35 _ _ rfl (w2.heap.size) (R) rfl rfl _ _ (heap_alloc_new _ _) (by rw [HR.out]; kernel_rfl) (by rw [HR.out]; rfl) (HRa.out) ?_; intro w3 hg3 hs3 ho3 hb3) | ((with_reducible refine at_load 35 ?_); refine wpList_load_part rfl 35 _ rfl (w2.heap.size) (0) rfl _ (R) _ _ 3 (hg3) Try.underlying35 rfl (by kernel_rfl) (by rw [HR.out]; omega) (R) (HX.out) ?_) | ((with_reducible refine at_build 35 ?_); refine wpList_build_named rfl 35 _ rfl R (by rw [← HRR.out]; kernel_rfl) ?_) | (go_at_call 16; (with_reducible refine (HT.out _).mono ?_); rintro e w4 ⟨rfl, hb4⟩))
  have hB := below_then (below_alloc hb1 (Obj.cells (kst 33 g) 33)) hb2
  go_ret
  exact ⟨rfl, below_then ((below_alloc hB _).trans (hb3 _ hB.size)) hb4⟩
end Go.Proofs.Ytnpjclodcgejgaa
