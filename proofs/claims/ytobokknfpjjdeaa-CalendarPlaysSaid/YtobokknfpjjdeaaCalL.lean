/- A contract is listed behind all the others. Condition: the calendar is one. -/
import Derived.Test.YtobokknfpjjdeaaCalG
namespace Go.Proofs.Ytobokknfpjjdeaa
set_option linter.unusedVariables false
set_option linter.unusedSimpArgs false
open Go.RowKit

/-- 'Contract{Spec: s, State: Open, Price: p}' -/
def conA (A : Array Value) (p : Int) : Array Value := A ++ #[.int .u8 1, .int .i64 p]
theorem conA_size {A : Array Value} {p : Int} (h : A.size = 25) : (conA A p).size = 27 := by simp [conA, h]
theorem conA_lt {A : Array Value} {p : Int} {i : Nat} (hi : i < A.size) : (conA A p)[i]? = A[i]? := by unfold conA; rw [Array.getElem?_append_left hi]
theorem conA_ext {A : Array Value} {p : Int} (h : A.size = 25) : (conA A p).extract 0 25 = A := by
  apply Array.ext_getElem?
  intro i
  rw [Array.getElem?_extract]
  by_cases hi : i < 25
  · rw [if_pos (by rw [conA_size h]; omega), Nat.zero_add, conA_lt (by omega)]
  · rw [if_neg (by omega)]; symm; rw [Array.getElem?_eq_none_iff]; omega
theorem conA_25 {A : Array Value} {p : Int} (h : A.size = 25) : (conA A p)[25]? = some (.int .u8 1) := by unfold conA; rw [Array.getElem?_append_right (by omega), h]; rfl
theorem conA_26 {A : Array Value} {p : Int} (h : A.size = 25) : (conA A p)[26]? = some (.int .i64 p) := by unfold conA; rw [Array.getElem?_append_right (by omega), h]; rfl
theorem conA_N {A : Array Value} {p : Int} {i : Nat} (hi : i < A.size) : N (conA A p) i = N A i := by unfold N; rw [conA_lt hi]
theorem conA_con {A : Array Value} {p : Int} (h : IsSpec A) (hp : F64 p) : IsCon (conA A p) :=
  ⟨conA_size h.size, by rw [conA_ext h.size]; exact h, IsN_of (conA_25 h.size) ⟨by decide, by decide⟩, IsN_of (conA_26 h.size) hp⟩
theorem cz27 : cz.size = 27 := by kernel_rfl
set_option maxRecDepth 100000 in
theorem built_con {A : Array Value} {p : Int} (h : A.size = 25) : Try.prog.built 65 [(0, .agg A), (1, .int .u8 1), (2, .int .i64 p)] = some (conA A p) := by
  have hi : (Try.prog.info? 65).map (fun i => i.zero.map (·.cells)) = some (some cz) := by kernel_rfl
  unfold Program.built
  cases hq : Try.prog.info? 65 with
  | none => simp [hq] at hi
  | some it =>
    cases hz : it.zero with
    | none => simp [hq, hz] at hi
    | some z =>
      simp [hq, hz] at hi
      simp only [Try.underlying65, hz]
      rw [show (_ : Array Field).toList.mapM (fun f => (Try.prog.info? f.type).map fun i => (f.offset, i.size)) = some [(0, 25), (25, 1), (26, 1)] from by kernel_rfl]
      show Instr.fill (fun x => [(0, 25), (25, 1), (26, 1)].toArray[x]?) z.cells _ = _
      rw [hi]
      unfold Instr.fill
      show (if (decide (A.size ≠ 25) || decide (0 + A.size > cz.size)) = true then none else _) = _
      rw [if_neg (by rw [h, cz27]; decide)]
      have hf := fold_setg A.toList 0 cz (by rw [Array.length_toList, h, cz27]; decide)
      have e : Array.foldl (fun cs x => cs.setIfInBounds (0 + x.2) x.1) cz A.zipIdx = (A.toList.zipIdx 0).foldl (fun cs x => cs.setIfInBounds (0 + x.2) x.1) cz := by
        rw [← Array.foldl_toList]
        simp
      show Instr.fill _ (Array.foldl (fun cs x => cs.setIfInBounds (0 + x.2) x.1) cz A.zipIdx) _ = _
      rw [e]
      generalize (A.toList.zipIdx 0).foldl (fun cs x => cs.setIfInBounds (0 + x.2) x.1) cz = C at *
      obtain ⟨hs, hg⟩ := hf
      rw [cz27] at hs
      unfold Instr.fill
      show (if (decide ((#[Value.int .u8 1] : Array Value).size ≠ 1) || decide (25 + (#[Value.int .u8 1] : Array Value).size > C.size)) = true then none else _) = _
      rw [if_neg (by rw [hs]; decide)]
      unfold Instr.fill
      show (if (decide ((#[Value.int .i64 p] : Array Value).size ≠ 1) || decide (26 + (#[Value.int .i64 p] : Array Value).size > (C.setIfInBounds 25 (.int .u8 1)).size)) = true then none else _) = _
      rw [if_neg (by simp [hs])]
      unfold Instr.fill
      refine congrArg some (?_ : ((C.setIfInBounds 25 (.int .u8 1)).setIfInBounds 26 (.int .i64 p)) = conA A p)
      apply Array.ext_getElem?
      intro i
      by_cases e26 : i = 26
      · subst e26; rw [Array.getElem?_setIfInBounds_self, if_pos (by simp [hs]), conA_26 h]
      · rw [Array.getElem?_setIfInBounds_ne (Ne.symm e26)]
        by_cases e25 : i = 25
        · subst e25; rw [Array.getElem?_setIfInBounds_self, if_pos (by simp [hs]), conA_25 h]
        · rw [Array.getElem?_setIfInBounds_ne (Ne.symm e25)]
          by_cases hi25 : i < 25
          · rw [hg i, if_pos (by simp [h]; omega), conA_lt (by omega), Nat.sub_zero, Array.getElem?_toList]
          · rw [Array.getElem?_eq_none_iff.2 (by omega), Array.getElem?_eq_none_iff.2 (by rw [conA_size h]; omega)]
theorem info_con : ∃ i z, Try.prog.info? 65 = some i ∧ i.zero = some z ∧ i.size = 27 ∧ i.bytes ≤ 512 ∧ z.cells.size = 27 := by
  have h : (Try.prog.info? 65).map (fun i => (i.size, decide (i.bytes ≤ 512), i.zero.map (·.cells.size))) = some (27, true, some 27) := by kernel_rfl
  cases hi : Try.prog.info? 65 with
  | none => simp [hi] at h
  | some i =>
    simp [hi] at h
    obtain ⟨h1, h2, z, h3, h4⟩ := h
    exact ⟨i, z, rfl, h3, h1, h2, h4⟩
theorem at_append (T : TypeId) {P : Program} {ops : Array Oper} {Q : Exit → Act → World → Prop} {rest : List Oper} {a : Act} {w : World} {d : Option Tmp} {x y : Operand} {ty : TypeId} {pos : String} {af : Array Edge} {gd : Option (Nat × Bool)}
    (h : wpList P ops Q (⟨d, .call { callee := .builtin .append, args := #[x, y], argTypes := #[T, T] }, ty, pos, af, gd⟩ :: rest) a w) : wpList P ops Q (⟨d, .call { callee := .builtin .append, args := #[x, y], argTypes := #[T, T] }, ty, pos, af, gd⟩ :: rest) a w := h
set_option maxRecDepth 100000 in
set_option maxHeartbeats 2000000 in
/-- slices.Insert behind the last -/
theorem ins_end (base k : Nat) (xs : List Value) (v : Value) (gx : Nat) (B : Array Value) (w : World) (ho : w.ownsRow base 65 27 v k xs) (hk : k ≤ 1000) (hB : B.size = 27) (hB1 : B.all (·.oneCell') = true) (hx : w.heap[gx]? = some (.cells B 65 (0, 0))) (hb : base ≤ w.heap.size) :
    Calls Try.prog 60 #[v, .int .i64 k, .slice (some ⟨gx, 0, none⟩) 1 1] w fun e w' => ∃ v', e = .returned v' ∧ w'.ownsRow base 65 27 v' (k + 1) (xs ++ B.toList) ∧ w.grownBy w' v.ownBlock := by
  obtain ⟨i, z, h1, h2, h3, h4, h5⟩ := info_con
  have HO := Lib.hid ho
  have HX := Lib.hid (fun j u (hj : B.toList[j]? = some u) => show w.cell? ((⟨gx, 0, none⟩ : Addr).add j) = some u from by
    have h2 : (⟨gx, 0, none⟩ : Addr).add j = ⟨gx, j, none⟩ := by unfold Addr.add; split <;> simp_all
    rw [h2, cellF hx]
    simpa using hj)
  have HB := Lib.hid (fun u (hu : u ∈ B.toList) => show u.oneCell' = true from by rw [Array.all_eq_true'] at hB1; exact hB1 u (by simpa using hu))
  have HL := Lib.hid (show B.toList.length = 1 * 27 by simp [hB])
  have HBY := Lib.hid (show (k + 1) * i.bytes ≤ 140737488355328 from by have := Nat.mul_le_mul (show k + 1 ≤ 1001 by omega) h4; omega)
  have hm : ((v = .slice none 0 0 ∧ k = 0) ∨ ∃ g rc, v = .slice (some ⟨g, 0, none⟩) k rc ∧ k ≤ rc ∧ rc ≤ 9223372036854775807) := by
    rcases ho.2 with h | ⟨g, cap, cur, hv, _, _, hn, hm, _⟩
    · exact .inl h
    · exact .inr ⟨g, cap, hv, hn, by unfold maxLen at hm; omega⟩
  clear ho hB1 hx
  rcases hm with ⟨rfl, rfl⟩ | ⟨g, rc, rfl, hkr, hrc⟩
  · go_enter Try.func60, Try.ntmps60
    go_wp2_with ((with_reducible refine at_append 62 ?_); refine wpList_append_own w rfl _ _ _ rfl base 65 i z 27 i.bytes Try.underlying62 h1 h2 h3 rfl h5 (by omega) _ _ _ rfl HO.out ⟨gx, 0, none⟩ 1 1 B.toList rfl HL.out HX.out HB.out (by unfold maxLen; omega) HBY.out hb ?_; intro v' w1 ho1 hg1 _)
    go_ret
    exact ⟨_, rfl, ho1, hg1⟩
  · by_cases hck : rc = k
    · subst hck
      go_enter Try.func60, Try.ntmps60
      go_wp2_with ((with_reducible refine at_append 62 ?_); refine wpList_append_own w rfl _ _ _ rfl base 65 i z 27 i.bytes Try.underlying62 h1 h2 h3 rfl h5 (by omega) _ _ _ rfl HO.out ⟨gx, 0, none⟩ 1 1 B.toList rfl HL.out HX.out HB.out (by unfold maxLen; omega) HBY.out hb ?_; intro v' w1 ho1 hg1 _)
      go_ret
      exact ⟨_, rfl, ho1, hg1⟩
    · go_enter Try.func60, Try.ntmps60
      go_wp2_with ((with_reducible refine at_append 62 ?_); refine wpList_append_own w rfl _ _ _ rfl base 65 i z 27 i.bytes Try.underlying62 h1 h2 h3 rfl h5 (by omega) _ _ _ rfl HO.out ⟨gx, 0, none⟩ 1 1 B.toList rfl HL.out HX.out HB.out (by unfold maxLen; omega) HBY.out hb ?_; intro v' w1 ho1 hg1 _)
      go_ret
      exact ⟨_, rfl, ho1, hg1⟩
theorem snoc_con {L : Nat → Array Value} {k : Nat} {B : Array Value} (h : ∀ i, IsCon (L i)) (hB : IsCon B) (i : Nat) : IsCon (snoc L k B i) := by
  unfold snoc; split
  · exact hB
  · exact h i
theorem cal_grown {w w1 w5 : World} {g base k : Nat} {day : Int} {L : Nat → Array Value} {B : Array Value} {v v5 : Value} (hC : CalIs w g base k day L) (hk : k < 16) (hg : w.heap[g]? = some (.cells #[.bool true, .int .u32 day, v] 93 (0, 0)))
    (hB : Below w.heap.size w w1) (hcon : IsCon B) (hnew : ∀ i, i < k → N (L i) 0 < N B 0) (hoq : w1.ownsRow base 65 27 v k (flat L k)) (hg5 : w1.grownBy w5 v.ownBlock) (ho5 : w5.ownsRow base 65 27 v5 (k + 1) (flat L k ++ B.toList)) :
    w5.heap[g]? = some (.cells #[.bool true, .int .u32 day, v] 93 (0, 0)) ∧ CalIs (w5.setCell ⟨g, 2, none⟩ v5) g base (k + 1) day (snoc L k B) ∧ Below base w (w5.setCell ⟨g, 2, none⟩ v5) := by
  have hg1 := Ytobokknfpjjdeaa.kept hB hg
  have hne : some g ≠ v.ownBlock := fun e => by
    obtain ⟨A9, fr9, h9⟩ := own_tag hoq g e.symm
    rw [hg1] at h9; injection h9 with h9; injection h9 with _ h9; exact absurd h9 (by decide)
  have hgw : g < w.heap.size := (Array.getElem?_eq_some_iff.1 hg).1
  have hgq5 := (hg5.block g (by have := hB.size; omega) hne).trans hg1
  have hbg := hC.bg
  refine ⟨hgq5, ⟨⟨v5, heap_set (i := 2) (v := v5) hgq5, ?_⟩, snoc_con hC.con hcon, fun a c hac hc => ?_, hbg, by omega, hC.hd⟩, ?_⟩
  · rw [flat_snoc]
    refine ownsRow_setCell_other ho5 (fun e => ?_) _
    obtain ⟨A, fr, h⟩ := own_tag ho5 _ e
    rw [show w5.heap[(⟨g, 2, none⟩ : Addr).block]? = w5.heap[g]? from rfl, hgq5] at h
    injection h with h; injection h with _ h; exact absurd h (by decide)
  · rw [snoc_lt L k B a (by omega)]
    by_cases e : c = k
    · subst e; rw [snoc_at]; exact hnew a hac
    · rw [snoc_lt L k B c (by omega)]; exact hC.srt a c hac (by omega)
  · exact below_set (((hB.mono (by omega)).grown hg5 (by have := hB.size; omega) (fun j e => (hoq.lt j e).1))) hbg
set_option maxRecDepth 100000 in
set_option maxHeartbeats 2000000 in
theorem clist_end {w : World} {g base k : Nat} {day : Int} {L : Nat → Array Value} {A : Array Value} (h : CalIs w g base k day L) (hA : IsSpec A) (hm : mayB A = true) (hnew : ∀ i, i < k → N (L i) 0 < N A 0) (hd : day ≤ N A 23) (hk : k < 16) :
    Calls Try.prog 25 #[.pointer (some ⟨g, 0, none⟩), .agg A] w fun e w' => e = .returned (.int .i64 0) ∧ CalIs w' g base (k + 1) day (snoc L k (conA A (N A 24))) ∧ Below base w w' := by
  have hb0 := below_new w (Obj.cells A 61)
  have h1 := h.kept hb0
  have hgp := heap_alloc_new w (Obj.cells A 61)
  have cr := Lib.hid (cready_yes h1)
  have cm := Lib.hid (fun w1 => may_any A w1 hA)
  rw [hm] at cm
  have HH := Lib.hid (fun w1 (hh : CalIs w1 g base k day L) => (cat_out (n := N A 0) hh (fun i hi => by have := hnew i hi; omega)).mono (R' := fun e w' => e = .returned (.tuple #[.int .i64 k, .bool false]) ∧ Below w1.heap.size w1 w') (fun e w' ⟨j, hj, he, hb⟩ => by
    obtain ⟨a1, a2, a3⟩ := hj
    have : j = k := by
      by_cases hjk : j < k
      · have := a3 j (Nat.le_refl _) hjk; have := hnew j hjk; omega
      · omega
    subst this
    exact ⟨he, hb⟩))
  have HC := Lib.hid h
  obtain ⟨v, hg, hrow⟩ := h.row
  obtain ⟨ra, rc, rfl, _⟩ := own_rows (c := 27) (fun i => (h.con i).size) hrow
  have HG := Lib.hid hg
  have HROW := Lib.hid hrow
  have hbg := h.bg
  have hgw : g < w.heap.size := (Array.getElem?_eq_some_iff.1 hg).1
  have H1 := Lib.hid h1
  have HB := Lib.hid (conA_con (p := N A 24) hA hA.c24.2)
  have HNEW := Lib.hid (show ∀ i, i < k → N (L i) 0 < N (conA A (N A 24)) 0 from fun i hi => by rw [conA_N (by rw [hA.size]; omega)]; exact hnew i hi)
  have h0 := hA.c0.u32.1
  have h23 := hA.c23.u32.1
  have h24 := hA.c24.i64.1
  have HSZ := Lib.hid hA.size
  have HEX := Lib.hid (extract_all hA.size)
  have hnd : ¬ N A 23 < day := by omega
  have HBU := Lib.hid (built_con (p := N A 24) hA.size)
  clear h h1 hA hm hnew hrow
  go_enter Try.func25, Try.ntmps25
  go_wp2_with (first | (go_at_call 57; (with_reducible refine (cr.out).mono ?_); rintro e w1 ⟨rfl, rfl⟩) | ((with_reducible refine at_load 61 ?_); refine wpList_load_part rfl 61 _ rfl (w.heap.size) (0) rfl _ (A) _ _ 25 (hgp) Try.underlying61 rfl (by kernel_rfl) (by rw [HSZ.out]; omega) (A) (HEX.out) ?_) | (go_at_call 58; (with_reducible refine (cm.out _).mono ?_); rintro e w1 ⟨rfl, hb1⟩; have cp1 := cellF (Ytobokknfpjjdeaa.kept hb1 hgp)) | (go_at_call 59; (with_reducible refine (HH.out _ (H1.out.kept hb1)).mono ?_); rintro e w2 ⟨rfl, hb2⟩; have hb12 := below_then hb1 hb2; have cp2 := cellF (Ytobokknfpjjdeaa.kept hb12 hgp); have cg2 := cellF (Ytobokknfpjjdeaa.kept hb12 (heap_up hg))))
  go_quiet (fail)
  go_wp2_with fail
  refine wp_region_held (S := fun wt => wt.heap[w.heap.size]? = some (.cells A 61 (0, 0))) (by kernel_rfl) ?_
  change wpAnyH _ _ _ _ _ _ _ _ (World.drew _)
  have hbq0 : Below w.heap.size w ((w2.drewN nq).drew) := Below.drew (below_drawn (below_then hb0 hb12))
  obtain ⟨wq, hwq⟩ : ∃ wq, wq = (w2.drewN nq).drew := ⟨_, rfl⟩
  have hBq : Below w.heap.size w wq := by rw [hwq]; exact hbq0
  have hgpq : wq.heap[w.heap.size]? = some (.cells A 61 (0, 0)) := by rw [hwq]; exact Ytobokknfpjjdeaa.kept hb12 hgp
  rw [← hwq]
  have hoq := own_below hBq HROW.out
  have hgq := Ytobokknfpjjdeaa.kept hBq HG.out
  have HS : wq.heap[w.heap.size]? = some (.cells A 61 (0, 0)) := hgpq
  clear hbq0 hwq hb12 cp2 cg2 hb1 hb2 cp1 hgp hg hb0 cr cm HH H1
  (refine wpAnyH_take (i := 0) (v := ?_) rfl (by kernel_rfl) (by kernel_rfl) (by kernel_rfl) (fun _ _ _ h => h) (Or.inl ⟨by rfl, ?ht_0⟩) HS ?_); (case ht_0 => (intro wt hS; go_simp; try with_reducible rfl)); (try simp only [Act.put, List.getElem_toArray, List.getElem_cons_zero, List.getElem_cons_succ, List.setIfInBounds_toArray, List.set_cons_zero, List.set_cons_succ]); (refine wpAnyH_take (i := 1) (v := ?_) rfl (by kernel_rfl) (by kernel_rfl) (by kernel_rfl) (fun _ _ _ h => h) (Or.inl ⟨by rfl, ?ht_1⟩) HS ?_); (case ht_1 => (intro wt hS; go_simp; try with_reducible rfl)); (try simp only [Act.put, List.getElem_toArray, List.getElem_cons_zero, List.getElem_cons_succ, List.setIfInBounds_toArray, List.set_cons_zero, List.set_cons_succ]); (refine wpAnyH_take (i := 2) (v := ?_) rfl (by kernel_rfl) (by kernel_rfl) (by kernel_rfl) (fun _ _ _ h => h) (Or.inl ⟨by rfl, ?ht_2⟩) HS ?_); (case ht_2 => (intro wt hS; go_simp; try with_reducible rfl)); (try simp only [Act.put, List.getElem_toArray, List.getElem_cons_zero, List.getElem_cons_succ, List.setIfInBounds_toArray, List.set_cons_zero, List.set_cons_succ]); (refine wpAnyH_take (i := 3) (v := ?_) rfl (by kernel_rfl) (by kernel_rfl) (by kernel_rfl) (fun _ _ _ h => h) (Or.inl ⟨by rfl, ?ht_3⟩) HS ?_); (case ht_3 => (intro wt hS; go_simp; try with_reducible rfl)); (try simp only [Act.put, List.getElem_toArray, List.getElem_cons_zero, List.getElem_cons_succ, List.setIfInBounds_toArray, List.set_cons_zero, List.set_cons_succ]); (refine wpAnyH_take (i := 5) (v := ?_) rfl (by kernel_rfl) (by kernel_rfl) (by kernel_rfl) (fun _ _ _ h => h) (Or.inl ⟨by rfl, ?ht_5⟩) HS ?_); (case ht_5 => (intro wt hS; go_simp; try with_reducible rfl)); (try simp only [Act.put, List.getElem_toArray, List.getElem_cons_zero, List.getElem_cons_succ, List.setIfInBounds_toArray, List.set_cons_zero, List.set_cons_succ])
  (refine wpAnyH_take (i := 6) (v := .agg A) rfl (by kernel_rfl) (by kernel_rfl) (by kernel_rfl) (fun _ _ _ h => h) (Or.inl ⟨by rfl, ?ht_6⟩) HS ?_); (case ht_6 => (intro wt hS; exact exec_load_part 61 _ rfl w.heap.size 0 (by rfl) _ A _ _ 25 hS Try.underlying61 rfl (by kernel_rfl) (by rw [HSZ.out]; omega) A HEX.out)); (try simp only [Act.put, List.getElem_toArray, List.getElem_cons_zero, List.getElem_cons_succ, List.setIfInBounds_toArray, List.set_cons_zero, List.set_cons_succ])
  (refine wpAnyH_take (i := 7) (v := ?_) rfl (by kernel_rfl) (by kernel_rfl) (by kernel_rfl) (fun _ _ _ h => h) (Or.inl ⟨by rfl, ?ht_7⟩) HS ?_); (case ht_7 => (intro wt hS; go_simp; try with_reducible rfl)); (try simp only [Act.put, List.getElem_toArray, List.getElem_cons_zero, List.getElem_cons_succ, List.setIfInBounds_toArray, List.set_cons_zero, List.set_cons_succ])
  (refine wpAnyH_take (i := 8) (v := ?_) rfl (by kernel_rfl) (by kernel_rfl) (by kernel_rfl) (fun _ _ _ h => h) (Or.inl ⟨by rfl, ?ht_8⟩) HS ?_); (case ht_8 => (intro wt hS; have cg := cellF hS; go_simp; try with_reducible rfl)); (try simp only [Act.put, List.getElem_toArray, List.getElem_cons_zero, List.getElem_cons_succ, List.setIfInBounds_toArray, List.set_cons_zero, List.set_cons_succ])
  (refine wpAnyH_take (i := 9) (v := .agg (conA A (N A 24))) rfl (by kernel_rfl) (by kernel_rfl) (by kernel_rfl) (fun _ _ _ h => h) (Or.inl ⟨by rfl, ?ht_9⟩) HS ?_); (case ht_9 => (intro wt hS; exact exec_build 65 _ rfl _ (by have hbu := HBU.out; simpa [Act.eval] using hbu))); (try simp only [Act.put, List.getElem_toArray, List.getElem_cons_zero, List.getElem_cons_succ, List.setIfInBounds_toArray, List.set_cons_zero, List.set_cons_succ])
  refine wpAnyH_ready (rs := [4, 10]) (by kernel_rfl) (by decide) ?_
  obtain ⟨ip, zp, ip1, ip2, ip3, ip4, ip5⟩ := info_con
  refine AllReadyH.cons rfl (fun K' hK => ?_) (AllReadyH.cons rfl (fun K' hK => ?_) AllReadyH.nil)
  · have cgA := cellF hgq
    go_simp
    refine hK.out _ _ HS (fun HS => ?_)
    clear hK K' cgA
    (try simp only [Act.put, List.getElem_toArray, List.getElem_cons_zero, List.getElem_cons_succ, List.setIfInBounds_toArray, List.set_cons_zero, List.set_cons_succ])
    (refine wpAnyH_ready (rs := [10]) (by kernel_rfl) (by decide) ?_); (refine AllReadyH.cons rfl (fun K' hK => ?_) AllReadyH.nil); (rw [if_pos (by rfl)])
    refine op_slice1 62 65 _ rfl (conA A (N A 24)) 27 rfl HB.out.size ip zp Try.underlying62 ip1 ip2 ip3 ip5 (by omega) (by omega) (hK.out _ _ (heap_up HS) (fun HS => ?_))
    clear hK K'
    (try simp only [Act.put, List.getElem_toArray, List.getElem_cons_zero, List.getElem_cons_succ, List.setIfInBounds_toArray, List.set_cons_zero, List.set_cons_succ])
    obtain ⟨gs, hgs0⟩ : ∃ gs, gs = wq.heap.size := ⟨_, rfl⟩
    have hgs : (wq.alloc (Obj.cells (conA A (N A 24)) 65)).heap[gs]? = some (.cells (conA A (N A 24)) 65 (0, 0)) := by rw [hgs0]; exact heap_alloc_new _ _
    rw [← hgs0]
    clear hgs0
    (refine wpAnyH_ready (rs := [11]) (by kernel_rfl) (by decide) ?_); (refine AllReadyH.cons rfl (fun K' hK => ?_) AllReadyH.nil); (rw [if_pos (by rfl)])
    refine op_call 60 #[.slice ra k rc, .int .i64 k, .slice (some ⟨gs, 0, none⟩) 1 1] (by go_simp) (fun v' w1 => w1.ownsRow base 65 27 v' (k + 1) (flat L k ++ (conA A (N A 24)).toList) ∧ (wq.alloc (Obj.cells (conA A (N A 24)) 65)).grownBy w1 (Value.slice ra k rc).ownBlock) ((ins_end base k (flat L k) (.slice ra k rc) gs (conA A (N A 24)) _ (hoq.alloc _) (by omega) HB.out.size HB.out.all hgs (by have := hBq.size; simp; omega)).mono (fun e w1 h => by obtain ⟨v', h1, h2, h3⟩ := h; exact ⟨v', h1, h2, h3⟩)) ?_
    rintro v5 w5 ⟨ho5, hg5⟩
    have hfin := cal_grown HC.out hk HG.out (below_then hBq (below_new wq _)) HB.out HNEW.out (hoq.alloc (Obj.cells (conA A (N A 24)) 65)) hg5 ho5
    have HGP := (hg5.block w.heap.size (by have := (Array.getElem?_eq_some_iff.1 hgpq).1; simp; omega) (fun e => by
      obtain ⟨A9, fr9, h9⟩ := own_tag (hoq.alloc (Obj.cells (conA A (N A 24)) 65)) _ e.symm
      rw [heap_up hgpq] at h9; injection h9 with h9; injection h9 with _ h9; exact absurd h9 (by decide))).trans (heap_up hgpq)
    refine hK.out _ _ HGP (fun HS => ?_)
    clear hK K' HGP
    (try simp only [Act.put, List.getElem_toArray, List.getElem_cons_zero, List.getElem_cons_succ, List.setIfInBounds_toArray, List.set_cons_zero, List.set_cons_succ])
    (refine wpAnyH_take (i := 12) (v := ?_) rfl (by kernel_rfl) (by kernel_rfl) (by kernel_rfl) (fun _ _ _ h => h) (Or.inl ⟨by rfl, ?ht_12⟩) HS ?_); (case ht_12 => (intro wt hS; go_simp; try with_reducible rfl)); (try simp only [Act.put, List.getElem_toArray, List.getElem_cons_zero, List.getElem_cons_succ, List.setIfInBounds_toArray, List.set_cons_zero, List.set_cons_succ]); (refine wpAnyH_take (i := 13) (v := ?_) rfl (by kernel_rfl) (by kernel_rfl) (by kernel_rfl) (fun _ _ _ h => h) (Or.inl ⟨by rfl, ?ht_13⟩) HS ?_); (case ht_13 => (intro wt hS; go_simp; try with_reducible rfl)); (try simp only [Act.put, List.getElem_toArray, List.getElem_cons_zero, List.getElem_cons_succ, List.setIfInBounds_toArray, List.set_cons_zero, List.set_cons_succ])
    obtain ⟨ra5, rc5, rfl, _⟩ := own_rows (c := 27) (L := snoc L k (conA A (N A 24))) (fun i => (snoc_con HC.out.con HB.out i).size) (by rw [flat_snoc]; exact ho5)
    have c5 := cellF hfin.1
    have f5 := (cells_of hfin.1).2.1
    (refine wpAnyH_ready (rs := [14]) (by kernel_rfl) (by decide) ?_); (refine AllReadyH.cons rfl (fun K' hK => ?_) AllReadyH.nil); (rw [if_pos (by rfl)])
    go_simp
    refine hK.out _ _ (heap_set_other HS (fun e => by have := (Array.getElem?_eq_some_iff.1 HG.out).1; omega)) (fun HS => ?_)
    clear hK K' c5 f5
    (try simp only [Act.put, List.getElem_toArray, List.getElem_cons_zero, List.getElem_cons_succ, List.setIfInBounds_toArray, List.set_cons_zero, List.set_cons_succ])
    refine wpAnyH_done (by kernel_rfl) ?_ _
    go_wp2
    go_ret
    exact ⟨rfl, hfin.2⟩
  · rw [if_pos (by rfl)]
    refine op_slice1 62 65 _ rfl (conA A (N A 24)) 27 rfl HB.out.size ip zp Try.underlying62 ip1 ip2 ip3 ip5 (by omega) (by omega) (hK.out _ _ (heap_up HS) (fun HS => ?_))
    clear hK K'
    (try simp only [Act.put, List.getElem_toArray, List.getElem_cons_zero, List.getElem_cons_succ, List.setIfInBounds_toArray, List.set_cons_zero, List.set_cons_succ])
    have cgA := cellF (heap_up (o := Obj.cells (conA A (N A 24)) 65) hgq)
    (refine wpAnyH_ready (rs := [4]) (by kernel_rfl) (by decide) ?_); (refine AllReadyH.cons rfl (fun K' hK => ?_) AllReadyH.nil); (rw [if_pos (by rfl)])
    go_simp
    refine hK.out _ _ HS (fun HS => ?_)
    clear hK K' cgA
    (try simp only [Act.put, List.getElem_toArray, List.getElem_cons_zero, List.getElem_cons_succ, List.setIfInBounds_toArray, List.set_cons_zero, List.set_cons_succ])
    obtain ⟨gs, hgs0⟩ : ∃ gs, gs = wq.heap.size := ⟨_, rfl⟩
    have hgs : (wq.alloc (Obj.cells (conA A (N A 24)) 65)).heap[gs]? = some (.cells (conA A (N A 24)) 65 (0, 0)) := by rw [hgs0]; exact heap_alloc_new _ _
    rw [← hgs0]
    clear hgs0
    (refine wpAnyH_ready (rs := [11]) (by kernel_rfl) (by decide) ?_); (refine AllReadyH.cons rfl (fun K' hK => ?_) AllReadyH.nil); (rw [if_pos (by rfl)])
    refine op_call 60 #[.slice ra k rc, .int .i64 k, .slice (some ⟨gs, 0, none⟩) 1 1] (by go_simp) (fun v' w1 => w1.ownsRow base 65 27 v' (k + 1) (flat L k ++ (conA A (N A 24)).toList) ∧ (wq.alloc (Obj.cells (conA A (N A 24)) 65)).grownBy w1 (Value.slice ra k rc).ownBlock) ((ins_end base k (flat L k) (.slice ra k rc) gs (conA A (N A 24)) _ (hoq.alloc _) (by omega) HB.out.size HB.out.all hgs (by have := hBq.size; simp; omega)).mono (fun e w1 h => by obtain ⟨v', h1, h2, h3⟩ := h; exact ⟨v', h1, h2, h3⟩)) ?_
    rintro v5 w5 ⟨ho5, hg5⟩
    have hfin := cal_grown HC.out hk HG.out (below_then hBq (below_new wq _)) HB.out HNEW.out (hoq.alloc (Obj.cells (conA A (N A 24)) 65)) hg5 ho5
    have HGP := (hg5.block w.heap.size (by have := (Array.getElem?_eq_some_iff.1 hgpq).1; simp; omega) (fun e => by
      obtain ⟨A9, fr9, h9⟩ := own_tag (hoq.alloc (Obj.cells (conA A (N A 24)) 65)) _ e.symm
      rw [heap_up hgpq] at h9; injection h9 with h9; injection h9 with _ h9; exact absurd h9 (by decide))).trans (heap_up hgpq)
    refine hK.out _ _ HGP (fun HS => ?_)
    clear hK K' HGP
    (try simp only [Act.put, List.getElem_toArray, List.getElem_cons_zero, List.getElem_cons_succ, List.setIfInBounds_toArray, List.set_cons_zero, List.set_cons_succ])
    (refine wpAnyH_take (i := 12) (v := ?_) rfl (by kernel_rfl) (by kernel_rfl) (by kernel_rfl) (fun _ _ _ h => h) (Or.inl ⟨by rfl, ?ht_12⟩) HS ?_); (case ht_12 => (intro wt hS; go_simp; try with_reducible rfl)); (try simp only [Act.put, List.getElem_toArray, List.getElem_cons_zero, List.getElem_cons_succ, List.setIfInBounds_toArray, List.set_cons_zero, List.set_cons_succ]); (refine wpAnyH_take (i := 13) (v := ?_) rfl (by kernel_rfl) (by kernel_rfl) (by kernel_rfl) (fun _ _ _ h => h) (Or.inl ⟨by rfl, ?ht_13⟩) HS ?_); (case ht_13 => (intro wt hS; go_simp; try with_reducible rfl)); (try simp only [Act.put, List.getElem_toArray, List.getElem_cons_zero, List.getElem_cons_succ, List.setIfInBounds_toArray, List.set_cons_zero, List.set_cons_succ])
    obtain ⟨ra5, rc5, rfl, _⟩ := own_rows (c := 27) (L := snoc L k (conA A (N A 24))) (fun i => (snoc_con HC.out.con HB.out i).size) (by rw [flat_snoc]; exact ho5)
    have c5 := cellF hfin.1
    have f5 := (cells_of hfin.1).2.1
    (refine wpAnyH_ready (rs := [14]) (by kernel_rfl) (by decide) ?_); (refine AllReadyH.cons rfl (fun K' hK => ?_) AllReadyH.nil); (rw [if_pos (by rfl)])
    go_simp
    refine hK.out _ _ (heap_set_other HS (fun e => by have := (Array.getElem?_eq_some_iff.1 HG.out).1; omega)) (fun HS => ?_)
    clear hK K' c5 f5
    (try simp only [Act.put, List.getElem_toArray, List.getElem_cons_zero, List.getElem_cons_succ, List.setIfInBounds_toArray, List.set_cons_zero, List.set_cons_succ])
    refine wpAnyH_done (by kernel_rfl) ?_ _
    go_wp2
    go_ret
    exact ⟨rfl, hfin.2⟩
end Go.Proofs.Ytobokknfpjjdeaa
