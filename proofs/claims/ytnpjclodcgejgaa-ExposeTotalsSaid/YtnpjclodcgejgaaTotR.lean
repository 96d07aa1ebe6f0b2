/- The total of what is needed, as the document says; the statement ExposeTotals returns true. Condition: the numbers fit their kinds. -/
import Derived.Test.YtnpjclodcgejgaaKnown11
import Derived.Test.YtnpjclodcgejgaaAllocR
namespace Go.Proofs.Ytnpjclodcgejgaa
set_option linter.unusedVariables false
set_option linter.unusedSimpArgs false
open Go.RowKit

theorem tot_fit {s : Int} (h1 : -9223372036854775808 ≤ s ∧ s ≤ 9223372036854775807) : tot s = s := by unfold tot; rw [if_neg (by omega), if_neg (by omega)]

theorem ni_of {d : Option Tmp} {x : Operand} {ts : Array TypeId} {ty : TypeId} {pos : String} {af : Array Edge} {gd : Option (Nat × Bool)} : NoInit Try.prog ⟨d, .call { callee := .value (.func 31), args := #[x], argTypes := ts }, ty, pos, af, gd⟩ := fun a w f args w' h => by
  have he : (execOp a.eval (⟨d, .call { callee := .value (.func 31), args := #[x], argTypes := ts }, ty, pos, af, gd⟩ : Oper)).run Try.prog w = .ok (.enter 31 #[a.eval x]) w := by go_simp
  rw [he] at h
  simp only [Result.ok.injEq, Next.enter.injEq] at h
  obtain ⟨⟨h, _⟩, _⟩ := h
  rw [← h]
  have hk : Try.prog.inits.idxOf? 31 = none := by kernel_rfl
  exact hk
theorem ni_plus {d : Option Tmp} {x y : Operand} {ts : Array TypeId} {ty : TypeId} {pos : String} {af : Array Edge} {gd : Option (Nat × Bool)} : NoInit Try.prog ⟨d, .call { callee := .value (.func 32), args := #[x, y], argTypes := ts }, ty, pos, af, gd⟩ := fun a w f args w' h => by
  have he : (execOp a.eval (⟨d, .call { callee := .value (.func 32), args := #[x, y], argTypes := ts }, ty, pos, af, gd⟩ : Oper)).run Try.prog w = .ok (.enter 32 #[a.eval x, a.eval y]) w := by go_simp
  rw [he] at h
  simp only [Result.ok.injEq, Next.enter.injEq] at h
  obtain ⟨⟨h, _⟩, _⟩ := h
  rw [← h]
  have hk : Try.prog.inits.idxOf? 32 = none := by kernel_rfl
  exact hk

set_option maxRecDepth 100000 in
set_option maxHeartbeats 2000000 in
theorem rtotal_any (m v u : Int) (w : World) (hm : F64 m) (hv : F64 v) (hu : F64 u) :
    Calls Try.prog 17 #[.agg (r3 m v u)] w fun e w' => e = .returned (.int .i64 (tot (m + v + u))) ∧ Below w.heap.size w w' := by
  have n0 : (r3 m v u)[0]? = some (.int .i64 m) := rfl
  have n1 : (r3 m v u)[1]? = some (.int .i64 v) := rfl
  have n2 : (r3 m v u)[2]? = some (.int .i64 u) := rfl
  have c1 := fun w => of_any' m w hm
  have c2 := fun w => of_any' v w hv
  have c3 := fun w => of_any' u w hu
  have c4 := fun w => add_any (oS m) (oS v) (oV m) (oV v) w (oV_D m) (oV_D v)
  have hd1 := ps_D (s := oS m) (t := oS v) (oV_D m) (oV_D v)
  obtain ⟨vm, lm⟩ := o_val hm
  obtain ⟨vv, lv_⟩ := o_val hv
  obtain ⟨vu, lu⟩ := o_val hu
  have h12 := P16_12
  obtain ⟨p1, p2⟩ := ps_val (s := oS m) (t := oS v) (oV_D m) (oV_D v) (by omega)
  rw [vm, vv] at p1
  generalize psS (oS m) (oV m) (oS v) (oV v) = S1 at *
  generalize psD (oS m) (oV m) (oS v) (oV v) = D1 at *
  have c5 := fun w => add_any S1 (oS u) D1 (oV u) w hd1 (oV_D u)
  have hd2 := ps_D (s := S1) (t := oS u) hd1 (oV_D u)
  obtain ⟨p3, _⟩ := ps_val (s := S1) (t := oS u) hd1 (oV_D u) (by omega)
  rw [p1, vu] at p3
  generalize psS S1 D1 (oS u) (oV u) = S2 at *
  generalize psD S1 D1 (oS u) (oV u) = D2 at *
  have ci := fun w => int_any S2 D2 w hd2
  rw [p3] at ci
  have HNs := Lib.hid (nm_size (s := S2) hd2.size)
  have HNa := Lib.hid (nm_all (s := S2) hd2)
  have HNe := Lib.hid (extract_all HNs.out)
  have k0 := nm_0 S2 D2
  have hneg : S2 = true → m + v + u ≤ 0 := fun e => by
    have := (lv_bd hd2 12 (by omega)).1
    unfold sv at p3
    rw [if_pos e] at p3
    omega
  have hpos : S2 = false → 0 ≤ m + v + u := fun e => by
    have := (lv_bd hd2 12 (by omega)).1
    unfold sv at p3
    rw [e] at p3
    simp at p3
    omega
  clear hd1 hd2 vm vv vu lm lv_ lu h12 p1 p2 p3
  generalize m + v + u = s at *
  generalize hZ0 : nm false z12 = Z0 at *
  have HZs : Z0.size = 13 := by rw [← hZ0]; exact nm_size z12_D.size
  have HZ0 := Lib.hid hZ0
  generalize nm (oS m) (oV m) = X1 at *
  generalize nm (oS v) (oV v) = X2 at *
  generalize nm (oS u) (oV u) = X3 at *
  generalize nm S1 D1 = X4 at *
  generalize nm S2 D2 = X5 at *
  generalize r3 m v u = R at *
  have hgX := heap_alloc_new w (Obj.cells R 35)
  have hB0 := below_new w (Obj.cells R 35)
  go_enter Try.func17, Try.ntmps17
  go_wp2
  generalize w.alloc (Obj.cells R 35) = W at *
  refine wp_region_alloc 11 67 Z0 3 (by kernel_rfl) (by kernel_rfl) (by kernel_rfl) rfl rfl rfl (by rw [← HZ0.out]; kernel_rfl) (fun g => by kernel_rfl) rfl rfl (by kernel_rfl) (by kernel_rfl) ?_ ?_
  · intro o ho
    simp only [List.take, List.mem_cons, List.not_mem_nil, or_false] at ho
    rcases ho with rfl | rfl | rfl | rfl | rfl | rfl | rfl | rfl | rfl | rfl | rfl
    all_goals first | exact ni_field | exact ni_load | exact ni_of | exact ni_plus
  · intro g C hs hc
    simp only [List.take, List.getD, List.getElem?_cons_succ, List.getElem?_cons_zero, Option.getD, setg, List.cons_append, List.nil_append]
    repeat (first | ((with_reducible apply q_skip); (case hw => rfl); (try simp only [Act.put, List.setIfInBounds_toArray, List.set_cons_zero, List.set_cons_succ])) | ((with_reducible refine at_qcall 31 ?_); refine q_call_st hs _ 31 _ (by rfl) c1 ?he ?_; (case he => (intro wq hbq; go_simp; done)); try simp only [Act.put, List.setIfInBounds_toArray, List.set_cons_zero, List.set_cons_succ]) | ((with_reducible refine at_qcall 31 ?_); refine q_call_st hs _ 31 _ (by rfl) c2 ?he ?_; (case he => (intro wq hbq; go_simp; done)); try simp only [Act.put, List.setIfInBounds_toArray, List.set_cons_zero, List.set_cons_succ]) | ((with_reducible refine at_qcall 31 ?_); refine q_call_st hs _ 31 _ (by rfl) c3 ?he ?_; (case he => (intro wq hbq; go_simp; done)); try simp only [Act.put, List.setIfInBounds_toArray, List.set_cons_zero, List.set_cons_succ]) | ((with_reducible refine at_qcall 32 ?_); refine q_call_st hs _ 32 _ (by rfl) c4 ?he ?_; (case he => (intro wq hbq; go_simp; done)); try simp only [Act.put, List.setIfInBounds_toArray, List.set_cons_zero, List.set_cons_succ]) | ((with_reducible refine at_qcall 32 ?_); refine q_call_st hs _ 32 _ (by rfl) c5 ?he ?_; (case he => (intro wq hbq; go_simp; done)); try simp only [Act.put, List.setIfInBounds_toArray, List.set_cons_zero, List.set_cons_succ]) | ((with_reducible apply q_val); (case hw => rfl); (case hv => intro wq hbq; have hcq := cellF (Ytnpjclodcgejgaa.kept (hc _ hbq) hgX); go_simp; try rfl); (try simp only [Act.put, List.setIfInBounds_toArray, List.set_cons_zero, List.set_cons_succ])))
    refine q_nil ?_
    rintro ⟨hgW, hZ⟩ w2 hC2
    have hB2 := below_then hB0 (hc _ hC2)
    refine op_store_over 67 _ _ rfl g X5 rfl rfl 67 Z0 (hZ _ hC2) (by rw [HNs.out]; kernel_rfl) (by rw [HNs.out]; exact HZs) HNa.out ?_
    intro w3 hg3 hb3
    have hB3 := hB2.trans (hb3 _ (by have := hB0.size; omega))
    obtain ⟨c3g, _, _⟩ := cells_of hg3
    have HGW := Lib.hid hgW
    clear hgW hZ hC2 hB2 hb3 hs hc c1 c2 c3 c4 c5
    by_cases hf : -9223372036854775808 ≤ s ∧ s ≤ 9223372036854775807
    · have hT := tot_fit hf
      obtain ⟨f1, f2, _⟩ := fit_yes hf
      rw [f1, f2] at ci
      have HT := Lib.hid hT
      clear f1 f2 hf hT hneg hpos
      go_wp2_with (first | ((with_reducible refine at_load 67 ?_); refine wpList_load_part rfl 67 _ rfl (g) 0 rfl _ (X5) _ _ 13 (hg3) Try.underlying67 rfl (by kernel_rfl) (by rw [HNs.out]; omega) (X5) (HNe.out) ?_) | (go_at_call 33; (with_reducible refine (ci _).mono ?_); rintro e w4 ⟨rfl, hb4⟩; have hg4 := Ytnpjclodcgejgaa.kept hb4 hg3; obtain ⟨c4g, _, _⟩ := cells_of hg4))
      go_ret
      exact ⟨by rw [HT.out]; rfl, below_then hB3 hb4⟩
    · obtain ⟨f1, f2, _⟩ := fit_no hf
      rw [f1, f2] at ci
      cases S2
      · have HT := Lib.hid (show tot s = 9223372036854775807 by have := hpos rfl; unfold tot; rw [if_pos (by omega)])
        clear f1 f2 hf hneg hpos
        go_wp2_with (first | ((with_reducible refine at_load 67 ?_); refine wpList_load_part rfl 67 _ rfl (g) 0 rfl _ (X5) _ _ 13 (hg3) Try.underlying67 rfl (by kernel_rfl) (by rw [HNs.out]; omega) (X5) (HNe.out) ?_) | (go_at_call 33; (with_reducible refine (ci _).mono ?_); rintro e w4 ⟨rfl, hb4⟩; have hg4 := Ytnpjclodcgejgaa.kept hb4 hg3; obtain ⟨c4g, _, _⟩ := cells_of hg4))
        go_ret
        exact ⟨by rw [HT.out]; rfl, below_then hB3 hb4⟩
      · have HT := Lib.hid (show tot s = -9223372036854775808 by have := hneg rfl; unfold tot; rw [if_neg (by omega), if_pos (by omega)])
        clear f1 f2 hf hneg hpos
        go_wp2_with (first | ((with_reducible refine at_load 67 ?_); refine wpList_load_part rfl 67 _ rfl (g) 0 rfl _ (X5) _ _ 13 (hg3) Try.underlying67 rfl (by kernel_rfl) (by rw [HNs.out]; omega) (X5) (HNe.out) ?_) | (go_at_call 33; (with_reducible refine (ci _).mono ?_); rintro e w4 ⟨rfl, hb4⟩; have hg4 := Ytnpjclodcgejgaa.kept hb4 hg3; obtain ⟨c4g, _, _⟩ := cells_of hg4))
        go_ret
        exact ⟨by rw [HT.out]; rfl, below_then hB3 hb4⟩

set_option maxRecDepth 100000 in
set_option maxHeartbeats 1000000 in
theorem totals_walk (R : Array Value) (W : World) (hR : Rowk [some .i64, some .i64, some .i64] R) :
    Calls Try.prog 4 #[.agg R] W fun e W' => e = .returned (.bool true) ∧ Below W.heap.size W W' := by
  have f0 := (hR.isN (i := 0) rfl).i64
  have f1 := (hR.isN (i := 1) rfl).i64
  have f2 := (hR.isN (i := 2) rfl).i64
  have hsz : R.size = 3 := hR.1
  have hRe : R = r3 (N R 0) (N R 1) (N R 2) := by
    apply Array.ext_getElem?
    intro i
    by_cases hi : i < 3
    · have : i = 0 ∨ i = 1 ∨ i = 2 := by omega
      rcases this with rfl | rfl | rfl
      · rw [f0.1]; rfl
      · rw [f1.1]; rfl
      · rw [f2.1]; rfl
    · rw [Array.getElem?_eq_none_iff.2 (by omega), Array.getElem?_eq_none_iff.2 (by show 3 ≤ i; omega)]
  have c1 := fun w => total_any (N R 0) (N R 1) (N R 2) w f0.2 f1.2 f2.2
  have c2 := fun w => rtotal_any (N R 0) (N R 1) (N R 2) w f0.2 f1.2 f2.2
  rw [← hRe] at c1 c2
  have Hsz := Lib.hid hsz
  have HE := Lib.hid (extract_all hsz)
  clear hRe f0 f1 f2 hR hsz
  generalize tot (N R 0 + N R 1 + N R 2) = t at *
  go_enter Try.func4, Try.ntmps4
  go_wp2
  have hgX := heap_alloc_new W (Obj.cells R 35)
  have hB0 := below_new W (Obj.cells R 35)
  generalize W.alloc (Obj.cells R 35) = W1 at *
  refine wp_region_below (by kernel_rfl) (by kernel_rfl) ?_
  repeat (first | ((with_reducible apply q_skip); (case hw => rfl); (try simp only [Act.put, List.setIfInBounds_toArray, List.set_cons_zero, List.set_cons_succ])) | ((with_reducible refine at_qload 35 ?_); refine q_load_part (by rfl) 35 _ rfl (W.heap.size) 0 rfl _ (R) _ 3 (hgX) Try.underlying35 rfl (by kernel_rfl) (by rw [Hsz.out]; omega) (R) (HE.out) ?_; try simp only [Act.put, List.setIfInBounds_toArray, List.set_cons_zero, List.set_cons_succ]) | ((with_reducible refine at_qcall 16 ?_); refine q_call_below _ 16 _ (by rfl) (c1) (fun wq hbq => by go_simp) ?_; try simp only [Act.put, List.setIfInBounds_toArray, List.set_cons_zero, List.set_cons_succ]) | ((with_reducible refine at_qcall 17 ?_); refine q_call_below _ 17 _ (by rfl) (c2) (fun wq hbq => by go_simp) ?_; try simp only [Act.put, List.setIfInBounds_toArray, List.set_cons_zero, List.set_cons_succ]) | ((with_reducible refine at_qcall 13 ?_); refine q_call_below _ 13 _ (by rfl) ((fun w => known11 w)) (fun wq hbq => by go_simp) ?_; try simp only [Act.put, List.setIfInBounds_toArray, List.set_cons_zero, List.set_cons_succ]) | ((with_reducible apply q_val); (case hw => rfl); (case hv => intro wq hbq; go_simp; try rfl); (try simp only [Act.put, List.setIfInBounds_toArray, List.set_cons_zero, List.set_cons_succ])))
  refine q_nil ?_
  intro w2 hb2
  go_wp2
  go_ret
  exact ⟨rfl, below_then hB0 hb2⟩
end Go.Proofs.Ytnpjclodcgejgaa
