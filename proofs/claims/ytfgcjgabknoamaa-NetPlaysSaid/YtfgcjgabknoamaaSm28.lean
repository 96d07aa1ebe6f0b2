/- The statement's 'same': the mails and ages of both nets are the same; what comes out may be written over. Condition: the nets are alike. -/
import Derived.Test.YtfgcjgabknoamaaPn28
import Derived.Test.YtfgcjgabknoamaaSame28
import Derived.Laws.OwnMore
namespace Go.Proofs.Ytfgcjgabknoamaa
set_option linter.unusedVariables false
set_option linter.unusedSimpArgs false
open Go.RowKit

theorem bl_set (X : Nat → Int) (n l : Nat) (y : Int) : (bl X n).set l (.int .u8 y) = bl (fun i => if i = l then y else X i) n := by
  apply List.ext_getElem?
  intro i
  by_cases hi : i < n
  · rw [bl_at _ hi]
    by_cases e : i = l
    · subst e
      rw [List.getElem?_set_self (by rw [bl_len]; exact hi), if_pos rfl]
    · rw [List.getElem?_set_ne (by omega), bl_at _ hi, if_neg e]
  · rw [List.getElem?_eq_none (by rw [List.length_set, bl_len]; omega), List.getElem?_eq_none (by rw [bl_len]; omega)]
/-- bytes of one's own: the block, and what lies there -/
theorem own_u8 {w : World} {b n c l : Nat} {a : Option Addr} {Z : Nat → Int} (h : w.ownsRow b 5 1 (.slice a n c) n (bl Z n)) (hl : l < n) : ∃ g cur, a = some ⟨g, 0, none⟩ ∧ b ≤ g ∧ w.heap[g]? = some (.cells cur 5 (0, 0)) ∧ cur[l]? = some (.int .u8 (Z l)) := by
  obtain ⟨_, ⟨hv, h0⟩ | ⟨g, cap, cur, hv, hb, hg, hn, _, hc, ht⟩⟩ := h
  · omega
  · injection hv with hv
    refine ⟨g, cur, hv, hb, hg, ?_⟩
    rw [← bl_at Z hl, ← ht, List.getElem?_take, if_pos (by omega), Array.getElem?_toList]
theorem q_call_inw {P : Program} {ops : Array Oper} {Q : Act → Prop} {o : Oper} {rest : List Oper} {a : Act} {W : World} (v : Value) (f : FuncId) (args : Array Value) (hw : Region.wanted o (yielded ops a.tmps) = true) (hc : ∀ w, Below W.heap.size W w → Calls P f args w fun e w'' => e = .returned v ∧ Below w.heap.size w w'')
    (he : ∀ w, Below W.heap.size W w → (execOp a.eval o).run P w = .ok (.enter f args) w)
    (h : WQ P ops (fun w' => Below W.heap.size W w') Q rest (a.put o.dst v)) : WQ P ops (fun w' => Below W.heap.size W w') Q (o :: rest) a :=
  q_call v f args hw he (fun w hw => (hc w hw).mono fun _ _ ⟨h1, h2⟩ => ⟨h1, below_then hw h2⟩) h
theorem q_load_fr {P : Program} {ops : Array Oper} {rest : List Oper} {o : Oper} {a : Act} {Q : Act → Prop} {W : World} (hw : Region.wanted o (yielded ops a.tmps) = true) (ty : TypeId) (x : Operand) (ho : o.op = .load ty x)
    (g off : Nat) (hx : a.eval x = .pointer (some ⟨g, off, none⟩)) (t : TypeId) (cs : Array Value) (fr : Nat × Nat) (d : TypeDesc) (n : Nat) (hg : W.heap[g]? = some (.cells cs t fr))
    (hu : P.underlying ty = some d) (hd : (match d with | .struct _ | .array _ _ => true | _ => false) = true) (hi : (P.info? ty).map (·.size) = some n) (hn : off + n ≤ cs.size)
    (B : Array Value) (hB : cs.extract off (off + n) = B)
    (h : WQ P ops (fun w' => Below W.heap.size W w') Q rest (a.put o.dst (.agg B))) : WQ P ops (fun w' => Below W.heap.size W w') Q (o :: rest) a :=
  q_val (.agg B) hw (fun w hC => by
    unfold execOp
    simp only [ho, hx, Instr.loadAt, Instr.sureAddr, Sem.run_bind, Sem.run_pure, Result.andThen_ok, run_loadVar_part w g off t ty cs fr d n (kept hC hg) hu hd hi hn, hB]) h
set_option maxRecDepth 100000 in
set_option maxHeartbeats 4000000 in
theorem same28_all {m : MS} {w : World} {g gw b b' : Nat} (hC : Cn m w g b) (hD : Dn m w gw b') :
    Calls Try.prog 25 #[.pointer (some ⟨g, 0, none⟩), .pointer (some ⟨gw, 0, none⟩)] w fun e w' => e = .returned (.bool true) ∧ Below w.heap.size w w' := by
  obtain ⟨S, hN⟩ := hC
  obtain ⟨SR, v, hR⟩ := hD
  obtain ⟨ra, rc, rfl, hRR, hkr, _⟩ := own_rows (c := 4) (fun i => rfl) hR.own
  have HN := Lib.hid hN
  have HR := Lib.hid hR
  have HRR := Lib.hid hRR
  have hk2 := hN.hk
  have CL := Lib.hid (fun wx (hx : Below w.heap.size w wx) => nlen_any g b _ _ _ _ _ _ _ wx (hN.kept hx))
  have CM := Lib.hid (fun wx (hx : Below w.heap.size w wx) (i : Nat) (hi : i < m.k) => mail_ow g b _ _ _ _ _ _ _ i wx (hN.kept hx) hi)
  have CO := Lib.hid (fun wx (hx : Below w.heap.size w wx) (i : Int) (hi : ¬ (0 ≤ i ∧ i < (m.k : Int))) => mail_out g b _ _ _ _ _ _ _ i wx (hN.kept hx) hi)
  have CA := Lib.hid (fun wx (hx : Below w.heap.size w wx) (i : Nat) (hi : i < m.k) => rage_in (hR.kept hx) hi)
  have hrow := hR.row
  clear hN hR hRR
  generalize hkk : m.k = k at *
  have HKM := Lib.hid hkk
  clear hkk
  have HMS := Lib.hid mz_size
  have HMA := Lib.hid mz_all
  go_enter Try.func25, Try.ntmps25
  go_upto_region 1 with fail
  refine wp_region_below (by kernel_rfl) (by kernel_rfl) ?_
  repeat (first | ((with_reducible apply q_skip); (case hw => rfl); (try simp only [Act.put, List.setIfInBounds_toArray, List.set_cons_zero, List.set_cons_succ])) | ((with_reducible refine at_qcall 11 ?_); refine q_call_inw _ 11 _ (by rfl) (fun wx hx => (CL.out wx hx).mono fun _ _ ⟨h1, h2⟩ => ⟨h1, h2 ▸ Below.refl _ _⟩) (fun wq hbq => by go_simp) ?_; (try simp only [Act.put, List.setIfInBounds_toArray, List.set_cons_zero, List.set_cons_succ])) | ((with_reducible apply q_val); (case hw => rfl); (case hv => intro wq hbq; have hcr := cellF (Ytfgcjgabknoamaa.kept hbq hrow); go_simp; try rfl); (try simp only [Act.put, List.setIfInBounds_toArray, List.set_cons_zero, List.set_cons_succ])))
  refine q_nil ?_
  intro w3 hb3
  have HB3 := Lib.hid hb3
  clear hb3
  go_wp2_with fail
  go_loopg [5] k (fun gh v5 wr => ∃ j : Nat, j ≤ k ∧ gh = k - j ∧ v5 = .int .i64 j ∧ Below w.heap.size w wr)
  case atStart => exact ⟨0, by omega, by omega, rfl, HB3.out⟩
  case round =>
    obtain ⟨j, hj, rfl, rfl, hb⟩ := hrel
    have HB := Lib.hid hb
    have hrw := Ytfgcjgabknoamaa.kept hb hrow
    have crw := cellF hrw
    clear HB3
    by_cases hjk : j < k
    · have hjki : (j : Int) < k := by omega
      have ca := CM.out wr hb j hjk
      obtain ⟨gr, ro, RB, rf, rfl, hgr, hrs, hre⟩ := (rowsT_kept HRR.out hb) j hjk
      have hex : RB.extract (ro + j * 4) (ro + j * 4 + 4) = p4 (m.F j) (m.T j) (SR j) (m.At j) := hre
      have HGR := Lib.hid hgr
      have HRS := Lib.hid hrs
      have HX := Lib.hid (show RB.extract (ro + j * 4) (ro + j * 4 + 3) = m3 (m.F j) (m.T j) (SR j) from by
        have h := congrArg (fun B : Array Value => B.extract 0 3) hex
        simp only [Array.extract_extract] at h
        rw [show min (ro + j * 4 + 3) (ro + j * 4 + 4) = ro + j * 4 + 3 by omega] at h
        exact h)
      have HBR := Lib.hid (HR.out.by_ j hjk)
      clear hre hex hgr hrs hb
      have HAG := Lib.hid (fun wx (hx : Below w.heap.size w wx) => CA.out wx hx j hjk)
      obtain ⟨ag, hag⟩ : ∃ ag, agR m.now m.At j = ag := ⟨_, rfl⟩
      have hag2 : m.now - m.At j = ag := hag
      rw [hag] at ca
      rw [hag2] at HAG
      have hnb := HR.out.lg j hjk
      generalize m.F j = f at *
      generalize m.T j = t at *
      generalize m.Ln j = n at *
      generalize m.X j = Y at *
      clear hag hag2
      go_wp2_with (first | (go_at_call 15; (with_reducible refine (ca).mono ?_); rintro e w4 ⟨vm, rfl, hov, hb4⟩; obtain ⟨sa, sc, rfl⟩ := own_form hov; have hm5 := heap_alloc_new w4 (Obj.cells (m3 f t (.slice sa n sc)) 24)) | ((with_reducible refine at_alloc 24 ?_); refine wpList_alloc_named rfl 24 rfl (mz) (by kernel_rfl) ?_) | ((with_reducible refine at_store 24 ?_); refine wpList_store_new rfl 24 _ _ rfl (m3 f t (.slice sa n sc)) _ _ _ rfl (by simp) rfl (by rw [show (m3 f t (.slice sa n sc)).size = 3 from rfl]; kernel_rfl) (by rw [show (m3 f t (.slice sa n sc)).size = 3 from rfl]; rfl) (m3_all) ?_))
      have hw4 := below_alloc (below_then HB.out hb4) (Obj.cells (m3 f t (.slice sa n sc)) 24)
      obtain ⟨w5, hw5⟩ : ∃ w5, w5 = w4.alloc (Obj.cells (m3 f t (.slice sa n sc)) 24) := ⟨_, rfl⟩
      have hov5 := hov.alloc (Obj.cells (m3 f t (.slice sa n sc)) 24)
      have hRB5 := Ytfgcjgabknoamaa.kept (below_alloc hb4 (Obj.cells (m3 f t (.slice sa n sc)) 24)) HGR.out
      rw [← hw5] at hm5 hw4 hov5 hRB5
      rw [← hw5]
      have hgr5 := Ytfgcjgabknoamaa.kept hw4 hrow
      have hby5 := HBR.out.kept hw4
      have HM3 := Lib.hid (extract_all (show (m3 f t (.slice sa n sc)).size = 3 from rfl))
      have HM4 := Lib.hid (show 0 + 3 ≤ (m3 f t (.slice sa n sc)).size from Nat.le_refl 3)
      obtain ⟨bm, hbm⟩ : ∃ bm, bm = w4.heap.size := ⟨_, rfl⟩
      rw [← hbm] at hm5
      rw [← hbm]
      have hwb : w.heap.size ≤ bm := by rw [hbm]; exact (below_then HB.out hb4).size
      have CS := Lib.hid (fun wx (hx : Below w5.heap.size w5 wx) => same28_yes f t (.slice sa n sc) (SR j) n Y wx ((own_bytes hov5).kept hx) (hby5.kept hx))
      clear hw5 hbm hov hb4 crw hrw
      obtain ⟨M, hM⟩ : ∃ M, M = m3 f t (.slice sa n sc) := ⟨_, rfl⟩
      have HMM := Lib.hid hM
      obtain ⟨MR, hMR⟩ : ∃ MR, MR = m3 f t (SR j) := ⟨_, rfl⟩
      rw [← hM] at hm5 HM3 HM4
      rw [← hM] at CS ⊢
      rw [← hMR] at CS HX
      clear hM hMR
      refine wp_region_below (by kernel_rfl) (by kernel_rfl) ?_
      repeat (first | ((with_reducible apply q_skip); (case hw => rfl); (try simp only [Act.put, List.setIfInBounds_toArray, List.set_cons_zero, List.set_cons_succ])) | ((with_reducible refine at_qcall 32 ?_); refine q_call_inw _ 32 _ (by rfl) (fun wx hx => HAG.out wx (below_then hw4 hx)) (fun wq hbq => by go_simp) ?_; (try simp only [Act.put, List.setIfInBounds_toArray, List.set_cons_zero, List.set_cons_succ])) | ((with_reducible refine at_qcall 19 ?_); refine q_call_inw _ 19 _ (by rfl) (fun wx hx => CS.out wx hx) (fun wq hbq => by go_simp) ?_; (try simp only [Act.put, List.setIfInBounds_toArray, List.set_cons_zero, List.set_cons_succ])) | ((with_reducible refine at_qload 24 ?_); refine q_load_part (by rfl) 24 _ rfl (bm) (0) rfl _ (M) _ 3 (hm5) Try.underlying24 rfl (by kernel_rfl) (HM4.out) (M) (HM3.out) ?_; try simp only [Act.put, List.setIfInBounds_toArray, List.set_cons_zero, List.set_cons_succ]) | ((with_reducible refine at_qload 24 ?_); refine q_load_fr (by rfl) 24 _ rfl (gr) (ro + j * 4) rfl _ (RB) _ _ 3 (hRB5) Try.underlying24 rfl (by kernel_rfl) (by have := HRS.out; omega) (MR) (HX.out) ?_; try simp only [Act.put, List.setIfInBounds_toArray, List.set_cons_zero, List.set_cons_succ]) | ((with_reducible apply q_val); (case hw => rfl); (case hv => intro wq hbq; have hcr := cellF (Ytfgcjgabknoamaa.kept hbq hgr5); go_simp; try rfl); (try simp only [Act.put, List.setIfInBounds_toArray, List.set_cons_zero, List.set_cons_succ])))
      refine q_nil ?_
      intro w6 hb6
      have HB6 := Lib.hid (below_then hw4 hb6)
      have HM6 := Lib.hid (Ytfgcjgabknoamaa.kept hb6 hm5)
      have HO6 := Lib.hid (own_below hb6 hov5)
      have hbo : w.heap.size ≤ wr.heap.size := HB.out.size
      have M2 : M[2]? = some (.slice sa n sc) := by rw [HMM.out]; rfl
      clear hw4 hov5 hgr5 hRB5 hby5 hm5 hb6
      obtain ⟨bx, hbx⟩ : ∃ bx, bx = wr.heap.size := ⟨_, rfl⟩
      rw [← hbx] at HO6 hbo
      clear hbx
      go_wp2_with fail
      go_loopg [9] n (fun gh v9 wx => ∃ (l : Nat) (Z : Nat → Int), l ≤ n ∧ gh = n - l ∧ v9 = .int .i64 l ∧ wx.ownsRow bx 5 1 (.slice sa n sc) n (bl Z n) ∧ wx.heap[bm]? = some (.cells M 24 (0, 0)) ∧ Below w.heap.size w wx)
      case atStart => exact ⟨0, _, by omega, by omega, rfl, HO6.out, HM6.out, HB6.out⟩
      case round =>
        obtain ⟨l, Z, hl, rfl, rfl, ho, hm, hb⟩ := hrel
        clear HO6 HM6 HB6
        have HO := Lib.hid ho
        have HM := Lib.hid hm
        have HBX := Lib.hid hb
        have cm := cellF hm
        clear hm hb
        by_cases hln : l < n
        · have hlni : (l : Int) < n := by omega
          obtain ⟨g9, cur, rfl, hbg, hg9, hcl⟩ := own_u8 ho hln
          have hne : bm ≠ g9 := fun e => by
            subst e
            have h := HM.out
            rw [hg9] at h; injection h with h; injection h with _ h; exact absurd h (by decide)
          have c9 := cellF hg9
          have f9 := (cells_of hg9).2.1
          have HST := Lib.hid (fun y => (ho.stored l (.int .u8 y)).1)
          clear ho hg9
          generalize hzl : Z l = z at *
          go_wp2_with fail
          go_roundg (n - (l + 1))
          case measure => omega
          case rel => exact ⟨l + 1, fun i => if i = l then IntKind.u8.wrap (z + 1) else Z i, by omega, rfl, by go_num, by rw [← bl_set]; exact HST.out _, heap_set_other HM.out hne, below_set HBX.out (by omega)⟩
        · obtain rfl : l = n := by omega
          clear ho
          go_wp2_with fail
          go_roundg (k - (j + 1))
          case measure => omega
          case rel => exact ⟨j + 1, by omega, rfl, by go_num, HBX.out⟩
    · obtain rfl : j = k := by omega
      have hB := HB.out
      clear hb
      have co1 := fun wx hx => CO.out wx hx (j : Int) (by omega)
      have co2 := fun wx hx => CO.out wx hx (-1) (by omega)
      go_wp2_with fail
      refine (co1 _ hB).mono ?_
      rintro e w4 ⟨rfl, hb4⟩
      have hB4 := below_alloc (below_then hB hb4) (Obj.cells mz 24)
      go_wp2_with (first | ((with_reducible refine at_alloc 24 ?_); refine wpList_alloc_named rfl 24 rfl (mz) (by kernel_rfl) ?_) | ((with_reducible refine at_store 24 ?_); refine wpList_store_new rfl 24 _ _ rfl mz _ _ _ rfl (by simp) rfl (by rw [HMS.out]; kernel_rfl) rfl HMA.out ?_))
      refine (co2 _ hB4).mono ?_
      rintro e w5 ⟨rfl, hb5⟩
      have hB5 := below_alloc (below_then hB4 hb5) (Obj.cells mz 24)
      go_wp2_with (first | ((with_reducible refine at_alloc 24 ?_); refine wpList_alloc_named rfl 24 rfl (mz) (by kernel_rfl) ?_) | ((with_reducible refine at_store 24 ?_); refine wpList_store_new rfl 24 _ _ rfl mz _ _ _ rfl (by simp) rfl (by rw [HMS.out]; kernel_rfl) rfl HMA.out ?_))
      go_ret
      exact ⟨rfl, hB5⟩
end Go.Proofs.Ytfgcjgabknoamaa
