/- BookNow, walked: it returns true. Condition: the numbers fit their kinds. -/
import Derived.Test.YtmjfbilhalkegaaNowP07M
import Derived.Test.YtmjfbilhalkegaaMgUncLaw0717
namespace Go.Proofs.Ytmjfbilhalkegaa
set_option linter.unusedVariables false
set_option linter.unusedSimpArgs false
open Go.RowKit Go.Deep

theorem oa_all (o : Od) : (oa o).all (·.oneCell') = true := all_one fun i v hv => by
  have hi : i < 5 := (Array.getElem?_eq_some_iff.1 hv).1
  have : i = 0 ∨ i = 1 ∨ i = 2 ∨ i = 3 ∨ i = 4 := by omega
  rcases this with rfl | rfl | rfl | rfl | rfl <;> (cases hv; rfl)
set_option maxRecDepth 100000 in
set_option maxHeartbeats 8000000 in
theorem now07_walk (a : Option Addr) (n cap : Nat) (L : Nat → Array Value) (A : Array Value) (w : World) (hL : ∀ i, IsOp (L i)) (hR : RowsC w 7 a n L) (hn : n ≤ cap) (hc : cap ≤ 9223372036854775807) (hA : IsOrd A) :
    Calls Try.prog 6 #[.slice a n cap, .agg A] w fun e w' => e = .returned (.bool true) ∧ Below w.heap.size w w' := by
  have hpe : ∀ (w : World) (g : Nat), (binOp .eql 23 (.pointer (some ⟨g, 0, none⟩)) (.pointer none)).run Try.prog w = .ok (.bool false) w := fun _ _ => by kernel_rfl
  have hpn : ∀ (w : World) (g : Nat), (binOp .neq 23 (.pointer (some ⟨g, 0, none⟩)) (.pointer none)).run Try.prog w = .ok (.bool true) w := fun _ _ => by kernel_rfl
  have HL := Lib.hid hL
  have HR := Lib.hid hR
  have hAo : oa (ox A) = A := oa_ox hA
  have hOk : OkO (ox A) := ox_ok hA
  obtain ⟨o, ho⟩ : ∃ o, o = ox A := ⟨_, rfl⟩
  rw [← ho] at hAo hOk
  subst hAo
  have HOO := Lib.hid hOk
  clear ho hA hL hR hOk
  have hob := below_new w (Obj.cells (oa o) 30)
  have hox := heap_alloc_new w (Obj.cells (oa o) 30)
  have hobs : (w.alloc (Obj.cells (oa o) 30)).heap.size = w.heap.size + 1 := by simp
  by_cases hlen : 100 < n
  · have hlen2 : (100 : Int) < (n : Int) := by omega
    go_enter Try.func6, Try.ntmps6
    go_wp2_with (first | (go_at_call 9; (with_reducible refine (bnew_any (w.alloc (Obj.cells (oa o) 30))).mono ?_); rintro e w1 ⟨g, gb, gs, rfl, hB, hb⟩; have HB := Lib.hid hb; clear hB hb) | (go_at_call 9; (with_reducible refine (bnew_any w1).mono ?_); rintro e w2 ⟨g2, gb2, gs2, rfl, hB, hb⟩; have HB2 := Lib.hid hb; clear hB hb) | (go_at_call 10; (with_reducible refine (known07 _).mono ?_); rintro e w5 ⟨rfl, hb5⟩))
    go_ret
    exact ⟨rfl, below_then (below_then (below_then hob HB.out) HB2.out) hb5⟩
  · have hlen2 : ¬ (100 : Int) < (n : Int) := by omega
    have hn150 : (n : Int) ≤ 100 := by omega
    go_enter Try.func6, Try.ntmps6
    go_wp2_with (first | (go_at_call 9; (with_reducible refine (bnew_any (w.alloc (Obj.cells (oa o) 30))).mono ?_); rintro e w1 ⟨g, gb, gs, rfl, hB, hb⟩; have HB1 := Lib.hid (And.intro hB hb); clear hB hb) | (go_at_call 9; (with_reducible refine (bnew_any w1).mono ?_); rintro e w2 ⟨g2, gb2, gs2, rfl, hB, hb⟩; have HPR0 := Lib.hid (pair_new HB1.out.1 hb hB (Nat.le_refl _)); have HB2 := Lib.hid (below_then HB1.out.2 hb); have hb1s := HB1.out.2.size; clear hB hb HB1))
    obtain ⟨wb, hwb⟩ : ∃ wb, wb = w.alloc (Obj.cells (oa o) 30) := ⟨_, rfl⟩
    rw [← hwb] at hob hox hobs HPR0 HB2 hb1s
    clear hwb
    have HBO := Lib.hid hob
    have HOX := Lib.hid hox
    clear hob hox
    go_loopg [38] n (fun gh vi wx => ∃ (i : Nat) (lb ls : List Od), i ≤ n ∧ gh = n - i ∧ vi = .int .i64 i ∧ Pair wx g gb gs wb.heap.size lb ls g2 gb2 gs2 w1.heap.size lb ls ∧ BiX true lb ls ∧ Below wb.heap.size wb wx)
    case atStart => exact ⟨0, [], [], by omega, by omega, rfl, HPR0.out, bi_new, HB2.out⟩
    case round =>
      clear HPR0 HB2
      obtain ⟨i, lb, ls, hi, rfl, rfl, hbk, hbi, hb⟩ := hrel
      have HK := Lib.hid hbk
      have HI := Lib.hid hbi
      have HB := Lib.hid hb
      clear hbk hbi hb
      by_cases hi : i < n
      · have hii : (i : Int) < (n : Int) := by omega
        obtain ⟨g9, off2, C9, t2, fr2, rfl, hg2, hn2, hx2⟩ := (HR.out.kept (below_then HBO.out HB.out)) i hi
        have hgl := HBO.out.size
        have HP := Lib.hid (play_any (L i) (HL.out i) HK.out.a HI.out)
        have HG9 := Lib.hid (fun (W9 : World) (h9 : Below wb.heap.size wb W9) => (HR.out.kept (below_then HBO.out h9)) i hi)
        go_wp2_with (first | ((with_reducible refine at_load 33 ?_); refine wpList_load_part rfl 33 _ rfl (g9) (off2 + i * 7) rfl _ (C9) _ _ 7 (hg2) Try.underlying33 rfl (by kernel_rfl) (hn2) (L i) (hx2) ?_) | (go_at_call 11; (with_reducible refine (HP.out).mono ?_); rintro e w3 ⟨⟨v3, rfl⟩, hs3⟩; have HK3 := Lib.hid (HK.out.one hs3); have HB3 := Lib.hid (HB.out.trans hs3.be); have HP3 := Lib.hid (play_any (L i) (HL.out i) HK3.out.b HI.out); obtain ⟨g8, off8, C8, t8, fr8, e8, hg8, hn8, hx8⟩ := HG9.out w3 HB3.out; injection e8 with e8; injection e8 with e8 e8b; subst e8 e8b; clear hs3 hg2 hn2 hx2) | ((with_reducible refine at_load 33 ?_); refine wpList_load_part rfl 33 _ rfl (g9) (off2 + i * 7) rfl _ (C8) _ _ 7 (hg8) Try.underlying33 rfl (by kernel_rfl) (hn8) (L i) (hx8) ?_) | (go_at_call 11; (with_reducible refine (HP3.out).mono ?_); rintro e w4 ⟨⟨v4, rfl⟩, hs4⟩; have HK4 := Lib.hid (HK3.out.two hs4); have HB4 := Lib.hid (HB3.out.trans (hs4.be.mono (by omega))); clear hs4))
        go_roundg (n - (i + 1))
        case measure => omega
        case rel => exact ⟨i + 1, _, _, by omega, rfl, by go_num, HK4.out, bi_ply HI.out, HB4.out⟩
      · obtain rfl : i = n := by omega
        have hxx := Ytmjfbilhalkegaa.kept HB.out HOX.out
        have hwr : wb.heap.size ≤ wr.heap.size := HB.out.size
        have HEX := Lib.hid (extract_all (show (oa o).size = 5 from rfl))
        have HA5 := Lib.hid (show (oa o).size = 5 from rfl)
        have o0 : (oa o)[0]? = some (.int .u64 o.n) := rfl
        have o4 : (oa o)[4]? = some (.int .i64 o.q) := rfl
        have HPa := Lib.hid (fun (w' : World) (g9 gb9 gs9 b9 : Nat) (h : BkG w' g9 gb9 gs9 b9 lb ls) => place_any o 2 h HI.out HOO.out)
        have HPb := Lib.hid (fun (w' : World) (g9 gb9 gs9 b9 : Nat) (h : BkG w' g9 gb9 gs9 b9 lb ls) => place_any o 1 h HI.out HOO.out)
        have HNW := Lib.hid (fun h9 => now_law (o := o) HI.out h9)
        have HTR := Lib.hid (fun t ht => (plc_trs (o := o) (k := 1) HI.out t ht).ok (fun x hx => by
          unfold oth at hx
          split at hx
          · exact HK.out.a.two.s.ok x hx
          · exact HK.out.a.two.b.ok x hx))
        generalize hA2 : plcF o 2 lb ls = A2 at *
        generalize hA1 : plcF o 1 lb ls = A1 at *
        generalize hOA : oa o = OA at *
        have HAE := Lib.hid (And.intro hA2 (And.intro hA1 hOA))
        clear hA2 hA1 hOA
        go_upto_region 11 with (first | ((with_reducible refine at_load 30 ?_); refine wpList_load_part rfl 30 _ rfl (w.heap.size) (0) rfl _ (OA) _ _ 5 (hxx) Try.underlying30 rfl (by kernel_rfl) (by rw [HA5.out]; omega) (OA) (HEX.out) ?_) | (go_at_call 14; (with_reducible refine ((HPa.out _ _ _ _ _ HK.out.a)).mono ?_); rintro e w3 hpa; obtain ⟨vt, vg, rfl, ht, hg⟩ := hpa.ex; obtain ⟨av, ac, rfl, hT, _⟩ := own_rows (c := 4) (fun i => rfl) ht; obtain ⟨bv, bc, rfl⟩ := own_formB hg; have HPR3 := Lib.hid (HK.out.one hpa.bs); have HB3 := Lib.hid hpa.bs.be; have HT1 := Lib.hid hT; clear ht hg hpa hT) | ((with_reducible refine at_alloc 41 ?_); refine wpList_alloc_named rfl 41 rfl (pl0) (by kernel_rfl) ?_) | ((with_reducible refine at_store 41 ?_); refine wpList_store_new rfl 41 _ _ rfl (#[.slice av A2.tr.length ac, .slice bv A2.gn.length bc, .int .i64 A2.fl, .int .i64 A2.lf]) _ _ _ rfl (by simp) rfl (by kernel_rfl) (by rfl) (pl_all) ?_))
        have hxx3 := (HB3.out.block _ (by omega)).trans hxx
        have HPR4 := Lib.hid (HPR3.out.below (below_new w3 (Obj.cells #[.slice av A2.tr.length ac, .slice bv A2.gn.length bc, .int .i64 A2.fl, .int .i64 A2.lf] 41)))
        have HNB := Lib.hid (below_new w3 (Obj.cells #[.slice av A2.tr.length ac, .slice bv A2.gn.length bc, .int .i64 A2.fl, .int .i64 A2.lf] 41))
        have hp1 := heap_alloc_new w3 (Obj.cells #[.slice av A2.tr.length ac, .slice bv A2.gn.length bc, .int .i64 A2.fl, .int .i64 A2.lf] 41)
        have hxx4 := heap_up (o := (Obj.cells #[.slice av A2.tr.length ac, .slice bv A2.gn.length bc, .int .i64 A2.fl, .int .i64 A2.lf] 41)) hxx3
        have HT14 := Lib.hid (rowsT_kept HT1.out HNB.out)
        obtain ⟨w4, hw4⟩ : ∃ w4, w4 = w3.alloc (Obj.cells #[.slice av A2.tr.length ac, .slice bv A2.gn.length bc, .int .i64 A2.fl, .int .i64 A2.lf] 41) := ⟨_, rfl⟩
        rw [← hw4] at HPR4 HNB hp1 hxx4 HT14 ⊢
        clear hw4
        go_upto_region 12 with (first | ((with_reducible refine at_load 30 ?_); refine wpList_load_part rfl 30 _ rfl (w.heap.size) (0) rfl _ (OA) _ _ 5 (hxx4) Try.underlying30 rfl (by kernel_rfl) (by rw [HA5.out]; omega) (OA) (HEX.out) ?_) | (go_at_call 14; (with_reducible refine ((HPb.out _ _ _ _ _ HPR4.out.b)).mono ?_); rintro e w5 hpa; obtain ⟨vt2, vg2, rfl, ht, hg⟩ := hpa.ex; obtain ⟨av2, ac2, rfl, hT, _⟩ := own_rows (c := 4) (fun i => rfl) ht; obtain ⟨bv2, bc2, rfl⟩ := own_formB hg; have HPR5 := Lib.hid (HPR4.out.two hpa.bs); have HB5 := Lib.hid hpa.bs.be; have hp15 := bks_T HPR4.out.b hpa.bs (by decide) (by decide) hp1; have HT15 := Lib.hid (rowsT_T HPR4.out.b hpa.bs (by decide) (by decide) HT14.out); have HT2 := Lib.hid hT; clear ht hg hpa hT) | ((with_reducible refine at_alloc 41 ?_); refine wpList_alloc_named rfl 41 rfl (pl0) (by kernel_rfl) ?_) | ((with_reducible refine at_store 41 ?_); refine wpList_store_new rfl 41 _ _ rfl (#[.slice av2 A1.tr.length ac2, .slice bv2 A1.gn.length bc2, .int .i64 A1.fl, .int .i64 A1.lf]) _ _ _ rfl (by simp) rfl (by kernel_rfl) (by rfl) (pl_all) ?_))
        have hxx5 := (HB5.out.block _ (by omega)).trans hxx4
        have hb56 := below_new w5 (Obj.cells #[.slice av2 A1.tr.length ac2, .slice bv2 A1.gn.length bc2, .int .i64 A1.fl, .int .i64 A1.lf] 41)
        have hxx6 := heap_up (o := (Obj.cells #[.slice av2 A1.tr.length ac2, .slice bv2 A1.gn.length bc2, .int .i64 A1.fl, .int .i64 A1.lf] 41)) hxx5
        have hp16 := heap_up (o := (Obj.cells #[.slice av2 A1.tr.length ac2, .slice bv2 A1.gn.length bc2, .int .i64 A1.fl, .int .i64 A1.lf] 41)) hp15
        have hp26 := heap_alloc_new w5 (Obj.cells #[.slice av2 A1.tr.length ac2, .slice bv2 A1.gn.length bc2, .int .i64 A1.fl, .int .i64 A1.lf] 41)
        have HPR6 := Lib.hid (HPR5.out.below hb56)
        have HT16 := Lib.hid (rowsT_kept HT15.out hb56)
        have HT26 := Lib.hid (rowsT_kept HT2.out hb56)
        have HB06 := Lib.hid (show Below w.heap.size w (w5.alloc (Obj.cells #[.slice av2 A1.tr.length ac2, .slice bv2 A1.gn.length bc2, .int .i64 A1.fl, .int .i64 A1.lf] 41)) from by
          have s3 := HB3.out.size
          have s4 := HNB.out.size
          have s5 := HB5.out.size
          exact (((((HBO.out.trans (HB.out.mono (by omega))).trans (HB3.out.mono (by omega))).trans (HNB.out.mono (by omega))).trans (HB5.out.mono (by omega))).trans (hb56.mono (by omega))))
        have hw6 : w.heap.size < (w5.alloc (Obj.cells #[.slice av2 A1.tr.length ac2, .slice bv2 A1.gn.length bc2, .int .i64 A1.fl, .int .i64 A1.lf] 41)).heap.size := by
          have s3 := HB3.out.size
          have s4 := HNB.out.size
          have s5 := HB5.out.size
          simp; omega
        obtain ⟨w6, hw6e⟩ : ∃ w6, w6 = w5.alloc (Obj.cells #[.slice av2 A1.tr.length ac2, .slice bv2 A1.gn.length bc2, .int .i64 A1.fl, .int .i64 A1.lf] 41) := ⟨_, rfl⟩
        rw [← hw6e] at hxx6 hp16 hp26 HPR6 HB06 hw6 HT16 HT26 ⊢
        clear hw6e hb56 hp15 hxx5 hxx4 hp1 hxx3 hxx HT15 HT14 HT1 HT2 HPR5 HPR4 HPR3 HPa HPb
        have c1 := cellF hxx6
        have c3 := cellF hp26
        by_cases h9 : A1.er = 9
        · have h9b : (A1.er == 9) = true := by rw [h9]; rfl
          go_wp2_with ((go_at_call 10; (with_reducible refine (known07 _).mono ?_); rintro e w7 ⟨rfl, hb7⟩))
          go_ret
          exact ⟨rfl, HB06.out.trans (hb7.mono (by omega))⟩
        · have h9b : (A1.er == 9) = false := beq_eq_false_iff_ne.2 h9
          have HN := Lib.hid (HNW.out h9)
          clear HNW
          obtain ⟨e1, e2, e3, e4, e5, _, _⟩ := HN.out
          rw [e2, e3, e4, e5] at hp16
          rw [e4] at HT16
          rw [e1]
          clear e1 e2 e3 e4 e5
          generalize hlf : A1.lf = lf at *
          by_cases h0 : 0 < lf
          · have h0b : decide (lf > 0) = true := decide_eq_true h0
            obtain ⟨y1, y2, y3⟩ := HN.out.yes (by rw [hlf]; exact h0)
            rw [hlf] at y1
            have HC := Lib.hid (show Calls Try.prog 17 #[.pointer (some ⟨g2, 0, none⟩), .int .u64 o.n] w6 fun e w' => e = .returned (.tuple #[.agg (oa { o with q := lf }), .int .i64 0]) ∧ BkS w6 w' g2 gb2 gs2 w1.heap.size A2.lb A2.ls from by
              have h := cancel_any o.n HPR6.out.b
              rw [y1, y2, y3, if_neg (by simp)] at h
              exact h)
            have HQ5 := Lib.hid (show (oa { o with q := lf }).size = 5 from rfl)
            have HQA := Lib.hid (oa_all { o with q := lf })
            have q4 : (oa { o with q := lf })[4]? = some (.int .i64 lf) := rfl
            generalize oa { o with q := lf } = OQ at *
            obtain ⟨_, q4'⟩ := Array.getElem?_eq_some_iff.1 q4
            clear y1 y2 y3
            go_upto_region 16 with (first | (go_at_call 17; (with_reducible refine (HC.out).mono ?_); rintro e w7 ⟨rfl, hs7⟩; have HPX7 := Lib.hid (HPR6.out.two hs7); have HB7 := Lib.hid hs7.be; have hp17 := bks_T HPR6.out.b hs7 (by decide) (by decide) hp16; have hp27 := bks_T HPR6.out.b hs7 (by decide) (by decide) hp26; have HT17 := Lib.hid (rowsT_T HPR6.out.b hs7 (by decide) (by decide) HT16.out); have HT27 := Lib.hid (rowsT_T HPR6.out.b hs7 (by decide) (by decide) HT26.out); clear hs7) | ((with_reducible refine at_alloc 30 ?_); refine wpList_alloc_named rfl 30 rfl (zo) (by kernel_rfl) ?_) | ((with_reducible refine at_store 30 ?_); refine wpList_store_new rfl 30 _ _ rfl (OQ) _ _ _ rfl (by simp) rfl (by rw [HQ5.out]; kernel_rfl) (by rw [HQ5.out]; rfl) (HQA.out) ?_))
            have hb78 := below_new w7 (Obj.cells OQ 30)
            have HPX := Lib.hid (HPX7.out.below hb78)
            have HP1X := Lib.hid (heap_up (o := Obj.cells OQ 30) hp17)
            have HP2X := Lib.hid (heap_up (o := Obj.cells OQ 30) hp27)
            have HT1X := Lib.hid (rowsT_kept HT17.out hb78)
            have HT2X := Lib.hid (rowsT_kept HT27.out hb78)
            have hox8 := heap_alloc_new w7 (Obj.cells OQ 30)
            have HBX0 := Lib.hid (show Below w.heap.size w (w7.alloc (Obj.cells OQ 30)) from (HB06.out.trans (HB7.out.mono (by omega))).trans (hb78.mono (by have := HB7.out.size; omega)))
            obtain ⟨w8x, hw8⟩ : ∃ w8x, w8x = w7.alloc (Obj.cells OQ 30) := ⟨_, rfl⟩
            rw [← hw8] at HPX HP1X HP2X HT1X HT2X hox8 HBX0 ⊢
            clear hw8 hb78 hp17 hp27 hp16 hp26 c1 c3 hxx6
            have ca := cellF hox8
            have cb := cellF HP2X.out
            go_upto_region 18 with fail
            clear ca cb hox8
            have HBK := Lib.hid (bi_plc (o := o) (k := 2) HI.out)
            rw [HAE.out.1] at HBK
            have hlen := bi_len HBK.out
            go_upto_region 19 with (first | (go_at_call 13; (with_reducible refine ((orders_in HPX.out.a hlen)).mono ?_); rintro e w8 ⟨⟨v8, rfl, ho8⟩, hb8⟩; obtain ⟨a8, c8, rfl, hR8, _⟩ := own_rows (c := 5) (fun i => (all_ord HPX.out.a i).size) ho8; rw [List.length_append] at hR8; have HPY := Lib.hid (HPX.out.below hb8); have HB8 := Lib.hid hb8; have HR8 := Lib.hid hR8; clear hb8 ho8 hR8) | (go_at_call 13; (with_reducible refine ((orders_in HPY.out.b hlen)).mono ?_); rintro e w9 ⟨⟨v9, rfl, ho9⟩, hb9⟩; obtain ⟨a9, c9, rfl, hR9, _⟩ := own_rows (c := 5) (fun i => (all_ord HPX.out.a i).size) ho9; rw [List.length_append] at hR9; have HB9 := Lib.hid hb9; have HR9 := Lib.hid hR9; clear hb9 ho9 hR9))
            have HOR := Lib.hid (all_ord HPX.out.a)
            have HB89 := Lib.hid (below_then HB8.out HB9.out)
            have HP1w := Lib.hid (Ytmjfbilhalkegaa.kept HB89.out HP1X.out)
            have HP2w := Lib.hid (Ytmjfbilhalkegaa.kept HB89.out HP2X.out)
            have HT1w := Lib.hid (rowsT_C (rowsT_kept HT1X.out HB89.out))
            have HT2w := Lib.hid (rowsT_C (rowsT_kept HT2X.out HB89.out))
            have HR8w := Lib.hid (rowsT_C (rowsT_kept HR8.out HB9.out))
            have HR9w := Lib.hid (rowsT_C HR9.out)
            have HBW := Lib.hid (HBX0.out.trans (HB89.out.mono (by have := HBX0.out.size; omega)))
            have hc1 := cellF HP1w.out
            have hc2 := cellF HP2w.out
            rw [List.length_append] at hlen
            generalize A2.lb.length + A2.ls.length = nl at *
            clear HPX HPY HB8 HB9 HB89 HR8 HR9 HT1X HT2X HP1X HP2X HBX0
            have hnlb : (nl : Int) ≤ 1000 := by omega
            generalize htr : A1.tr = TR at *
            have HTO := Lib.hid (show ∀ j, j < TR.length → OkT (trs TR j) from fun j hj => HTR.out _ (trs_in hj))
            clear htr
            generalize hLO : (fun i => oa (od (A2.lb ++ A2.ls) i)) = LO at *
            have HLO := Lib.hid (show ∀ i, IsOrd (LO i) from fun i => by rw [← hLO]; exact HOR.out i)
            clear hLO HOR
            generalize hLT : (fun i => ta (trs TR i)) = LT at *
            have HLT := Lib.hid (show ∀ i, i < TR.length → ∀ w : World, (binOp .neq 46 (.agg (LT i)) (.agg (LT i))).run Try.prog w = .ok (.bool false) w from fun i hi w => by rw [← hLT]; exact neq_tr (HTO.out i hi) w)
            clear hLT HTO HTR
            generalize hnt : TR.length = nt at *
            clear hnt
            generalize A1.gn.length = ng at *
            go_wp2
            go_loopg [135] nt (fun gh vi wx => ∃ i : Nat, i ≤ nt ∧ gh = nt - i ∧ vi = .int .i64 i ∧ Below w9.heap.size w9 wx)
            case atStart => exact ⟨0, by omega, by omega, rfl, Below.refl _ _⟩
            case round =>
              obtain ⟨i, hi, rfl, rfl, hb⟩ := hrel
              have HBX := Lib.hid hb
              clear hb
              by_cases hlt : i < nt
              · have hlti : (i : Int) < (nt : Int) := by omega
                obtain ⟨g1, o1, C1, t1, f1, rfl, hg1, hs1, hx1⟩ := (HT1w.out.kept HBX.out) i hlt
                obtain ⟨g3, o3, C3, t3, f3, rfl, hg3, hs3, hx3⟩ := (HT2w.out.kept HBX.out) i hlt
                have hneq := HLT.out i hlt
                have HX1 := Lib.hid hx1
                have HX3 := Lib.hid hx3
                have HP1v := Lib.hid (Ytmjfbilhalkegaa.kept HBX.out HP1w.out)
                have HP2v := Lib.hid (Ytmjfbilhalkegaa.kept HBX.out HP2w.out)
                clear hx1 hx3
                go_wp2
                refine wp_region_below (by kernel_rfl) (by kernel_rfl) ?_
                repeat (first | ((with_reducible apply q_skip); (case hw => rfl); (try simp only [Act.put, List.setIfInBounds_toArray, List.set_cons_zero, List.set_cons_succ])) | ((with_reducible refine at_qload 46 ?_); refine q_load_fr (by rfl) 46 _ rfl (g1) (o1 + i * 4) rfl _ (C1) _ _ 4 (hg1) Try.underlying46 rfl (by kernel_rfl) (hs1) (LT i) (HX1.out) ?_; try simp only [Act.put, List.setIfInBounds_toArray, List.set_cons_zero, List.set_cons_succ]) | ((with_reducible refine at_qload 46 ?_); refine q_load_fr (by rfl) 46 _ rfl (g3) (o3 + i * 4) rfl _ (C3) _ _ 4 (hg3) Try.underlying46 rfl (by kernel_rfl) (hs3) (LT i) (HX3.out) ?_; try simp only [Act.put, List.setIfInBounds_toArray, List.set_cons_zero, List.set_cons_succ]) | ((with_reducible apply q_val); (case hw => rfl); (case hv => intro wq hbq; have hcq := cellF (Ytmjfbilhalkegaa.kept hbq HP1v.out); have hcr := cellF (Ytmjfbilhalkegaa.kept hbq HP2v.out); go_simp; try rfl); (try simp only [Act.put, List.setIfInBounds_toArray, List.set_cons_zero, List.set_cons_succ])))
                refine q_nil ?_
                intro w4q hb4
                have HB4 := Lib.hid (below_then HBX.out hb4)
                clear hb4
                go_wp2
                go_roundg (nt - (i + 1))
                case measure => omega
                case rel => exact ⟨i + 1, by omega, rfl, by go_num, HB4.out⟩
              · obtain rfl : i = nt := by omega
                go_wp2
                go_loopg [152] nl (fun gh vi wx => ∃ j : Nat, j ≤ nl ∧ gh = nl - j ∧ vi = .int .i64 j ∧ Below w9.heap.size w9 wx)
                case atStart => exact ⟨0, by omega, by omega, rfl, HBX.out⟩
                case round =>
                  clear HBX
                  obtain ⟨j, hj, rfl, rfl, hb⟩ := hrel
                  have HBX := Lib.hid hb
                  clear hb
                  by_cases hlt : j < nl
                  · have hlti : (j : Int) < (nl : Int) := by omega
                    obtain ⟨g1, o1, C1, t1, f1, rfl, hg1, hs1, hx1⟩ := (HR8w.out.kept HBX.out) j hlt
                    obtain ⟨g3, o3, C3, t3, f3, rfl, hg3, hs3, hx3⟩ := (HR9w.out.kept HBX.out) j hlt
                    have hneq := neq_ord (HLO.out j)
                    have HX1 := Lib.hid hx1
                    have HX3 := Lib.hid hx3
                    clear hx1 hx3
                    go_wp2
                    refine wp_region_below (by kernel_rfl) (by kernel_rfl) ?_
                    repeat (first | ((with_reducible apply q_skip); (case hw => rfl); (try simp only [Act.put, List.setIfInBounds_toArray, List.set_cons_zero, List.set_cons_succ])) | ((with_reducible refine at_qload 30 ?_); refine q_load_fr (by rfl) 30 _ rfl (g1) (o1 + j * 5) rfl _ (C1) _ _ 5 (hg1) Try.underlying30 rfl (by kernel_rfl) (hs1) (LO j) (HX1.out) ?_; try simp only [Act.put, List.setIfInBounds_toArray, List.set_cons_zero, List.set_cons_succ]) | ((with_reducible refine at_qload 30 ?_); refine q_load_fr (by rfl) 30 _ rfl (g3) (o3 + j * 5) rfl _ (C3) _ _ 5 (hg3) Try.underlying30 rfl (by kernel_rfl) (hs3) (LO j) (HX3.out) ?_; try simp only [Act.put, List.setIfInBounds_toArray, List.set_cons_zero, List.set_cons_succ]) | ((with_reducible apply q_val); (case hw => rfl); (case hv => intro wq hbq; go_simp; try rfl); (try simp only [Act.put, List.setIfInBounds_toArray, List.set_cons_zero, List.set_cons_succ])))
                    refine q_nil ?_
                    intro w4q hb4
                    have HB4 := Lib.hid (below_then HBX.out hb4)
                    clear hb4
                    go_wp2
                    go_roundg (nl - (j + 1))
                    case measure => omega
                    case rel => exact ⟨j + 1, by omega, rfl, by go_num, HB4.out⟩
                  · obtain rfl : j = nl := by omega
                    go_wp2_with ((go_at_call 10; (with_reducible refine (known07 _).mono ?_); rintro e w5 ⟨rfl, hb5⟩))
                    go_ret
                    exact ⟨rfl, HBW.out.trans ((below_then HBX.out hb5).mono (by have := HBW.out.size; omega))⟩

          · have h0b : decide (lf > 0) = false := decide_eq_false h0
            obtain ⟨y1, y2⟩ := HN.out.no (by rw [hlf]; exact h0)
            have HPX := Lib.hid (show Pair w6 g gb gs wb.heap.size A2.lb A2.ls g2 gb2 gs2 w1.heap.size A2.lb A2.ls from by have h := HPR6.out; rw [y1, y2] at h; exact h)
            have HP1X := Lib.hid hp16
            have HP2X := Lib.hid hp26
            have HT1X := Lib.hid HT16.out
            have HT2X := Lib.hid HT26.out
            have HBX0 := Lib.hid HB06.out
            clear y1 y2
            go_upto_region 18 with fail
            clear hp16 hp26 c1 c3 hxx6
            have HBK := Lib.hid (bi_plc (o := o) (k := 2) HI.out)
            rw [HAE.out.1] at HBK
            have hlen := bi_len HBK.out
            go_upto_region 19 with (first | (go_at_call 13; (with_reducible refine ((orders_in HPX.out.a hlen)).mono ?_); rintro e w8 ⟨⟨v8, rfl, ho8⟩, hb8⟩; obtain ⟨a8, c8, rfl, hR8, _⟩ := own_rows (c := 5) (fun i => (all_ord HPX.out.a i).size) ho8; rw [List.length_append] at hR8; have HPY := Lib.hid (HPX.out.below hb8); have HB8 := Lib.hid hb8; have HR8 := Lib.hid hR8; clear hb8 ho8 hR8) | (go_at_call 13; (with_reducible refine ((orders_in HPY.out.b hlen)).mono ?_); rintro e w9 ⟨⟨v9, rfl, ho9⟩, hb9⟩; obtain ⟨a9, c9, rfl, hR9, _⟩ := own_rows (c := 5) (fun i => (all_ord HPX.out.a i).size) ho9; rw [List.length_append] at hR9; have HB9 := Lib.hid hb9; have HR9 := Lib.hid hR9; clear hb9 ho9 hR9))
            have HOR := Lib.hid (all_ord HPX.out.a)
            have HB89 := Lib.hid (below_then HB8.out HB9.out)
            have HP1w := Lib.hid (Ytmjfbilhalkegaa.kept HB89.out HP1X.out)
            have HP2w := Lib.hid (Ytmjfbilhalkegaa.kept HB89.out HP2X.out)
            have HT1w := Lib.hid (rowsT_C (rowsT_kept HT1X.out HB89.out))
            have HT2w := Lib.hid (rowsT_C (rowsT_kept HT2X.out HB89.out))
            have HR8w := Lib.hid (rowsT_C (rowsT_kept HR8.out HB9.out))
            have HR9w := Lib.hid (rowsT_C HR9.out)
            have HBW := Lib.hid (HBX0.out.trans (HB89.out.mono (by have := HBX0.out.size; omega)))
            have hc1 := cellF HP1w.out
            have hc2 := cellF HP2w.out
            rw [List.length_append] at hlen
            generalize A2.lb.length + A2.ls.length = nl at *
            clear HPX HPY HB8 HB9 HB89 HR8 HR9 HT1X HT2X HP1X HP2X HBX0
            have hnlb : (nl : Int) ≤ 1000 := by omega
            generalize htr : A1.tr = TR at *
            have HTO := Lib.hid (show ∀ j, j < TR.length → OkT (trs TR j) from fun j hj => HTR.out _ (trs_in hj))
            clear htr
            generalize hLO : (fun i => oa (od (A2.lb ++ A2.ls) i)) = LO at *
            have HLO := Lib.hid (show ∀ i, IsOrd (LO i) from fun i => by rw [← hLO]; exact HOR.out i)
            clear hLO HOR
            generalize hLT : (fun i => ta (trs TR i)) = LT at *
            have HLT := Lib.hid (show ∀ i, i < TR.length → ∀ w : World, (binOp .neq 46 (.agg (LT i)) (.agg (LT i))).run Try.prog w = .ok (.bool false) w from fun i hi w => by rw [← hLT]; exact neq_tr (HTO.out i hi) w)
            clear hLT HTO HTR
            generalize hnt : TR.length = nt at *
            clear hnt
            generalize A1.gn.length = ng at *
            go_wp2
            go_loopg [135] nt (fun gh vi wx => ∃ i : Nat, i ≤ nt ∧ gh = nt - i ∧ vi = .int .i64 i ∧ Below w9.heap.size w9 wx)
            case atStart => exact ⟨0, by omega, by omega, rfl, Below.refl _ _⟩
            case round =>
              obtain ⟨i, hi, rfl, rfl, hb⟩ := hrel
              have HBX := Lib.hid hb
              clear hb
              by_cases hlt : i < nt
              · have hlti : (i : Int) < (nt : Int) := by omega
                obtain ⟨g1, o1, C1, t1, f1, rfl, hg1, hs1, hx1⟩ := (HT1w.out.kept HBX.out) i hlt
                obtain ⟨g3, o3, C3, t3, f3, rfl, hg3, hs3, hx3⟩ := (HT2w.out.kept HBX.out) i hlt
                have hneq := HLT.out i hlt
                have HX1 := Lib.hid hx1
                have HX3 := Lib.hid hx3
                have HP1v := Lib.hid (Ytmjfbilhalkegaa.kept HBX.out HP1w.out)
                have HP2v := Lib.hid (Ytmjfbilhalkegaa.kept HBX.out HP2w.out)
                clear hx1 hx3
                go_wp2
                refine wp_region_below (by kernel_rfl) (by kernel_rfl) ?_
                repeat (first | ((with_reducible apply q_skip); (case hw => rfl); (try simp only [Act.put, List.setIfInBounds_toArray, List.set_cons_zero, List.set_cons_succ])) | ((with_reducible refine at_qload 46 ?_); refine q_load_fr (by rfl) 46 _ rfl (g1) (o1 + i * 4) rfl _ (C1) _ _ 4 (hg1) Try.underlying46 rfl (by kernel_rfl) (hs1) (LT i) (HX1.out) ?_; try simp only [Act.put, List.setIfInBounds_toArray, List.set_cons_zero, List.set_cons_succ]) | ((with_reducible refine at_qload 46 ?_); refine q_load_fr (by rfl) 46 _ rfl (g3) (o3 + i * 4) rfl _ (C3) _ _ 4 (hg3) Try.underlying46 rfl (by kernel_rfl) (hs3) (LT i) (HX3.out) ?_; try simp only [Act.put, List.setIfInBounds_toArray, List.set_cons_zero, List.set_cons_succ]) | ((with_reducible apply q_val); (case hw => rfl); (case hv => intro wq hbq; have hcq := cellF (Ytmjfbilhalkegaa.kept hbq HP1v.out); have hcr := cellF (Ytmjfbilhalkegaa.kept hbq HP2v.out); go_simp; try rfl); (try simp only [Act.put, List.setIfInBounds_toArray, List.set_cons_zero, List.set_cons_succ])))
                refine q_nil ?_
                intro w4q hb4
                have HB4 := Lib.hid (below_then HBX.out hb4)
                clear hb4
                go_wp2
                go_roundg (nt - (i + 1))
                case measure => omega
                case rel => exact ⟨i + 1, by omega, rfl, by go_num, HB4.out⟩
              · obtain rfl : i = nt := by omega
                go_wp2
                go_loopg [152] nl (fun gh vi wx => ∃ j : Nat, j ≤ nl ∧ gh = nl - j ∧ vi = .int .i64 j ∧ Below w9.heap.size w9 wx)
                case atStart => exact ⟨0, by omega, by omega, rfl, HBX.out⟩
                case round =>
                  clear HBX
                  obtain ⟨j, hj, rfl, rfl, hb⟩ := hrel
                  have HBX := Lib.hid hb
                  clear hb
                  by_cases hlt : j < nl
                  · have hlti : (j : Int) < (nl : Int) := by omega
                    obtain ⟨g1, o1, C1, t1, f1, rfl, hg1, hs1, hx1⟩ := (HR8w.out.kept HBX.out) j hlt
                    obtain ⟨g3, o3, C3, t3, f3, rfl, hg3, hs3, hx3⟩ := (HR9w.out.kept HBX.out) j hlt
                    have hneq := neq_ord (HLO.out j)
                    have HX1 := Lib.hid hx1
                    have HX3 := Lib.hid hx3
                    clear hx1 hx3
                    go_wp2
                    refine wp_region_below (by kernel_rfl) (by kernel_rfl) ?_
                    repeat (first | ((with_reducible apply q_skip); (case hw => rfl); (try simp only [Act.put, List.setIfInBounds_toArray, List.set_cons_zero, List.set_cons_succ])) | ((with_reducible refine at_qload 30 ?_); refine q_load_fr (by rfl) 30 _ rfl (g1) (o1 + j * 5) rfl _ (C1) _ _ 5 (hg1) Try.underlying30 rfl (by kernel_rfl) (hs1) (LO j) (HX1.out) ?_; try simp only [Act.put, List.setIfInBounds_toArray, List.set_cons_zero, List.set_cons_succ]) | ((with_reducible refine at_qload 30 ?_); refine q_load_fr (by rfl) 30 _ rfl (g3) (o3 + j * 5) rfl _ (C3) _ _ 5 (hg3) Try.underlying30 rfl (by kernel_rfl) (hs3) (LO j) (HX3.out) ?_; try simp only [Act.put, List.setIfInBounds_toArray, List.set_cons_zero, List.set_cons_succ]) | ((with_reducible apply q_val); (case hw => rfl); (case hv => intro wq hbq; go_simp; try rfl); (try simp only [Act.put, List.setIfInBounds_toArray, List.set_cons_zero, List.set_cons_succ])))
                    refine q_nil ?_
                    intro w4q hb4
                    have HB4 := Lib.hid (below_then HBX.out hb4)
                    clear hb4
                    go_wp2
                    go_roundg (nl - (j + 1))
                    case measure => omega
                    case rel => exact ⟨j + 1, by omega, rfl, by go_num, HB4.out⟩
                  · obtain rfl : j = nl := by omega
                    go_wp2_with ((go_at_call 10; (with_reducible refine (known07 _).mono ?_); rintro e w5 ⟨rfl, hb5⟩))
                    go_ret
                    exact ⟨rfl, HBW.out.trans ((below_then HBX.out hb5).mono (by have := HBW.out.size; omega))⟩
end Go.Proofs.Ytmjfbilhalkegaa
