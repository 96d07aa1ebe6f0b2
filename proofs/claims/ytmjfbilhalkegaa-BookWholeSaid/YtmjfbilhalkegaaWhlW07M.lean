/- BookWhole, walked: it returns true. Condition: the numbers fit their kinds. -/
import Derived.Test.YtmjfbilhalkegaaWhlP07M
import Derived.Test.YtmjfbilhalkegaaMgUncLaw0717
namespace Go.Proofs.Ytmjfbilhalkegaa
set_option linter.unusedVariables false
set_option linter.unusedSimpArgs false
open Go.RowKit Go.Deep

set_option maxRecDepth 100000 in
set_option maxHeartbeats 8000000 in
theorem whole07_walk (a : Option Addr) (n cap : Nat) (L : Nat → Array Value) (A : Array Value) (w : World) (hL : ∀ i, IsOp (L i)) (hR : RowsC w 7 a n L) (hn : n ≤ cap) (hc : cap ≤ 9223372036854775807) (hA : IsOrd A) :
    Calls Try.prog 7 #[.slice a n cap, .agg A] w fun e w' => e = .returned (.bool true) ∧ Below w.heap.size w w' := by
  have hpe : ∀ (w : World) (g : Nat), (binOp .eql 23 (.pointer (some ⟨g, 0, none⟩)) (.pointer none)).run Try.prog w = .ok (.bool false) w := fun _ _ => by kernel_rfl
  have hpn : ∀ (w : World) (g : Nat), (binOp .neq 23 (.pointer (some ⟨g, 0, none⟩)) (.pointer none)).run Try.prog w = .ok (.bool true) w := fun _ _ => by kernel_rfl
  have HL := Lib.hid hL
  have HR := Lib.hid hR
  have hAo : oa (ox A) = A := oa_ox hA
  have hOk : OkO (ox A) := ox_ok hA
  obtain ⟨o, ho⟩ : ∃ o, o = ox A := ⟨_, rfl⟩
  rw [← ho] at hAo hOk
  subst hAo
  have HOO := Lib.hid hOk
  clear ho hA hL hR hOk
  have hob := below_new w (Obj.cells (oa o) 30)
  have hox := heap_alloc_new w (Obj.cells (oa o) 30)
  have hobs : (w.alloc (Obj.cells (oa o) 30)).heap.size = w.heap.size + 1 := by simp
  by_cases hlen : 100 < n
  · have hlen2 : (100 : Int) < (n : Int) := by omega
    go_enter Try.func7, Try.ntmps7
    go_wp2_with (first | (go_at_call 9; (with_reducible refine (bnew_any _).mono ?_); rintro e w1 ⟨g, gb, gs, rfl, hB, hb⟩; have HB := Lib.hid hb; clear hB hb) | (go_at_call 10; (with_reducible refine (known07 _).mono ?_); rintro e w5 ⟨rfl, hb5⟩))
    go_ret
    exact ⟨rfl, below_then (below_then hob HB.out) hb5⟩
  · have hlen2 : ¬ (100 : Int) < (n : Int) := by omega
    have hn150 : (n : Int) ≤ 100 := by omega
    go_enter Try.func7, Try.ntmps7
    go_wp2_with ((go_at_call 9; (with_reducible refine (bnew_any _).mono ?_); rintro e w1 ⟨g, gb, gs, rfl, hB, hb⟩; have HB1 := Lib.hid (And.intro hB hb); clear hB hb))
    obtain ⟨wb, hwb⟩ : ∃ wb, wb = w.alloc (Obj.cells (oa o) 30) := ⟨_, rfl⟩
    rw [← hwb] at hob hox hobs HB1
    clear hwb
    have HBO := Lib.hid hob
    have HOX := Lib.hid hox
    clear hob hox
    go_loopg [29] n (fun gh vi wx => ∃ (i : Nat) (lb ls : List Od), i ≤ n ∧ gh = n - i ∧ vi = .int .i64 i ∧ BkG wx g gb gs wb.heap.size lb ls ∧ BiX true lb ls ∧ Below wb.heap.size wb wx)
    case atStart => exact ⟨0, [], [], by omega, by omega, rfl, HB1.out.1, bi_new, HB1.out.2⟩
    case round =>
      obtain ⟨i, lb, ls, hi, rfl, rfl, hbk, hbi, hb⟩ := hrel
      have HK := Lib.hid hbk
      have HI := Lib.hid hbi
      have HB := Lib.hid hb
      clear hbk hbi hb HB1
      by_cases hi : i < n
      · have hii : (i : Int) < (n : Int) := by omega
        obtain ⟨g2, off2, A2, t2, fr2, rfl, hg2, hn2, hx2⟩ := (HR.out.kept (below_then HBO.out HB.out)) i hi
        have HP := Lib.hid (play_any (L i) (HL.out i) HK.out HI.out)
        go_wp2_with (first | ((with_reducible refine at_load 33 ?_); refine wpList_load_part rfl 33 _ rfl (g2) (off2 + i * 7) rfl _ (A2) _ _ 7 (hg2) Try.underlying33 rfl (by kernel_rfl) (hn2) (L i) (hx2) ?_) | (go_at_call 11; (with_reducible refine (HP.out).mono ?_); rintro e w3 ⟨⟨v3, rfl⟩, hs3⟩; have HS := Lib.hid hs3; have HI3 := Lib.hid (show BiX true (opF (L i) lb ls).1 (opF (L i) lb ls).2 from bi_ply HI.out); clear hs3))
        go_roundg (n - (i + 1))
        case measure => omega
        case rel => exact ⟨i + 1, _, _, by omega, rfl, by go_num, HS.out.bk, HI3.out, HB.out.trans HS.out.be⟩
      · obtain rfl : i = n := by omega
        have hxx := Ytmjfbilhalkegaa.kept HB.out HOX.out
        have HEX := Lib.hid (extract_all (show (oa o).size = 5 from rfl))
        have HA5 := Lib.hid (show (oa o).size = 5 from rfl)
        have o4 : (oa o)[4]? = some (.int .i64 o.q) := rfl
        have HP3 := Lib.hid (fun (w' : World) (g9 gb9 gs9 b9 : Nat) (h : BkG w' g9 gb9 gs9 b9 lb ls) => place_any o 3 h HI.out HOO.out)
        have HP4 := Lib.hid (fun (w' : World) (g9 gb9 gs9 b9 : Nat) (h : BkG w' g9 gb9 gs9 b9 lb ls) => place_any o 4 h HI.out HOO.out)
        have HN3 := Lib.hid (fun (h : (plcF o 3 lb ls).er ≠ 0) => (show (plcF o 3 lb ls).lb = lb ∧ (plcF o 3 lb ls).ls = ls by have := plc_no h; rw [this]; exact ⟨rfl, rfl⟩))
        have HF3 := Lib.hid (fun (h : (plcF o 3 lb ls).er = 0) => (⟨(whole_all HI.out h).1, (whole_all HI.out h).2.1⟩ : (plcF o 3 lb ls).fl = o.q ∧ (plcF o 3 lb ls).lf = 0))
        have HF4 := Lib.hid (fun (h : (plcF o 4 lb ls).er = 0) => (⟨(whole_post HI.out h).1, (whole_post HI.out h).2.1, by rw [(whole_post HI.out h).2.2.1]; rfl⟩ : (plcF o 4 lb ls).fl = 0 ∧ (plcF o 4 lb ls).lf = o.q ∧ (plcF o 4 lb ls).tr.length = 0))
        have HX := Lib.hid (fun h1 h2 => whole_not (o := o) HI.out h1 h2)
        generalize hA3 : plcF o 3 lb ls = A3 at *
        generalize hA4 : plcF o 4 lb ls = A4 at *
        generalize hOA : oa o = OA at *
        have HAE := Lib.hid (And.intro hA3 (And.intro hA4 hOA))
        clear hA3 hA4 hOA
        go_upto_region 11 with (first | (go_at_call 18; (with_reducible refine ((bcopy_in HK.out)).mono ?_); rintro e w2 ⟨g2, gb2, gs2, rfl, hB2, hb2⟩; have HPR := Lib.hid (pair_new HK.out hb2 hB2 (Nat.le_refl _)); have HB2 := Lib.hid hb2; have hxx2 := Ytmjfbilhalkegaa.kept hb2 hxx; clear hB2 hb2) | ((with_reducible refine at_load 30 ?_); refine wpList_load_part rfl 30 _ rfl (w.heap.size) (0) rfl _ (OA) _ _ 5 (hxx2) Try.underlying30 rfl (by kernel_rfl) (by rw [HA5.out]; omega) (OA) (HEX.out) ?_) | (go_at_call 14; (with_reducible refine ((HP3.out _ _ _ _ _ HPR.out.a)).mono ?_); rintro e w3 hpa; obtain ⟨vt, vg, rfl, ht, hg⟩ := hpa.ex; obtain ⟨av, ac, rfl⟩ := own_formB ht; obtain ⟨bv, bc, rfl⟩ := own_formB hg; have HPR3 := Lib.hid (HPR.out.one hpa.bs); have HB3 := Lib.hid hpa.bs.be; clear ht hg hpa) | ((with_reducible refine at_alloc 41 ?_); refine wpList_alloc_named rfl 41 rfl (pl0) (by kernel_rfl) ?_) | ((with_reducible refine at_store 41 ?_); refine wpList_store_new rfl 41 _ _ rfl (#[.slice av A3.tr.length ac, .slice bv A3.gn.length bc, .int .i64 A3.fl, .int .i64 A3.lf]) _ _ _ rfl (by simp) rfl (by kernel_rfl) (by rfl) (pl_all) ?_))
        have hz2 : wb.heap.size ≤ w2.heap.size := by have := HB.out.size; have := HB2.out.size; omega
        have hxx3 := (HB3.out.block _ (by omega)).trans hxx2
        have HPR4 := Lib.hid (HPR3.out.below (below_new w3 (Obj.cells #[.slice av A3.tr.length ac, .slice bv A3.gn.length bc, .int .i64 A3.fl, .int .i64 A3.lf] 41)))
        have HNB := Lib.hid (below_new w3 (Obj.cells #[.slice av A3.tr.length ac, .slice bv A3.gn.length bc, .int .i64 A3.fl, .int .i64 A3.lf] 41))
        have hp1 := heap_alloc_new w3 (Obj.cells #[.slice av A3.tr.length ac, .slice bv A3.gn.length bc, .int .i64 A3.fl, .int .i64 A3.lf] 41)
        have hxx4 := heap_up (o := Obj.cells #[.slice av A3.tr.length ac, .slice bv A3.gn.length bc, .int .i64 A3.fl, .int .i64 A3.lf] 41) hxx3
        obtain ⟨w4, hw4⟩ : ∃ w4, w4 = w3.alloc (Obj.cells #[.slice av A3.tr.length ac, .slice bv A3.gn.length bc, .int .i64 A3.fl, .int .i64 A3.lf] 41) := ⟨_, rfl⟩
        rw [← hw4] at HPR4 HNB hp1 hxx4 ⊢
        clear hw4
        go_upto_region 12 with (first | ((with_reducible refine at_load 30 ?_); refine wpList_load_part rfl 30 _ rfl (w.heap.size) (0) rfl _ (OA) _ _ 5 (hxx4) Try.underlying30 rfl (by kernel_rfl) (by rw [HA5.out]; omega) (OA) (HEX.out) ?_) | (go_at_call 14; (with_reducible refine ((HP4.out _ _ _ _ _ HPR4.out.b)).mono ?_); rintro e w5 hpa; obtain ⟨vt2, vg2, rfl, ht, hg⟩ := hpa.ex; obtain ⟨av2, ac2, rfl⟩ := own_formB ht; obtain ⟨bv2, bc2, rfl⟩ := own_formB hg; have HPR5 := Lib.hid (HPR4.out.two hpa.bs); have HB5 := Lib.hid hpa.bs.be; have hp15 := keep_box HPR3.out.b HNB.out (Nat.le_refl _) hp1 hpa.bs; clear ht hg hpa) | ((with_reducible refine at_alloc 41 ?_); refine wpList_alloc_named rfl 41 rfl (pl0) (by kernel_rfl) ?_) | ((with_reducible refine at_store 41 ?_); refine wpList_store_new rfl 41 _ _ rfl (#[.slice av2 A4.tr.length ac2, .slice bv2 A4.gn.length bc2, .int .i64 A4.fl, .int .i64 A4.lf]) _ _ _ rfl (by simp) rfl (by kernel_rfl) (by rfl) (pl_all) ?_))
        have hwr : wb.heap.size ≤ wr.heap.size := HB.out.size
        have hxx5 := (HB5.out.block _ (by omega)).trans hxx4
        have hb56 := below_new w5 (Obj.cells #[.slice av2 A4.tr.length ac2, .slice bv2 A4.gn.length bc2, .int .i64 A4.fl, .int .i64 A4.lf] 41)
        have hxx6 := heap_up (o := (Obj.cells #[.slice av2 A4.tr.length ac2, .slice bv2 A4.gn.length bc2, .int .i64 A4.fl, .int .i64 A4.lf] 41)) hxx5
        have hp16 := heap_up (o := (Obj.cells #[.slice av2 A4.tr.length ac2, .slice bv2 A4.gn.length bc2, .int .i64 A4.fl, .int .i64 A4.lf] 41)) hp15
        have hp26 := heap_alloc_new w5 (Obj.cells #[.slice av2 A4.tr.length ac2, .slice bv2 A4.gn.length bc2, .int .i64 A4.fl, .int .i64 A4.lf] 41)
        have HPR6 := Lib.hid (HPR5.out.below hb56)
        have HB06 := Lib.hid (show Below w.heap.size w (w5.alloc (Obj.cells #[.slice av2 A4.tr.length ac2, .slice bv2 A4.gn.length bc2, .int .i64 A4.fl, .int .i64 A4.lf] 41)) from by
          have s2 := HB2.out.size
          have s3 := HB3.out.size
          have s4 := HNB.out.size
          have s5 := HB5.out.size
          exact ((((((HBO.out.trans (HB.out.mono (by omega))).trans (HB2.out.mono (by omega))).trans (HB3.out.mono (by omega))).trans (HNB.out.mono (by omega))).trans (HB5.out.mono (by omega))).trans (hb56.mono (by omega)))) 
        have hw6 : wr.heap.size ≤ (w5.alloc (Obj.cells #[.slice av2 A4.tr.length ac2, .slice bv2 A4.gn.length bc2, .int .i64 A4.fl, .int .i64 A4.lf] 41)).heap.size := by
          have s2 := HB2.out.size
          have s3 := HB3.out.size
          have s4 := HNB.out.size
          have s5 := HB5.out.size
          simp; omega
        obtain ⟨w6, hw6e⟩ : ∃ w6, w6 = w5.alloc (Obj.cells #[.slice av2 A4.tr.length ac2, .slice bv2 A4.gn.length bc2, .int .i64 A4.fl, .int .i64 A4.lf] 41) := ⟨_, rfl⟩
        rw [← hw6e] at hxx6 hp16 hp26 HPR6 HB06 hw6 ⊢
        clear hw6e hb56 hp15 hxx5 hxx4 hp1
        have c1 := cellF hxx6
        have c2 := cellF hp16
        have c3 := cellF hp26
        generalize hea : A3.er = ea at *
        generalize A3.fl = fa at *
        generalize A3.lf = la at *
        generalize A4.er = eb at *
        generalize A4.fl = fb at *
        generalize A4.lf = lf at *
        generalize A4.tr.length = nt at *
        by_cases h0 : ea = 0
        · have heb : (eb == 0) = false := beq_eq_false_iff_ne.2 (fun h => HX.out h0 h)
          obtain ⟨f1, f2⟩ := HF3.out h0
          clear hea
          subst f1 f2 h0
          go_wp2_with ((go_at_call 10; (with_reducible refine (known07 _).mono ?_); rintro e w9 ⟨rfl, hb9⟩))
          go_ret
          exact ⟨rfl, HB06.out.trans (hb9.mono (by omega))⟩
        · have h0b : (ea == 0) = false := beq_eq_false_iff_ne.2 h0
          by_cases h1 : eb = 0
          · obtain ⟨f1, f2, f3⟩ := HF4.out h1
            subst f1 f2 f3 h1
            by_cases h70 : ea = 70
            · have HPR7 := Lib.hid (show Pair w6 g gb gs wb.heap.size lb ls g2 gb2 gs2 wr.heap.size A4.lb A4.ls from by have h := HPR6.out; rw [(HN3.out h0).1, (HN3.out h0).2] at h; exact h)
              have HEA := Lib.hid (hea.trans h70)
              clear hea
              subst h70
              go_wp2_with (first | ((with_reducible refine at_load 30 ?_); refine wpList_load_part rfl 30 _ rfl (w.heap.size) (0) rfl _ (OA) _ _ 5 (hxx6) Try.underlying30 rfl (by kernel_rfl) (by rw [HA5.out]; omega) (OA) (HEX.out) ?_) | (go_at_call 14; (with_reducible refine ((HP3.out _ _ _ _ _ HPR7.out.a)).mono ?_); rintro e w7 hpa; obtain ⟨vt3, vg3, rfl, ht, hg⟩ := hpa.ex; obtain ⟨av3, ac3, rfl⟩ := own_formB ht; obtain ⟨bv3, bc3, rfl⟩ := own_formB hg; rw [HEA.out]; have HB7 := Lib.hid hpa.bs.be; clear ht hg hpa) | ((with_reducible refine at_alloc 41 ?_); refine wpList_alloc_named rfl 41 rfl (pl0) (by kernel_rfl) ?_) | ((with_reducible refine at_store 41 ?_); refine wpList_store_new rfl 41 _ _ rfl (#[.slice av3 A3.tr.length ac3, .slice bv3 A3.gn.length bc3, .int .i64 A3.fl, .int .i64 A3.lf]) _ _ _ rfl (by simp) rfl (by kernel_rfl) (by rfl) (pl_all) ?_) | (go_at_call 10; (with_reducible refine (known07 _).mono ?_); rintro e w9 ⟨rfl, hb9⟩))
              go_ret
              exact ⟨rfl, (HB06.out.trans (HB7.out.mono (by omega))).trans ((below_then (below_new w7 _) hb9).mono (by have := HB7.out.size; omega))⟩
            · have h70b : (ea == 70) = false := beq_eq_false_iff_ne.2 h70
              clear hea
              go_wp2_with ((go_at_call 10; (with_reducible refine (known07 _).mono ?_); rintro e w9 ⟨rfl, hb9⟩))
              go_ret
              exact ⟨rfl, HB06.out.trans (hb9.mono (by omega))⟩
          · have h1b : (eb == 0) = false := beq_eq_false_iff_ne.2 h1
            by_cases h70 : ea = 70
            · have HPR7 := Lib.hid (show Pair w6 g gb gs wb.heap.size lb ls g2 gb2 gs2 wr.heap.size A4.lb A4.ls from by have h := HPR6.out; rw [(HN3.out h0).1, (HN3.out h0).2] at h; exact h)
              have HEA := Lib.hid (hea.trans h70)
              clear hea
              subst h70
              go_wp2_with (first | ((with_reducible refine at_load 30 ?_); refine wpList_load_part rfl 30 _ rfl (w.heap.size) (0) rfl _ (OA) _ _ 5 (hxx6) Try.underlying30 rfl (by kernel_rfl) (by rw [HA5.out]; omega) (OA) (HEX.out) ?_) | (go_at_call 14; (with_reducible refine ((HP3.out _ _ _ _ _ HPR7.out.a)).mono ?_); rintro e w7 hpa; obtain ⟨vt3, vg3, rfl, ht, hg⟩ := hpa.ex; obtain ⟨av3, ac3, rfl⟩ := own_formB ht; obtain ⟨bv3, bc3, rfl⟩ := own_formB hg; rw [HEA.out]; have HB7 := Lib.hid hpa.bs.be; clear ht hg hpa) | ((with_reducible refine at_alloc 41 ?_); refine wpList_alloc_named rfl 41 rfl (pl0) (by kernel_rfl) ?_) | ((with_reducible refine at_store 41 ?_); refine wpList_store_new rfl 41 _ _ rfl (#[.slice av3 A3.tr.length ac3, .slice bv3 A3.gn.length bc3, .int .i64 A3.fl, .int .i64 A3.lf]) _ _ _ rfl (by simp) rfl (by kernel_rfl) (by rfl) (pl_all) ?_) | (go_at_call 10; (with_reducible refine (known07 _).mono ?_); rintro e w9 ⟨rfl, hb9⟩))
              go_ret
              exact ⟨rfl, (HB06.out.trans (HB7.out.mono (by omega))).trans ((below_then (below_new w7 _) hb9).mono (by have := HB7.out.size; omega))⟩
            · have h70b : (ea == 70) = false := beq_eq_false_iff_ne.2 h70
              clear hea
              go_wp2_with ((go_at_call 10; (with_reducible refine (known07 _).mono ?_); rintro e w9 ⟨rfl, hb9⟩))
              go_ret
              exact ⟨rfl, HB06.out.trans (hb9.mono (by omega))⟩
end Go.Proofs.Ytmjfbilhalkegaa
